/- Small plain lemmas on wrapping that the walks use. No condition. -/
import Derived.Test.YtlbiodghappdcaaWMore
namespace Go.Proofs.Ytlbiodghappdcaa.Bs
open Go.RowKit

theorem wrap_u64 (n : Int) (h0 : 0 ≤ n) (h1 : n < 18446744073709551616) : IntKind.u64.wrap n = n := by
  unfold IntKind.wrap
  have e : (2 : Int) ^ IntKind.u64.bits = 18446744073709551616 := by decide
  have s : IntKind.u64.signed = false := rfl
  simp only [e, s, Bool.false_and]
  rw [if_neg (by simp)]
  omega
theorem wrap_u64_mod (n : Int) : IntKind.u64.wrap n = n % 18446744073709551616 := by
  unfold IntKind.wrap
  have e : (2 : Int) ^ IntKind.u64.bits = 18446744073709551616 := by decide
  have s : IntKind.u64.signed = false := rfl
  simp only [e, s, Bool.false_and]
  rw [if_neg (by simp)]
theorem wrap64_id (n : Int) (h0 : -9223372036854775808 ≤ n) (h1 : n ≤ 9223372036854775807) : wrap64 n = n := by
  unfold wrap64
  omega

end Go.Proofs.Ytlbiodghappdcaa.Bs
