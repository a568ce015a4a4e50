/- Plain facts on a number's bytes (sevens of bits): lengths, ranges, and that two numbers' bytes that begin one text are one number's. No condition. -/
import Derived.Test.YtlbiodghappdcaaHB
namespace Go.Proofs.Ytlbiodghappdcaa.Bs
open Go.RowKit Go.Proofs.YtlbiodghappdcaaW.PrintWords Go.Proofs.YtlbiodghappdcaaW.PrintLast Go.Proofs.YtlbiodghappdcaaW.PrintMore

/-- A number's bytes. -/
def putB (n : Nat) : List Int := if n < 128 then [(n : Int)] else ((n % 128 + 128 : Nat) : Int) :: putB (n / 128)
termination_by n
decreasing_by omega

theorem putB_small {n : Nat} (h : n < 128) : putB n = [(n : Int)] := by rw [putB, if_pos h]
theorem putB_big {n : Nat} (h : 128 ≤ n) : putB n = ((n % 128 + 128 : Nat) : Int) :: putB (n / 128) := by rw [putB, if_neg (by omega)]
theorem putB_pos (n : Nat) : 0 < (putB n).length := by
  by_cases h : n < 128
  · rw [putB_small h]; simp
  · rw [putB_big (by omega)]; simp
theorem putB_len : ∀ (j n : Nat), n < 128 ^ (j + 1) → (putB n).length ≤ j + 1
  | 0, n, h => by rw [putB_small (by omega)]; simp
  | j + 1, n, h => by
    by_cases hn : n < 128
    · rw [putB_small hn]; simp
    · rw [putB_big (by omega), List.length_cons]
      have := putB_len j (n / 128) (by rw [Nat.pow_succ] at h; omega)
      omega
theorem putB_len10 {n : Nat} (h : n < 18446744073709551616) : (putB n).length ≤ 10 := putB_len 9 n (by omega)
theorem putB_byte (n : Nat) : ∀ x ∈ putB n, 0 ≤ x ∧ x < 256 := by
  induction n using Nat.strongRecOn with
  | _ n ih =>
    intro x hx
    by_cases hn : n < 128
    · rw [putB_small hn] at hx
      simp at hx
      omega
    · rw [putB_big (by omega)] at hx
      rcases List.mem_cons.1 hx with rfl | hx
      · omega
      · exact ih (n / 128) (by omega) x hx
/-- Two numbers' bytes that begin one text. -/
theorem putB_one (m : Nat) : ∀ (n : Nat) (r s : List Int), putB m ++ r = putB n ++ s → m = n ∧ r = s := by
  induction m using Nat.strongRecOn with
  | _ m ih =>
    intro n r s h
    by_cases hm : m < 128
    · rw [putB_small hm] at h
      by_cases hn : n < 128
      · rw [putB_small hn] at h
        simp at h
        exact ⟨by omega, h.2⟩
      · rw [putB_big (by omega)] at h
        simp only [List.cons_append, List.nil_append, List.cons.injEq] at h
        omega
    · rw [putB_big (n := m) (by omega)] at h
      by_cases hn : n < 128
      · rw [putB_small hn] at h
        simp only [List.cons_append, List.nil_append, List.cons.injEq] at h
        omega
      · rw [putB_big (n := n) (by omega)] at h
        simp only [List.cons_append, List.cons.injEq] at h
        obtain ⟨h1, h2⟩ := h
        obtain ⟨h3, h4⟩ := ih (m / 128) (by omega) (n / 128) r s h2
        exact ⟨by omega, h4⟩

/-- 'or' of a small number and a multiple of a power above it. -/
theorem or_join (i : Nat) (a b : Nat) (ha : a < 2 ^ i) (hs : b * 2 ^ i < 18446744073709551616) (ha' : a < 18446744073709551616) : Go.bits .or .u64 (a : Int) ((b * 2 ^ i : Nat) : Int) = ((a + b * 2 ^ i : Nat) : Int) := by
  rw [u64_or_nat a (b * 2 ^ i) ha' hs, Nat.or_comm, Nat.mul_comm b, ← Nat.two_pow_add_eq_or_of_lt ha, Nat.add_comm]
theorem shl_u64 (x i : Nat) (hi : i ≤ 64) (h : x * 2 ^ i < 18446744073709551616) : shl .u64 (x : Int) (i : Int) = ((x * 2 ^ i : Nat) : Int) := by
  unfold shl
  have e : min (i : Int).toNat IntKind.u64.bits = i := by
    have : IntKind.u64.bits = 64 := rfl
    rw [Int.toNat_natCast, this]
    omega
  have e2 : (x : Int) * 2 ^ i = ((x * 2 ^ i : Nat) : Int) := by push_cast; rfl
  rw [e, e2]
  generalize x * 2 ^ i = z at h ⊢
  exact wrap_u64 _ (by omega) (by omega)
theorem and127 (x : Nat) (h0 : 128 ≤ x) (h : x < 256) : Go.bits .and .u8 (x : Int) 127 = ((x - 128 : Nat) : Int) := by
  have := bits_mask .u8 8 (by decide) wraps_u8 7 (by decide) (x : Int) (by omega) (by omega)
  have e : ((2 : Int) ^ 7 - 1) = 127 := by decide
  rw [e] at this
  rw [this]
  have e2 : ((2 : Int) ^ 7) = 128 := by decide
  rw [e2]
  omega
set_option maxRecDepth 20000 in
theorem or128 (x : Nat) (h : x < 256) : Go.bits .or .u8 (x : Int) 128 = ((x % 128 + 128 : Nat) : Int) := by
  have h1 : ∀ a : Fin 256, ((a.val ||| 128 : Nat) = a.val % 128 + 128) := by decide
  have h2 := u8_or_nat x 128 h (by decide)
  rw [show ((128 : Nat) : Int) = 128 from rfl] at h2
  rw [h2, h1 ⟨x, h⟩]

end Go.Proofs.Ytlbiodghappdcaa.Bs
