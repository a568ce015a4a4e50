/- AuditChains, for every audit and every entry: the law answers true, and every argument reads behind the call as before. No condition beyond the row's own. -/
import Derived.Test.YtcdnmlfnfhoieaaMSha0
import Derived.Test.YtcdnmlfnfhoieaaMAuditChains0
import Derived.Test.YtcdnmlfnfhoieaaMAuditChains1
import Derived.Test.YtcdnmlfnfhoieaaMAuditChains2
import Derived.Test.YtcdnmlfnfhoieaaMAuditChains3
import Derived.Deep.SlicePairs
import Derived.Lib.SmallJoins
import Derived.ChangeMaps5
import Derived.Test.YtcdnmlfnfhoieaaRows
import Derived.WalkKit
import Derived.ProofKit
import Derived.OpenShut
import Derived.ShutString
import Derived.ChangeOld
import Derived.Below
import Derived.SizedLaws

/- What the program's num package writes (lay, own, Put, PutText), by the bytes of numbers, and bytes and strings there and back. Conditions: the lengths that its callers keep. -/
set_option linter.unusedVariables false
namespace Go.Proofs.Ytcdnmlfnfhoieaa.A
open Go.RowKit Go.Proofs.YtcdnmlfnfhoieaaW.PrintWords Go.Proofs.YtcdnmlfnfhoieaaW.PrintLast Go.Proofs.YtcdnmlfnfhoieaaW.PrintMore Go.Proofs.Ytcdnmlfnfhoieaa.Bs

theorem bytesOf_str (l : List Int) (hb : ∀ x ∈ l, 0 ≤ x ∧ x < 256) : bytesOf (strOfNums l) = l := by
 unfold bytesOf
 rw [strOfNums_data, List.map_map]
 apply List.ext_getElem
 ·simp
 ·intro i h1 h2
  have := hb _ (List.getElem_mem h2)
  simp only [List.getElem_map, Function.comp]
  show ((UInt8.ofNat l[i].toNat).toNat : Int) = l[i]
  rw [UInt8.toNat_ofNat']
  omega
theorem str_bytesOf (s : ByteArray) : strOfNums (bytesOf s) = s := by
 unfold strOfNums bytesOf
 rw [List.map_map]
 have : (s.data.toList.map ((fun n : Int => UInt8.ofNat n.toNat) ∘ fun b : UInt8 => (b.toNat : Int))) = s.data.toList := by
  apply List.ext_getElem
  ·simp
  ·intro i h1 h2
   simp
 rw [this]
theorem bytesOf_length (s : ByteArray) : (bytesOf s).length = s.size := by
 show (s.data.toList.map _).length = s.data.size
 rw [List.length_map, Array.length_toList]
theorem bytesOf_byte (s : ByteArray) : ∀ x ∈ bytesOf s, 0 ≤ x ∧ x < 256 := by
 intro x hx
 unfold bytesOf at hx
 obtain ⟨b, _, rfl⟩ := List.mem_map.1 hx
 have := b.toNat_lt
 omega
theorem lay_ev (d : Nat) : ∀ (k n : Nat) (acc : List Int), n < 128 ^ (d + 1) → n < 18446744073709551616 → d < k → acc.length + d < 140737488355328 → num_lay.l0 k acc (n : Int) = some (acc ++ putB n) := by
 induction d with
 | zero =>
  intro k n acc h1 _ hk hl
  obtain ⟨k, rfl⟩ : ∃ m, k = m + 1 := ⟨k - 1, by omega⟩
  simp only [num_lay.l0]
  rw [if_neg (by omega), if_pos (by omega), putB_small (by omega)]
  rw [show (n : Int) % 256 = (n : Int) by omega]
 | succ d ih =>
  intro k n acc h1 h2 hk hl
  obtain ⟨k, rfl⟩ : ∃ m, k = m + 1 := ⟨k - 1, by omega⟩
  simp only [num_lay.l0]
  by_cases hn : n < 128
  ·rw [if_neg (by omega), if_pos (by omega), putB_small hn]
   rw [show (n : Int) % 256 = (n : Int) by omega]
  ·rw [if_pos (by omega), if_pos (by omega), putB_big (by omega)]
   have e : (n : Int) % 256 = ((n % 256 : Nat) : Int) := by omega
   have e2 : (n : Int) / 128 = ((n / 128 : Nat) : Int) := by omega
   rw [e, or128 _ (by omega), e2, ih k (n / 128) _ (by rw [Nat.pow_succ] at h1; omega) (by omega) (by omega) (by rw [List.length_append, List.length_singleton]; omega)]
   rw [List.append_assoc, show (n % 256 % 128 + 128) = n % 128 + 128 by omega]
   rfl
theorem lay_some (n : Nat) (acc : List Int) (h : n < 18446744073709551616) (hl : acc.length < 140737488355000) : num_lay.f 10 acc (n : Int) = some (acc ++ putB n) := by
 unfold num_lay.f
 exact lay_ev 9 10 n acc (by omega) h (by omega) (by omega)
theorem own_some (l : List Int) (hl : l.length < 140737488355328) : num_own.f l = some l := by
 unfold num_own.f
 simp only [Option.bind_some, List.length_nil, List.nil_append]
 rw [if_pos (by omega)]
theorem put_some (n : Nat) (l : List Int) (h : n < 18446744073709551616) (hl : l.length < 140737488355000) : num_Put.f 10 l (n : Int) = some (l ++ putB n) := by
 unfold num_Put.f
 rw [own_some l (by omega), Option.bind_some, lay_some n l h hl]
 rfl
theorem puttext_some (l : List Int) (s : ByteArray) (hl : l.length + s.size < 140737488355000) : num_PutText.f 10 l s = some (l ++ putB s.size ++ bytesOf s) := by
 unfold num_PutText.f
 rw [own_some l (by omega), Option.bind_some, wrap_u64 _ (by omega) (by omega), lay_some s.size l (by omega) (by omega), Option.bind_some]
 rw [if_pos (by rw [List.length_append]; have := putB_len10 (n := s.size) (by omega); omega)]
theorem strOfNums_append (a b : List Int) : strOfNums (a ++ b) = strOfNums a ++ strOfNums b := by
 apply ByteArray.ext
 simp [strOfNums]
theorem refput_ev (d : Nat) : ∀ (k n : Nat), n < 128 ^ (d + 1) → n < 18446744073709551616 → d < k → d < 20 → strongroomref01_Put.f k (n : Int) = some (strOfNums (putB n)) := by
 induction d with
 | zero =>
  intro k n h1 _ hk _
  obtain ⟨k, rfl⟩ : ∃ m, k = m + 1 := ⟨k - 1, by omega⟩
  simp only [strongroomref01_Put.f]
  rw [if_pos (by omega), putB_small (by omega), show (n : Int) % 256 = (n : Int) by omega]
 | succ d ih =>
  intro k n h1 h2 hk hd
  obtain ⟨k, rfl⟩ : ∃ m, k = m + 1 := ⟨k - 1, by omega⟩
  simp only [strongroomref01_Put.f]
  by_cases hn : n < 128
  ·rw [if_pos (by omega), putB_small hn, show (n : Int) % 256 = (n : Int) by omega]
  ·rw [if_neg (by omega), Option.bind_some]
   have e1 : IntKind.u64.wrap (Int.tmod (n : Int) 128 + 128) % 256 = ((n % 128 + 128 : Nat) : Int) := by
    rw [Int.tmod_eq_emod_of_nonneg (by omega), wrap_u64 _ (by omega) (by omega)]
    omega
   have e2 : IntKind.u64.wrap (Int.tdiv (n : Int) 128) = ((n / 128 : Nat) : Int) := by
    rw [Int.tdiv_eq_ediv_of_nonneg (by omega), wrap_u64 _ (by omega) (by omega)]
    omega
   rw [e1, e2, ih k (n / 128) (by rw [Nat.pow_succ] at h1; omega) (by omega) (by omega) (by omega), Option.bind_some]
   have := putB_len10 (n := n / 128) (by omega)
   rw [if_pos (by rw [strOfNums_size, strOfNums_size, List.length_singleton]; omega), ← strOfNums_append, putB_big (n := n) (by omega)]
   rfl
theorem refput_some (n : Nat) (h : n < 18446744073709551616) : strongroomref01_Put.f 10 (n : Int) = some (strOfNums (putB n)) := refput_ev 9 10 n (by omega) h (by omega) (by omega)
theorem reftext_some (s : ByteArray) (h : s.size < 140737488355328) : strongroomref01_Text.f 10 s = some (strOfNums (putB s.size) ++ s) := by
 unfold strongroomref01_Text.f
 rw [wrap_u64 _ (by omega) (by omega), refput_some s.size (by omega), Option.bind_some]
 have := putB_len10 (n := s.size) (by omega)
 rw [if_pos (by rw [strOfNums_size]; omega)]

end Go.Proofs.Ytcdnmlfnfhoieaa.A

/- Plain facts on audits: which entries and audits may be, an entry's bytes, the chain's digest. Conditions: at most 1000 entries, an anchor of at most 1000 bytes. -/
namespace Go.Proofs.Ytcdnmlfnfhoieaa.A
open Go.RowKit Go.Proofs.YtcdnmlfnfhoieaaW.PrintWords Go.Proofs.YtcdnmlfnfhoieaaW.PrintLast Go.Proofs.YtcdnmlfnfhoieaaW.PrintMore Go.Proofs.Ytcdnmlfnfhoieaa.Bs
set_option linter.unusedVariables false
set_option linter.unusedSimpArgs false

def goodB (e : S64) : Bool := decide (1 ≤ e.f0 ∧ e.f0 ≤ 2147483648 ∧ 0 ≤ e.f1 ∧ e.f1 ≤ 1099511627776 ∧ 0 ≤ e.f2 ∧ e.f2 ≤ 100 ∧ (e.f3.size : Int) ≤ 32 ∧ 0 ≤ e.f4 ∧ e.f4 ≤ 100)
theorem goodB_iff (e : S64) : goodB e = true ↔ (1 ≤ e.f0 ∧ e.f0 ≤ 2147483648 ∧ 0 ≤ e.f1 ∧ e.f1 ≤ 1099511627776 ∧ 0 ≤ e.f2 ∧ e.f2 ≤ 100 ∧ (e.f3.size : Int) ≤ 32 ∧ 0 ≤ e.f4 ∧ e.f4 ≤ 100) := by
 unfold goodB
 exact decide_eq_true_iff
theorem goodB_not (e : S64) (h : ¬ (1 ≤ e.f0 ∧ e.f0 ≤ 2147483648 ∧ 0 ≤ e.f1 ∧ e.f1 ≤ 1099511627776 ∧ 0 ≤ e.f2 ∧ e.f2 ≤ 100 ∧ (e.f3.size : Int) ≤ 32 ∧ 0 ≤ e.f4 ∧ e.f4 ≤ 100)) : goodB e = false := decide_eq_false h
theorem good_some (e : S64) : audit_good.f e.f0 e.f1 e.f2 e.f3 e.f4 = some (goodB e) := by
 unfold audit_good.f
 by_cases h1 : e.f0 ≥ 1
 ·by_cases h2 : e.f0 ≤ 2147483648
  ·by_cases h3 : e.f1 ≥ 0
   ·by_cases h4 : e.f1 ≤ 1099511627776
    ·by_cases h5 : e.f2 ≥ 0
     ·by_cases h6 : e.f2 ≤ 100
      ·by_cases h7 : (e.f3.size : Int) ≤ 32
       ·by_cases h8 : e.f4 ≥ 0
        ·rw [if_pos h1, if_pos h2, if_pos h3, if_pos h4, if_pos h5, if_pos h6, if_pos h7, if_pos h8]
         by_cases h9 : e.f4 ≤ 100
         ·rw [decide_eq_true h9, (goodB_iff e).2 ⟨h1, h2, h3, h4, h5, h6, h7, h8, h9⟩]
         ·rw [decide_eq_false h9, goodB_not e (fun h => h9 h.2.2.2.2.2.2.2.2)]
        ·rw [if_pos h1, if_pos h2, if_pos h3, if_pos h4, if_pos h5, if_pos h6, if_pos h7, if_neg h8, goodB_not e (fun h => h8 h.2.2.2.2.2.2.2.1)]
       ·rw [if_pos h1, if_pos h2, if_pos h3, if_pos h4, if_pos h5, if_pos h6, if_neg h7, goodB_not e (fun h => h7 h.2.2.2.2.2.2.1)]
      ·rw [if_pos h1, if_pos h2, if_pos h3, if_pos h4, if_pos h5, if_neg h6, goodB_not e (fun h => h6 h.2.2.2.2.2.1)]
     ·rw [if_pos h1, if_pos h2, if_pos h3, if_pos h4, if_neg h5, goodB_not e (fun h => h5 h.2.2.2.2.1)]
    ·rw [if_pos h1, if_pos h2, if_pos h3, if_neg h4, goodB_not e (fun h => h4 h.2.2.2.1)]
   ·rw [if_pos h1, if_pos h2, if_neg h3, goodB_not e (fun h => h3 h.2.2.1)]
  ·rw [if_pos h1, if_neg h2, goodB_not e (fun h => h2 h.2.1)]
 ·rw [if_neg h1, goodB_not e (fun h => h1 h.1)]

theorem rd_nat (l : List S64) (i : Nat) : rd_T64 l (i : Int) = l.getD i z64 := by
 unfold rd_T64
 rw [Int.toNat_natCast]
theorem inc_nat (i : Nat) (h : i < 1000000) : wrap64 ((i : Int) + 1) = ((i + 1 : Nat) : Int) := by
 rw [wrap64_id _ (by omega) (by omega)]
 rfl
def seqB (n : Int) (l : List S64) (i : Nat) : Bool := goodB (l.getD i z64) && decide ((l.getD i z64).f0 = n - l.length + i + 1)
def mayB (a : ByteArray) (n : Int) (l : List S64) : Bool := decide (a.size = 32 ∧ 0 ≤ n ∧ n ≤ 2147483648 ∧ (l.length : Int) = mn n 8) && (List.range' 0 l.length).all (seqB n l)
theorem may_l0 (a : ByteArray) (n : Int) (l : List S64) (hl : l.length ≤ 1000) (hn0 : 0 ≤ n) (hn : n ≤ 2147483648) : ∀ (d k i : Nat), i + d = l.length → d < k → audit_May.l0 k l (l.length : Int) (i : Int) a n l = some ((List.range' i d).all (seqB n l)) := by
 intro d
 induction d with
 | zero =>
  intro k i hi hk
  obtain ⟨k, rfl⟩ : ∃ m, k = m + 1 := ⟨k - 1, by omega⟩
  rw [audit_May.l0, if_neg (by omega)]
  rfl
 | succ d ih =>
  intro k i hi hk
  obtain ⟨k, rfl⟩ : ∃ m, k = m + 1 := ⟨k - 1, by omega⟩
  rw [audit_May.l0, if_pos (by omega), if_pos (by omega), if_pos (by omega), rd_nat, good_some, Option.bind_some, List.range'_succ, List.all_cons]
  have e1 : wrap64 (n - (l.length : Int)) = n - l.length := wrap64_id _ (by omega) (by omega)
  have e2 : wrap64 (n - (l.length : Int) + i) = n - l.length + i := wrap64_id _ (by omega) (by omega)
  have e3 : wrap64 (n - (l.length : Int) + i + 1) = n - l.length + i + 1 := wrap64_id _ (by omega) (by omega)
  rw [e1, e2, e3, inc_nat i (by omega)]
  cases hg : goodB (l.getD i z64) with
  | false => rw [if_neg (by decide), seqB, hg]; rfl
  | true =>
   rw [if_pos rfl]
   by_cases hs : (l.getD i z64).f0 = n - l.length + i + 1
   ·rw [if_pos hs, ih k (i + 1) (by omega) (by omega), seqB, hg, decide_eq_true hs]
    rfl
   ·rw [if_neg hs, seqB, hg, decide_eq_false hs]
    rfl
theorem may_some (a : ByteArray) (n : Int) (l : List S64) (hl : l.length ≤ 1000) (k : Nat) (hk : l.length + 2 ≤ k) : audit_May.f k a n l = some (mayB a n l) := by
 obtain ⟨k, rfl⟩ : ∃ m, k = m + 1 := ⟨k - 1, by omega⟩
 have hf : ∀ p : Prop, [Decidable p] → ¬ p → (decide p && (List.range' 0 l.length).all (seqB n l)) = false := fun p _ hp => by rw [decide_eq_false hp]; rfl
 unfold audit_May.f mayB
 by_cases h1 : (a.size : Int) = 32
 ·rw [if_pos h1]
  by_cases h2 : n < 0
  ·rw [if_pos h2, audit_May.j0, if_pos rfl, hf _ (by omega)]
  ·rw [if_neg h2]
   by_cases h3 : n > 2147483648
   ·rw [if_pos h3, audit_May.j0, if_pos rfl, hf _ (by omega)]
   ·rw [if_neg h3]
    by_cases h4 : (l.length : Int) = mn n 8
    ·have e : ((l.length : Int) != mn n 8) = false := by simp [h4]
     rw [e, audit_May.j0, if_neg (by decide)]
     have := may_l0 a n l hl (by omega) (by omega) l.length k 0 (by omega) (by omega)
     rw [show ((0 : Nat) : Int) = 0 from rfl] at this
     rw [this, decide_eq_true ⟨by omega, by omega, by omega, h4⟩, Bool.true_and]
    ·have e : ((l.length : Int) != mn n 8) = true := by simp [h4]
     rw [e, audit_May.j0, if_pos rfl, hf _ (fun h => h4 h.2.2.2)]
 ·rw [if_neg h1, audit_May.j0, if_pos rfl, hf _ (by omega)]
theorem mayB_iff (a : ByteArray) (n : Int) (l : List S64) : mayB a n l = true ↔ (a.size = 32 ∧ 0 ≤ n ∧ n ≤ 2147483648 ∧ (l.length : Int) = mn n 8) ∧ ∀ i, i < l.length → goodB (l.getD i z64) = true ∧ (l.getD i z64).f0 = n - l.length + i + 1 := by
 unfold mayB
 rw [Bool.and_eq_true, decide_eq_true_iff, List.all_eq_true]
 refine and_congr Iff.rfl ⟨fun h i hi => ?_, fun h i hi => ?_⟩
 ·have := h i (List.mem_range'_1.2 ⟨by omega, by omega⟩)
  rw [seqB, Bool.and_eq_true, decide_eq_true_iff] at this
  exact this
 ·have hi := List.mem_range'_1.1 hi
  rw [seqB, Bool.and_eq_true, decide_eq_true_iff]
  exact h i (by omega)
theorem mn8 (n : Int) : mn n 8 = if n < 8 then n else 8 := by
 unfold mn
 split <;> split <;> omega

/-- An entry's bytes. -/
def entL (e : S64) : List Int := putB e.f0.toNat ++ putB e.f1.toNat ++ putB e.f2.toNat ++ putB e.f3.size ++ bytesOf e.f3 ++ putB e.f4.toNat
def entB (e : S64) : ByteArray := strOfNums (entL e)
theorem entL_len (e : S64) (h : goodB e = true) : (entL e).length ≤ 100 := by
 have hg := (goodB_iff e).1 h
 have h0 := putB_len10 (n := e.f0.toNat) (by omega)
 have h1 := putB_len10 (n := e.f1.toNat) (by omega)
 have h2 := putB_len10 (n := e.f2.toNat) (by omega)
 have h3 := putB_len10 (n := e.f3.size) (by omega)
 have h4 := putB_len10 (n := e.f4.toNat) (by omega)
 simp only [entL, List.length_append, bytesOf_length]
 omega
theorem entB_size (e : S64) (h : goodB e = true) : (entB e).size ≤ 100 := by
 rw [entB, strOfNums_size]
 exact entL_len e h
theorem u64_id (n : Int) (h0 : 0 ≤ n) (h1 : n < 18446744073709551616) : IntKind.u64.wrap n = ((n.toNat : Nat) : Int) := by
 rw [wrap_u64 n h0 h1]
 omega
theorem bytes_some (e : S64) (h : goodB e = true) (k : Nat) (hk : 10 ≤ k) : audit_bytes.f k e.f0 e.f1 e.f2 e.f3 e.f4 = some (entB e) := by
 have hg := (goodB_iff e).1 h
 have hp : ∀ (n : Nat) (l : List Int), n < 18446744073709551616 → l.length < 1000 → num_Put.f k l (n : Int) = some (l ++ putB n) := fun n l hn hl => at_rounds (num_Put.mono _ _) hk (put_some n l hn (by omega))
 have h0 := putB_len10 (n := e.f0.toNat) (by omega)
 have h1 := putB_len10 (n := e.f1.toNat) (by omega)
 have h2 := putB_len10 (n := e.f2.toNat) (by omega)
 have h3 := putB_len10 (n := e.f3.size) (by omega)
 unfold audit_bytes.f
 rw [u64_id e.f0 (by omega) (by omega), hp _ _ (by omega) (by simp), Option.bind_some, u64_id e.f1 (by omega) (by omega), hp _ _ (by omega) (by simp; omega), Option.bind_some, u64_id e.f2 (by omega) (by omega), hp _ _ (by omega) (by simp; omega), Option.bind_some]
 rw [at_rounds (num_PutText.mono _ _) hk (puttext_some _ e.f3 (by simp; omega)), Option.bind_some, u64_id e.f4 (by omega) (by omega), hp _ _ (by omega) (by simp only [List.length_append, List.length_nil, bytesOf_length]; omega), Option.bind_some]
 rfl
theorem refbytes_some (e : S64) (h : goodB e = true) (k : Nat) (hk : 10 ≤ k) : strongroomref13_Bytes.f k e.f0 e.f1 e.f2 e.f3 e.f4 = some (entB e) := by
 have hg := (goodB_iff e).1 h
 have hp : ∀ (n : Nat), n < 18446744073709551616 → strongroomref01_Put.f k (n : Int) = some (strOfNums (putB n)) := fun n hn => at_rounds (strongroomref01_Put.mono _) hk (refput_some n hn)
 have h0 := putB_len10 (n := e.f0.toNat) (by omega)
 have h1 := putB_len10 (n := e.f1.toNat) (by omega)
 have h2 := putB_len10 (n := e.f2.toNat) (by omega)
 have h3 := putB_len10 (n := e.f3.size) (by omega)
 have h4 := putB_len10 (n := e.f4.toNat) (by omega)
 unfold strongroomref13_Bytes.f
 rw [u64_id e.f0 (by omega) (by omega), hp _ (by omega), Option.bind_some, u64_id e.f1 (by omega) (by omega), hp _ (by omega), Option.bind_some, if_pos (by simp only [strOfNums_size]; omega), u64_id e.f2 (by omega) (by omega), hp _ (by omega), Option.bind_some, if_pos (by simp only [strOfNums_size, ByteArray.size_append]; omega)]
 rw [at_rounds (strongroomref01_Text.mono _) hk (reftext_some e.f3 (by omega)), Option.bind_some, if_pos (by simp only [strOfNums_size, ByteArray.size_append]; omega), u64_id e.f4 (by omega) (by omega), hp _ (by omega), Option.bind_some, if_pos (by simp only [strOfNums_size, ByteArray.size_append]; omega)]
 congr 1
 rw [entB, entL]
 simp only [strOfNums_append, str_bytesOf]
 simp only [ByteArray.append_assoc]

/-- The digest of entries behind an anchor. -/
def chainP (d : ByteArray) : List S64 → ByteArray
 | [] => d
 | e :: l => chainP (sealP d (entB e)) l
theorem chainP_append (d : ByteArray) (l m : List S64) : chainP d (l ++ m) = chainP (chainP d l) m := by
 induction l generalizing d with
 | nil => rfl
 | cons e l ih => exact ih _
theorem drop_getD (l : List S64) (i : Nat) (h : i < l.length) : l.drop i = l.getD i z64 :: l.drop (i + 1) := by
 rw [List.drop_eq_getElem_cons h, List.getD_eq_getElem?_getD, List.getElem?_eq_getElem h]
 rfl
theorem chain_l0 (l : List S64) (hl : l.length ≤ 1000) (hg : ∀ e ∈ l, goodB e = true) : ∀ (j k i : Nat) (d : ByteArray), i + j = l.length → j + 10 < k → d.size ≤ 1000000 → audit_chain.l0 k d l (l.length : Int) (i : Int) = some (chainP d (l.drop i)) := by
 intro j
 induction j with
 | zero =>
  intro k i d hi hk hd
  obtain ⟨k, rfl⟩ : ∃ m, k = m + 1 := ⟨k - 1, by omega⟩
  rw [audit_chain.l0, if_neg (by omega), List.drop_eq_nil_of_le (by omega)]
  rfl
 | succ j ih =>
  intro k i d hi hk hd
  obtain ⟨k, rfl⟩ : ∃ m, k = m + 1 := ⟨k - 1, by omega⟩
  have hgi : goodB (l.getD i z64) = true := by
   rw [List.getD_eq_getElem?_getD, List.getElem?_eq_getElem (by omega)]
   exact hg _ (List.getElem_mem _)
  have hs := entB_size _ hgi
  rw [audit_chain.l0, if_pos (by omega), if_pos (by omega), if_pos (by omega), rd_nat, bytes_some _ hgi k (by omega), Option.bind_some, mac_Seal.some_ _ _ (by omega) (by omega), Option.bind_some, inc_nat i (by omega), ih k (i + 1) _ (by omega) (by omega) (by rw [sealP_size]; decide), drop_getD l i (by omega)]
  rfl
theorem chain_some (d : ByteArray) (l : List S64) (hl : l.length ≤ 1000) (hg : ∀ e ∈ l, goodB e = true) (hd : d.size ≤ 1000000) (k : Nat) (hk : l.length + 11 ≤ k) : audit_chain.f k d l = some (chainP d l) := by
 have := chain_l0 l hl hg l.length k 0 d (by omega) (by omega) hd
 rw [show ((0 : Nat) : Int) = 0 from rfl, List.drop_zero] at this
 exact this
theorem may_good {a : ByteArray} {n : Int} {l : List S64} (h : mayB a n l = true) : ∀ e ∈ l, goodB e = true := by
 intro e he
 obtain ⟨i, hi, rfl⟩ := List.mem_iff_getElem.1 he
 have := (((mayB_iff a n l).1 h).2 i hi).1
 rwa [List.getD_eq_getElem?_getD, List.getElem?_eq_getElem hi] at this
def digestA (a : ByteArray) (n : Int) (l : List S64) : ByteArray := if mayB a n l = true then chainP a l else ⟨#[]⟩
theorem digest_some (a : ByteArray) (n : Int) (l : List S64) (hl : l.length ≤ 1000) (k : Nat) (hk : l.length + 11 ≤ k) : audit_Digest.f k a n l = some (digestA a n l) := by
 unfold audit_Digest.f digestA
 rw [may_some a n l hl k (by omega), Option.bind_some]
 by_cases h : mayB a n l = true
 ·rw [if_pos h, if_pos h, chain_some a l hl (may_good h) (by have := ((mayB_iff a n l).1 h).1.1; omega) k hk]
  rfl
 ·rw [if_neg h, if_neg h]
/-- Do two entries differ? -/
def neS (x y : S64) : Bool := !(x.f0 == y.f0) || (!(x.f1 == y.f1) || (!(x.f2 == y.f2) || (!(x.f3.toList == y.f3.toList) || !(x.f4 == y.f4))))
theorem bytes_toList_inj {s t : ByteArray} (h : s.toList = t.toList) : s = t := by
 rw [ByteArray.toList_eq, ByteArray.toList_eq] at h
 exact ByteArray.ext (Array.toList_inj.mp h)
theorem neS_iff (x y : S64) : neS x y = false ↔ x = y := by
 unfold neS
 constructor
 ·intro h
  simp only [Bool.or_eq_false_iff, Bool.not_eq_false', beq_iff_eq] at h
  obtain ⟨h0, h1, h2, h3, h4⟩ := h
  cases x
  cases y
  simp only at h0 h1 h2 h3 h4
  rw [h0, h1, h2, h4, bytes_toList_inj h3]
 ·rintro rfl
  simp
/-- small answers; what it lets in. -/
theorem small_l0 (a : ByteArray) (n : Int) (l : List S64) (hl : l.length ≤ 1000) : ∀ (d k i : Nat), i + d = l.length → d < k → ∃ b, strongroomlaw13_small.l0 k (i : Int) a n l = some b ∧ (b = true → ∀ j, i ≤ j → j < l.length → (l.getD j z64).f3.size ≤ 1000) := by
 intro d
 induction d with
 | zero =>
  intro k i hi hk
  obtain ⟨k, rfl⟩ : ∃ m, k = m + 1 := ⟨k - 1, by omega⟩
  rw [strongroomlaw13_small.l0, if_neg (by omega)]
  exact ⟨true, rfl, fun _ j h1 h2 => by omega⟩
 | succ d ih =>
  intro k i hi hk
  obtain ⟨k, rfl⟩ : ∃ m, k = m + 1 := ⟨k - 1, by omega⟩
  rw [strongroomlaw13_small.l0, if_pos (by omega), if_pos (by omega), rd_nat, inc_nat i (by omega)]
  by_cases hs : ((l.getD i z64).f3.size : Int) > 1000
  ·rw [if_pos hs]
   exact ⟨false, rfl, fun h => by cases h⟩
  ·rw [if_neg hs]
   obtain ⟨b, hb, h⟩ := ih k (i + 1) (by omega) (by omega)
   refine ⟨b, hb, fun ht j h1 h2 => ?_⟩
   by_cases e : j = i
   ·subst e; omega
   ·exact h ht j (by omega) h2
theorem small_some (a : ByteArray) (n : Int) (l : List S64) (k : Nat) (hk : 60 ≤ k) : ∃ b, strongroomlaw13_small.f k a n l = some b ∧ (b = true → l.length ≤ 40 ∧ a.size ≤ 1000 ∧ ∀ j, j < l.length → (l.getD j z64).f3.size ≤ 1000) := by
 obtain ⟨k, rfl⟩ : ∃ m, k = m + 1 := ⟨k - 1, by omega⟩
 unfold strongroomlaw13_small.f
 by_cases h1 : (l.length : Int) > 40
 ·rw [if_pos h1, strongroomlaw13_small.j0, if_pos rfl]
  exact ⟨false, rfl, fun h => by cases h⟩
 ·rw [if_neg h1, strongroomlaw13_small.j0]
  by_cases h2 : (a.size : Int) > 1000
  ·rw [decide_eq_true h2, if_pos rfl]
   exact ⟨false, rfl, fun h => by cases h⟩
  ·rw [decide_eq_false h2, if_neg (by decide)]
   obtain ⟨b, hb, h⟩ := small_l0 a n l (by omega) l.length k 0 (by omega) (by omega)
   exact ⟨b, hb, fun ht => ⟨by omega, by omega, fun j hj => h ht j (by omega) hj⟩⟩

end Go.Proofs.Ytcdnmlfnfhoieaa.A

/- audit.Follows, plainly. Conditions: at most 1000 entries each. -/
namespace Go.Proofs.Ytcdnmlfnfhoieaa.A
open Go.RowKit Go.Proofs.YtcdnmlfnfhoieaaW.PrintWords Go.Proofs.YtcdnmlfnfhoieaaW.PrintLast Go.Proofs.YtcdnmlfnfhoieaaW.PrintMore Go.Proofs.Ytcdnmlfnfhoieaa.Bs
set_option linter.unusedVariables false
set_option linter.unusedSimpArgs false

def stayB (first : Int) (l m : List S64) (i : Nat) : Bool := decide ((l.getD i z64).f0 < first) || !neS (m.getD ((l.getD i z64).f0 - first).toNat z64) (l.getD i z64)
def followsB (a : ByteArray) (n : Int) (l : List S64) (b : ByteArray) (p : Int) (m : List S64) : Bool :=
 decide (mayB a n l = true ∧ mayB b p m = true ∧ n ≤ p) && ((List.range' 0 l.length).all (stayB (p - m.length + 1) l m) && (decide (n < p - m.length) || ((chainP a l).toList == (chainP b (m.take (n - (p - m.length)).toNat)).toList)))
theorem follows_l0 {a b : ByteArray} {n p : Int} {l m : List S64} (ha : mayB a n l = true) (hb : mayB b p m = true) (hnp : n ≤ p) : ∀ (d k i : Nat), i + d = l.length → d + 25 < k →
  audit_Follows.l0 k (p - m.length + 1) l (l.length : Int) (i : Int) a n l b p m = some ((List.range' i d).all (stayB (p - m.length + 1) l m) && (decide (n < p - m.length) || ((chainP a l).toList == (chainP b (m.take (n - (p - m.length)).toNat)).toList))) := by
 have hA := (mayB_iff a n l).1 ha
 have hB := (mayB_iff b p m).1 hb
 have hA4 := hA.1.2.2.2
 have hB4 := hB.1.2.2.2
 rw [mn8] at hA4 hB4
 have hl8 : l.length ≤ 8 := by split at hA4 <;> omega
 have hm8 : m.length ≤ 8 ∧ (m.length : Int) ≤ p := by split at hB4 <;> omega
 intro d
 induction d with
 | zero =>
  intro k i hi hk
  obtain ⟨k, rfl⟩ : ∃ m, k = m + 1 := ⟨k - 1, by omega⟩
  have e1 : wrap64 (p - m.length + 1 - 1) = p - m.length := by rw [wrap64_id _ (by omega) (by omega)]; omega
  have e2 : wrap64 (wrap64 (n - (p - m.length + 1)) + 1) = n - (p - m.length) := by rw [wrap64_id (n - (p - m.length + 1)) (by omega) (by omega), wrap64_id _ (by omega) (by omega)]; omega
  rw [audit_Follows.l0, if_neg (by omega), e1, e2]
  rw [show List.range' i 0 = [] from rfl, List.all_nil, Bool.true_and]
  by_cases hlt : n < p - m.length
  ·rw [if_pos hlt, decide_eq_true hlt, Bool.true_or]
  ·rw [if_neg hlt, decide_eq_false hlt, Bool.false_or, digest_some a n l (by omega) k (by omega), Option.bind_some, if_pos (by omega), if_pos (by omega), chain_some b _ (by rw [List.length_take]; omega) (fun e he => may_good hb e (List.mem_of_mem_take he)) (by omega) k (by rw [List.length_take]; omega), Option.bind_some, digestA, if_pos ha]
 | succ d ih =>
  intro k i hi hk
  obtain ⟨k, rfl⟩ : ∃ m, k = m + 1 := ⟨k - 1, by omega⟩
  have hs := (hA.2 i (by omega)).2
  rw [audit_Follows.l0, if_pos (by omega), if_pos (by omega), if_pos (by omega), rd_nat, inc_nat i (by omega), ih k (i + 1) (by omega) (by omega), List.range'_succ, List.all_cons]
  obtain ⟨e, he⟩ : ∃ e, l.getD i z64 = e := ⟨_, rfl⟩
  have hst : stayB (p - m.length + 1) l m i = (decide (e.f0 < p - m.length + 1) || !neS (m.getD (e.f0 - (p - m.length + 1)).toNat z64) e) := by rw [stayB, he]
  rw [hst, he]
  rw [he] at hs
  by_cases hf : e.f0 ≥ p - m.length + 1
  ·have ew : wrap64 (e.f0 - (p - m.length + 1)) = (((e.f0 - (p - m.length + 1)).toNat : Nat) : Int) := by rw [wrap64_id _ (by omega) (by omega)]; omega
   rw [if_pos hf, ew, if_pos (by omega), if_pos (by omega), rd_nat, decide_eq_false (show ¬ e.f0 < p - m.length + 1 by omega), Bool.false_or]
   obtain ⟨x, hx⟩ : ∃ x, m.getD (e.f0 - (p - m.length + 1)).toNat z64 = x := ⟨_, rfl⟩
   rw [hx]
   have en : (!(x.f0 == e.f0) || (!(x.f1 == e.f1) || (!(x.f2 == e.f2) || (!(x.f3.toList == e.f3.toList) || !(x.f4 == e.f4))))) = neS x e := rfl
   rw [en]
   cases hne : neS x e with
   | true => rw [if_pos rfl]; rfl
   | false => rw [if_neg (by decide)]; rfl
  ·rw [if_neg hf, decide_eq_true (show e.f0 < p - m.length + 1 by omega)]
   rfl
theorem follows_some (a b : ByteArray) (n p : Int) (l m : List S64) (hl : l.length ≤ 1000) (hm : m.length ≤ 1000) (k : Nat) (hk : 1100 ≤ k) : audit_Follows.f k a n l b p m = some (followsB a n l b p m) := by
 obtain ⟨k, rfl⟩ : ∃ m, k = m + 1 := ⟨k - 1, by omega⟩
 have hf : ¬ (mayB a n l = true ∧ mayB b p m = true ∧ n ≤ p) → followsB a n l b p m = false := fun h => by rw [followsB, decide_eq_false h]; rfl
 unfold audit_Follows.f
 rw [may_some a n l hl _ (by omega), Option.bind_some]
 by_cases ha : mayB a n l = true
 ·rw [if_pos ha, may_some b p m hm _ (by omega), Option.bind_some]
  by_cases hb : mayB b p m = true
  ·rw [if_pos hb]
   by_cases hnp : n > p
   ·rw [decide_eq_true hnp, audit_Follows.j0, if_pos rfl, hf (fun h => by omega)]
   ·have hB := (mayB_iff b p m).1 hb
    have e1 : wrap64 (wrap64 (p - (m.length : Int)) + 1) = p - m.length + 1 := by rw [wrap64_id (p - (m.length : Int)) (by omega) (by omega), wrap64_id _ (by omega) (by omega)]
    rw [decide_eq_false hnp, audit_Follows.j0, if_neg (by decide), e1]
    have hA4 := ((mayB_iff a n l).1 ha).1.2.2.2
    rw [mn8] at hA4
    have := follows_l0 ha hb (by omega) l.length k 0 (by omega) (by split at hA4 <;> omega)
    rw [show ((0 : Nat) : Int) = 0 from rfl] at this
    rw [this, followsB, decide_eq_true (show mayB a n l = true ∧ mayB b p m = true ∧ n ≤ p from ⟨ha, hb, by omega⟩), Bool.true_and]
  ·rw [if_neg hb, audit_Follows.j0, if_pos rfl, hf (fun h => hb h.2.1)]
 ·rw [if_neg ha, audit_Follows.j0, if_pos rfl, hf (fun h => ha h.1)]

end Go.Proofs.Ytcdnmlfnfhoieaa.A

/- AuditChains, plainly: an audit that went on has the seal of the new entry's bytes as its digest, and follows. No condition. -/
namespace Go.Proofs.Ytcdnmlfnfhoieaa.A
open Go.RowKit Go.Proofs.YtcdnmlfnfhoieaaW.PrintWords Go.Proofs.YtcdnmlfnfhoieaaW.PrintLast Go.Proofs.YtcdnmlfnfhoieaaW.PrintMore Go.Proofs.Ytcdnmlfnfhoieaa.Bs
set_option linter.unusedVariables false
set_option linter.unusedSimpArgs false

/-- What Add answers. -/
def addB (a : ByteArray) (n : Int) (l : List S64) (e : S64) : ByteArray × Int × List S64 × Int :=
 if mayB a n l = true ∧ goodB ⟨n + 1, e.f1, e.f2, e.f3, e.f4⟩ = true then
  (if l.length = 8 then (sealP a (entB (l.getD 0 z64)), n + 1, l.drop 1 ++ [⟨n + 1, e.f1, e.f2, e.f3, e.f4⟩], 0) else (a, n + 1, l ++ [⟨n + 1, e.f1, e.f2, e.f3, e.f4⟩], 0))
 else (⟨#[]⟩, 0, [], 1)
theorem add_some (a : ByteArray) (n : Int) (l : List S64) (e : S64) (hl : l.length ≤ 1000) (k : Nat) (hk : l.length + 11 ≤ k) : audit_Add.f k a n l e.f0 e.f1 e.f2 e.f3 e.f4 = some (addB a n l e) := by
 unfold audit_Add.f addB
 rw [may_some a n l hl k (by omega), Option.bind_some]
 by_cases hm : mayB a n l = true
 ·have hb := ((mayB_iff a n l).1 hm).1
  have ew : wrap64 (n + 1) = n + 1 := wrap64_id _ (by omega) (by omega)
  rw [if_pos hm, ew, good_some ⟨n + 1, e.f1, e.f2, e.f3, e.f4⟩, Option.bind_some]
  by_cases hg : goodB ⟨n + 1, e.f1, e.f2, e.f3, e.f4⟩ = true
  ·rw [if_pos hg, if_pos ⟨hm, hg⟩, addOn]
   by_cases h8 : l.length = 8
   ·rw [if_pos h8, if_pos h8]
    have hg0 := (((mayB_iff a n l).1 hm).2 0 (by omega)).1
    have e0 : rd_T64 l 0 = l.getD 0 z64 := rd_nat l 0
    rw [e0, bytes_some _ hg0 k (by omega), Option.bind_some, mac_Seal.some_ _ _ (by omega) (by have := entB_size _ hg0; omega)]
    rfl
   ·rw [if_neg h8, if_neg h8, if_pos (by omega)]
  ·rw [if_neg hg, if_neg (fun h => hg h.2)]
 ·rw [if_neg hm, if_neg (fun h => hm h.1)]
theorem mine_some (a : ByteArray) (n : Int) (l : List S64) (hl : l.length ≤ 1000) : strongroomlaw13_mine.f a n l = some (a, n, l) := by
 unfold strongroomlaw13_mine.f
 rw [if_pos (by simp; omega)]
 rfl
theorem mayB_empty : mayB ⟨#[]⟩ 0 [] = false := by
 unfold mayB
 rw [decide_eq_false (fun h => absurd h.1 (by decide))]
 rfl
theorem getD_append_left' (l m : List S64) (i : Nat) (h : i < l.length) : (l ++ m).getD i z64 = l.getD i z64 := by
 rw [List.getD_eq_getElem?_getD, List.getElem?_append_left h, List.getD_eq_getElem?_getD]
theorem getD_append_right' (l : List S64) (x : S64) (i : Nat) (h : i = l.length) : (l ++ [x]).getD i z64 = x := by
 subst h
 rw [List.getD_eq_getElem?_getD, List.getElem?_append_right (Nat.le_refl _)]
 simp
theorem getD_drop1 (l : List S64) (i : Nat) : (l.drop 1).getD i z64 = l.getD (i + 1) z64 := by
 rw [List.getD_eq_getElem?_getD, List.getElem?_drop, List.getD_eq_getElem?_getD, Nat.add_comm]
theorem chainP_size (d : ByteArray) (l : List S64) (h : d.size ≤ 1000) : (chainP d l).size ≤ 1000 := by
 induction l generalizing d with
 | nil => exact h
 | cons e l ih => exact ih _ (by rw [sealP_size]; decide)
/-- The audit that went on. -/
structure Went (a : ByteArray) (n : Int) (l : List S64) (e : S64) (b : ByteArray) (m : List S64) : Prop where
 good : goodB e = true
 seq : e.f0 = n + 1
 len : (l.length < 8 ∧ b = a ∧ m = l ++ [e]) ∨ (l.length = 8 ∧ b = sealP a (entB (l.getD 0 z64)) ∧ m = l.drop 1 ++ [e])
theorem Went.m_len {a b : ByteArray} {n : Int} {l m : List S64} {e : S64} (h : Went a n l e b m) (hm : mayB a n l = true) : (m.length : Int) = mn (n + 1) 8 ∧ m.length ≤ 8 ∧ 0 < m.length := by
 have hb := ((mayB_iff a n l).1 hm).1
 have h4 := hb.2.2.2
 rw [mn8] at h4 ⊢
 rcases h.len with ⟨h1, _, rfl⟩ | ⟨h1, _, rfl⟩
 ·rw [List.length_append, List.length_singleton]
  split at h4 <;> split <;> omega
 ·rw [List.length_append, List.length_drop, List.length_singleton]
  split at h4 <;> split <;> omega
theorem Went.may {a b : ByteArray} {n : Int} {l m : List S64} {e : S64} (h : Went a n l e b m) (hm : mayB a n l = true) : mayB b (n + 1) m = true := by
 have hb := (mayB_iff a n l).1 hm
 have hg := (goodB_iff e).1 h.good
 have hs := h.seq
 obtain ⟨hl1, hl2, hl3⟩ := h.m_len hm
 refine (mayB_iff b (n + 1) m).2 ⟨⟨?_, by omega, by omega, hl1⟩, ?_⟩
 ·rcases h.len with ⟨_, rfl, _⟩ | ⟨_, rfl, _⟩
  ·exact hb.1.1
  ·exact sealP_size _ _
 ·intro i hi
  have h4 := hb.1.2.2.2
  rw [mn8] at h4
  rcases h.len with ⟨h1, _, rfl⟩ | ⟨h1, _, rfl⟩
  ·rw [List.length_append, List.length_singleton] at hi ⊢
   by_cases hil : i < l.length
   ·rw [getD_append_left' l [e] i hil]
    have := hb.2 i hil
    exact ⟨this.1, by rw [this.2]; omega⟩
   ·rw [getD_append_right' l e i (by omega)]
    exact ⟨h.good, by rw [hs]; split at h4 <;> omega⟩
  ·have hdl : (l.drop 1).length = 7 := by rw [List.length_drop]; omega
   rw [List.length_append, List.length_singleton, hdl] at hi ⊢
   by_cases hil : i < 7
   ·rw [getD_append_left' _ [e] i (by omega), getD_drop1]
    have := hb.2 (i + 1) (by omega)
    exact ⟨this.1, by rw [this.2]; omega⟩
   ·rw [getD_append_right' _ e i (by omega)]
    exact ⟨h.good, by rw [hs]; omega⟩
theorem Went.chain {a b : ByteArray} {n : Int} {l m : List S64} {e : S64} (h : Went a n l e b m) : chainP b m = sealP (chainP a l) (entB e) := by
 rcases h.len with ⟨_, rfl, rfl⟩ | ⟨h1, rfl, rfl⟩
 ·rw [chainP_append]
  rfl
 ·rw [chainP_append]
  have : l = l.getD 0 z64 :: l.drop 1 := by
   have := drop_getD l 0 (by omega)
   rwa [List.drop_zero] at this
  conv => rhs; rw [this]
  rfl
theorem Went.before {a b : ByteArray} {n : Int} {l m : List S64} {e : S64} (h : Went a n l e b m) : chainP b (m.take (m.length - 1)) = chainP a l := by
 rcases h.len with ⟨_, rfl, rfl⟩ | ⟨h1, rfl, rfl⟩
 ·rw [List.length_append, List.length_singleton, Nat.add_sub_cancel, List.take_left]
 ·rw [List.length_append, List.length_singleton, Nat.add_sub_cancel, List.take_left]
  have : l = l.getD 0 z64 :: l.drop 1 := by
   have := drop_getD l 0 (by omega)
   rwa [List.drop_zero] at this
  conv => rhs; rw [this]
  rfl
theorem Went.at {a b : ByteArray} {n : Int} {l m : List S64} {e : S64} (h : Went a n l e b m) (i : Nat) (hi : i < l.length) (hd : 0 < i + m.length - l.length) : m.getD (i + m.length - 1 - l.length) z64 = l.getD i z64 := by
 rcases h.len with ⟨_, _, rfl⟩ | ⟨h1, _, rfl⟩
 ·rw [List.length_append, List.length_singleton, show i + (l.length + 1) - 1 - l.length = i by omega, getD_append_left' _ _ _ hi]
 ·have hdl : (l.drop 1).length = 7 := by rw [List.length_drop]; omega
  rw [List.length_append, List.length_singleton, hdl] at hd ⊢
  rw [show i + (7 + 1) - 1 - l.length = i - 1 by omega, getD_append_left' _ _ _ (by omega), getD_drop1, show i - 1 + 1 = i by omega]

theorem Went.follows {a b : ByteArray} {n : Int} {l m : List S64} {e : S64} (h : Went a n l e b m) (ha : mayB a n l = true) : followsB a n l b (n + 1) m = true := by
 have hb := h.may ha
 have hA := (mayB_iff a n l).1 ha
 have hB := (mayB_iff b (n + 1) m).1 hb
 have hA4 := hA.1.2.2.2
 have hB4 := hB.1.2.2.2
 rw [mn8] at hA4 hB4
 obtain ⟨_, hm8, hm0⟩ := h.m_len ha
 rw [followsB, decide_eq_true (show mayB a n l = true ∧ mayB b (n + 1) m = true ∧ n ≤ n + 1 from ⟨ha, hb, by omega⟩), Bool.true_and, Bool.and_eq_true]
 refine ⟨List.all_eq_true.2 fun i hi => ?_, ?_⟩
 ·have hi := List.mem_range'_1.1 hi
  have hs := (hA.2 i (by omega)).2
  rw [stayB, Bool.or_eq_true, decide_eq_true_iff, Bool.not_eq_true', neS_iff]
  by_cases hlt : (l.getD i z64).f0 < n + 1 - m.length + 1
  ·exact .inl hlt
  ·refine .inr ?_
   have e : ((l.getD i z64).f0 - (n + 1 - m.length + 1)).toNat = i + m.length - 1 - l.length := by rw [hs] at hlt ⊢; omega
   rw [e]
   exact h.at i (by omega) (by rw [hs] at hlt; omega)
 ·rw [Bool.or_eq_true, beq_iff_eq]
  refine .inr ?_
  have e : (n - (n + 1 - m.length)).toNat = m.length - 1 := by omega
  rw [e, h.before]
theorem Went.last {a b : ByteArray} {n : Int} {l m : List S64} {e : S64} (h : Went a n l e b m) : m.getD (m.length - 1) z64 = e := by
 rcases h.len with ⟨_, _, rfl⟩ | ⟨_, _, rfl⟩ <;> exact getD_append_right' _ _ _ (by rw [List.length_append, List.length_singleton]; omega)
theorem addB_cases (a : ByteArray) (n : Int) (l : List S64) (e : S64) : (∃ b m, mayB a n l = true ∧ Went a n l ⟨n + 1, e.f1, e.f2, e.f3, e.f4⟩ b m ∧ addB a n l e = (b, n + 1, m, 0)) ∨ addB a n l e = (⟨#[]⟩, 0, [], 1) := by
 unfold addB
 by_cases h : mayB a n l = true ∧ goodB ⟨n + 1, e.f1, e.f2, e.f3, e.f4⟩ = true
 ·have h4 := ((mayB_iff a n l).1 h.1).1.2.2.2
  rw [mn8] at h4
  rw [if_pos h]
  by_cases h8 : l.length = 8
  ·rw [if_pos h8]
   exact .inl ⟨_, _, h.1, ⟨h.2, rfl, .inr ⟨h8, rfl, rfl⟩⟩, rfl⟩
  ·rw [if_neg h8]
   exact .inl ⟨_, _, h.1, ⟨h.2, rfl, .inl ⟨by split at h4 <;> omega, rfl, rfl⟩⟩, rfl⟩
 ·rw [if_neg h]
  exact .inr rfl

theorem chains_pure (a : ByteArray) (n : Int) (l : List S64) (e : S64) : strongroomlaw13_AuditChains.f 2000 a n l e.f0 e.f1 e.f2 e.f3 e.f4 = some true := by
 have hlv : strongroomlaw13_lives.f = some true := rfl
 have hj : ∀ x, (x = true ∨ l.length ≤ 40) → strongroomlaw13_AuditChains.j0 2000 x a n l e.f0 e.f1 e.f2 e.f3 e.f4 = some true := by
  intro x hx
  rw [show (2000 : Nat) = 1999 + 1 from rfl, strongroomlaw13_AuditChains.j0]
  by_cases h : x = true
  ·rw [if_pos h, hlv]
   rfl
  ·have hl := hx.resolve_left h
   rw [if_neg h, mine_some a n l (by omega), Option.bind_some]
   simp only []
   rw [add_some a n l e (by omega) 1999 (by omega), Option.bind_some]
   rcases addB_cases a n l e with ⟨b, m, ha, hw, hadd⟩ | hadd
   ·obtain ⟨_, hm8, hm0⟩ := hw.m_len ha
    have hmay := hw.may ha
    rw [hadd]
    simp only []
    have el : wrap64 ((m.length : Int) - 1) = ((m.length - 1 : Nat) : Int) := by rw [wrap64_id _ (by omega) (by omega)]; omega
    have hge : goodB (⟨n + 1, e.f1, e.f2, e.f3, e.f4⟩ : S64) = true := hw.good
    rw [if_pos trivial, if_neg (by omega), may_some b _ m (by omega) 1999 (by omega), Option.bind_some, hmay, if_pos rfl, digest_some b _ m (by omega) 1999 (by omega), Option.bind_some, Option.bind_some]
    simp only []
    rw [digest_some a n l (by omega) 1999 (by omega), Option.bind_some, el, if_pos (by omega), if_pos (by omega), rd_nat, hw.last, refbytes_some _ hge 1999 (by omega), Option.bind_some]
    have hd1 : digestA b (n + 1) m = chainP b m := if_pos hmay
    have hd2 : digestA a n l = chainP a l := if_pos ha
    have hsz : (chainP a l).size ≤ 1000 := chainP_size a l (by have := ((mayB_iff a n l).1 ha).1.1; omega)
    rw [hd1, hd2, mac_Seal.some_ _ _ (by omega) (by have := entB_size _ hge; omega), Option.bind_some, hw.chain, if_pos rfl, Option.bind_some]
    simp only []
    rw [follows_some a b n (n + 1) l m (by omega) (by omega) 1999 (by omega), Option.bind_some, hw.follows ha, if_pos rfl, hlv]
    rfl
   ·rw [hadd]
    simp only []
    rw [if_neg (by decide), may_some _ _ _ (by decide) 1999 (by decide), Option.bind_some, mayB_empty, if_neg (by decide), hlv]
    rfl
 unfold strongroomlaw13_AuditChains.f
 obtain ⟨s, hs, h⟩ := small_some a n l 2000 (by decide)
 rw [hs, Option.bind_some]
 by_cases ht : s = true
 ·rw [if_pos ht]
  exact hj _ (.inr (h ht).1)
 ·rw [if_neg ht]
  exact hj _ (.inl rfl)

end Go.Proofs.Ytcdnmlfnfhoieaa.A

/- What a struct and a list of structs read as, as the walks take it. No condition. -/
namespace Go.Proofs.Ytcdnmlfnfhoieaa.A
open Go.ChangeShapes Go.WideShapes Go.ChangeAt Go.RowKit Go.Joins Go.Deep
open Go.Proofs.YtcdnmlfnfhoieaaW.PrintWords Go.Proofs.YtcdnmlfnfhoieaaW.PrintLast Go.Proofs.YtcdnmlfnfhoieaaW.PrintMore
set_option linter.unusedVariables false

section
variable {H : Type} {enc : TypeId × Value → H} {w : World} {base : Nat} {held : Bool}
/-- A struct of five one-cell fields, by value. -/
theorem open_agg5 {P : Program} {spare : Nat → Bool} {r : Reach} {b0 : Nat} {t : TypeId} {f0 f1 f2 f3 f4 : Field} {v : Value} {d : DataW H} {p : List MemPlace} (hs : P.underlying t = some (.struct #[f0, f1, f2, f3, f4])) (hone : oneCellFields P #[f0, f1, f2, f3, f4] = true) (hC : P.cellsOf t = 5)
  (hv : Value.okWide P w r b0 t v) (h : DataW.Trod enc P w base spare held t v d p) :
  ∃ (v0 v1 v2 v3 v4 : Value) (y0 y1 y2 y3 y4 : DataW H × List MemPlace) (n : Nat), v = .agg #[v0, v1, v2, v3, v4] ∧
   DataW.trod enc P w base spare held n f0.type [v0] = some y0 ∧ DataW.trod enc P w base spare held n f1.type [v1] = some y1 ∧ DataW.trod enc P w base spare held n f2.type [v2] = some y2 ∧ DataW.trod enc P w base spare held n f3.type [v3] = some y3 ∧ DataW.trod enc P w base spare held n f4.type [v4] = some y4 := by
 obtain ⟨cs, rfl, hsz⟩ := okWide_struct hs hv
 obtain ⟨l⟩ := cs
 match l, hsz.trans hC with
 | [c0, c1, c2, c3, c4], _ =>
  obtain ⟨fuel, hf⟩ := h
  obtain ⟨xs, n, _, hx, _, hlen, hg⟩ := DataW.trod_struct hs hf
  obtain ⟨o0, k0⟩ := hone_of hone 0 f0 rfl
  obtain ⟨o1, k1⟩ := hone_of hone 1 f1 rfl
  obtain ⟨o2, k2⟩ := hone_of hone 2 f2 rfl
  obtain ⟨o3, k3⟩ := hone_of hone 3 f3 rfl
  obtain ⟨o4, k4⟩ := hone_of hone 4 f4 rfl
  match xs, hlen with
  | [y0, y1, y2, y3, y4], _ =>
   exact ⟨c0, c1, c2, c3, c4, y0, y1, y2, y3, y4, n, rfl, by simpa [Value.cells, o0, k0] using hg 0 f0 rfl, by simpa [Value.cells, o1, k1] using hg 1 f1 rfl, by simpa [Value.cells, o2, k2] using hg 2 f2 rfl, by simpa [Value.cells, o3, k3] using hg 3 f3 rfl, by simpa [Value.cells, o4, k4] using hg 4 f4 rfl⟩
/-- A struct of three one-cell fields, by value. -/
theorem open_agg3' {P : Program} {spare : Nat → Bool} {r : Reach} {b0 : Nat} {t : TypeId} {f0 f1 f2 : Field} {v : Value} {d : DataW H} {p : List MemPlace} (hs : P.underlying t = some (.struct #[f0, f1, f2])) (hone : oneCellFields P #[f0, f1, f2] = true) (hC : P.cellsOf t = 3)
  (hv : Value.okWide P w r b0 t v) (h : DataW.Trod enc P w base spare held t v d p) :
  ∃ (v0 v1 v2 : Value) (y0 y1 y2 : DataW H × List MemPlace) (n : Nat), v = .agg #[v0, v1, v2] ∧
   DataW.trod enc P w base spare held n f0.type [v0] = some y0 ∧ DataW.trod enc P w base spare held n f1.type [v1] = some y1 ∧ DataW.trod enc P w base spare held n f2.type [v2] = some y2 := by
 obtain ⟨v0, v1, v2, y0, y1, y2, n, h1, _, _, h2⟩ := Go.Joins.open_agg3 hs hone hC hv h
 exact ⟨v0, v1, v2, y0, y1, y2, n, h1, h2⟩
set_option maxRecDepth 100000 in
/-- A list of entries. -/
theorem open_T64 {n : Nat} {v : Value} {y : DataW H × List MemPlace} (h : DataW.trod enc Try.prog w base (fun _ => true) held n 52 [v] = some y) :
  ∃ (A : Option Addr) (c : Nat) (l : List S64), v = .slice A l.length c ∧ l.length ≤ c ∧ Kd.C k64 w A l.length l := by
 rcases Go.Deep.open_slice Try.underlying52 h with ⟨hcs, _⟩ | ⟨a, len, cap, m, n', D, Pl, hcs, hb, hl, hm, hmm, hx, hall⟩
 ·cases hcs
  exact ⟨none, 0, [], rfl, Nat.le_refl _, rfl, by simp, fun h => absurd h (Nat.lt_irrefl _)⟩
 ·cases hcs
  have hm' : m = cap := by simpa using hmm
  have h5 : Try.prog.cellsOf 64 = 5 := by kernel_rfl
  haveI : Inhabited S64 := ⟨z64⟩
  have each : ∀ i, i < len → ∃ e : S64, ∀ j u, [Value.int .i64 e.f0, .int .i64 e.f1, .int .i64 e.f2, .string e.f3, .int .i64 e.f4][j]? = some u → w.cell? (a.add (i * 5 + j)) = some u := by
   intro i hi
   obtain ⟨cs', h1, h2⟩ := hall i (by omega)
   rw [h5] at h1
   obtain ⟨_, hlen, hcell⟩ := World.cells?_some h1
   obtain ⟨xs, k, hk, hxy, _, hxl, hf⟩ := DataW.trod_struct Try.underlying64 h2
   match xs, hxl, cs', hlen with
   | [y0, y1, y2, y3, y4], _, [v0, v1, v2, v3, v4], _ =>
    have c3 : Try.prog.cellsOf 3 = 1 := by kernel_rfl
    have c9 : Try.prog.cellsOf 9 = 1 := by kernel_rfl
    have c26 : Try.prog.cellsOf 26 = 1 := by kernel_rfl
    have g0 := hf 0 _ rfl
    have g1 := hf 1 _ rfl
    have g2 := hf 2 _ rfl
    have g3 := hf 3 _ rfl
    have g4 := hf 4 _ rfl
    simp [c3, c9, c26] at g0 g1 g2 g3 g4
    obtain ⟨a0, e0, _⟩ := DataW.trod_int Try.underlying3 g0
    obtain ⟨a1, e1, _⟩ := DataW.trod_int Try.underlying3 g1
    obtain ⟨a2, e2, _⟩ := DataW.trod_int Try.underlying3 g2
    obtain ⟨a3, e3, _⟩ := DataW.trod_string Try.underlying9 g3
    obtain ⟨a4, e4, _⟩ := DataW.trod_int Try.underlying26 g4
    cases e0
    cases e1
    cases e2
    cases e3
    cases e4
    refine ⟨⟨a0, a1, a2, a3, a4⟩, fun j u hj => ?_⟩
    have hj5 : j < 5 := by
     rcases Nat.lt_or_ge j 5 with h | h
     ·exact h
     ·rw [List.getElem?_eq_none (by simpa using h)] at hj
      cases hj
    have := hcell j hj5
    rw [Go.Deep.add_add] at this
    rw [this]
    exact hj
  obtain ⟨f, hf⟩ := choose_lt (α := S64) (p := fun i e => ∀ j u, [Value.int .i64 e.f0, .int .i64 e.f1, .int .i64 e.f2, .string e.f3, .int .i64 e.f4][j]? = some u → w.cell? (a.add (i * 5 + j)) = some u) each
  have hlen : ((List.range len).map f).length = len := by simp
  refine ⟨some a, cap, (List.range len).map f, by rw [hlen], by rw [hlen]; exact hl, rfl, ?_, fun _ => ⟨a, rfl, fun j p hj => ?_⟩⟩
  ·rw [hlen]
   simp only [maxLen] at hm
   omega
  ·have hjl : j < len := by
    rcases Nat.lt_or_ge j len with h | h
    ·exact h
    ·rw [List.getElem?_eq_none (by simpa using h)] at hj
     cases hj
   have e : p = f j := by
    rw [List.getElem?_map, List.getElem?_range hjl] at hj
    exact (Option.some.inj hj).symm
   subst e
   exact ⟨_, rfl, k64_mk w (f j), fun i u hi => hf j hjl i u hi⟩
end

end Go.Proofs.Ytcdnmlfnfhoieaa.A

/- AuditChains, for every audit and every entry: the law answers true, and every argument reads behind the call as before. No condition beyond the row's own. -/
namespace Go.Proofs.Ytcdnmlfnfhoieaa.auditChains
open Go.ChangeShapes Go.WideShapes Go.ChangeAt Go.RowKit Go.Joins Go.Deep
open Go.ChangeMaps (open_string shut_string)
open Go.Proofs.Ytcdnmlfnfhoieaa.A Go.Proofs.YtcdnmlfnfhoieaaW.PrintWords Go.Proofs.Ytcdnmlfnfhoieaa.Bs
set_option linter.unusedVariables false

theorem own : ownKnob Try.prog.godebug = none := by kernel_rfl
theorem laidOut : laidOutB Try.prog = true := by kernel_rfl

set_option maxRecDepth 100000 in
theorem lifted (os : Os) (started : os.Started) (H : Type) (enc : TypeId × Value → H) :
  ReturnsInHanded {} Try.checked os 10 .any (Rows.auditChainsSpec.pre6 enc Try.prog Try.f10 Rows.auditChainsRow.domain false) (Rows.auditChainsSpec.post enc Try.prog Try.f10 false true false false) := by
 refine returnsInHanded_of_change_sized (C := Try.checked) own started (by kernel_rfl) Try.func10
  (ChangeSpec.witness6 (enc := enc) (C := Try.checked) false ⟨#[], #[.agg #[.string ByteArray.empty, .int .i64 0, .slice none 0 0], .agg #[.int .i64 0, .int .i64 0, .int .i64 0, .string ByteArray.empty, .int .i64 0]], []⟩ 8 (by kernel_rfl) (by kernel_rfl) (by kernel_rfl) (by kernel_rfl)) ?_
 intro W base args ds gs before hval0 hW hcnd hsz0 _
 have hval : ∀ (j : Nat) t v, Try.f10.params[j]? = some t → args[j]? = some v → Value.okWide Try.prog W .any base t v := hval0
 have hW' := hW
 obtain ⟨p, q, hA0, hV, rfl, hfz, hnd⟩ := hW
 have hA : DataW.TrodAll enc Try.prog W 0 (fun _ => true) true Try.f10.params.toList args.toList ds p := hA0
 rw [Try.params10] at hA hval
 obtain ⟨v0, vs0, d0, ds0, p0, q0, hargs, rfl, rfl, h0, r0⟩ := trodAll_cons hA
 obtain ⟨v1, vs1, d1, ds1, p1, q1, rfl, rfl, rfl, h1, r1⟩ := trodAll_cons r0
 obtain ⟨rfl, rfl, rfl⟩ := trodAll_nil r1
 obtain rfl : args = #[v0, v1] := by cases args; simp_all
 obtain ⟨rfl, rfl⟩ := trodVars_none hV
 have k0 := h0
 have lt0 : ∀ x ∈ p0, x.block < W.heap.size := by obtain ⟨m, hm⟩ := k0; exact DataW.trod_lt m _ _ _ hm
 obtain ⟨u0_0, u0_1, u0_2, y0_0, y0_1, y0_2, m0, rfl, t0_0, t0_1, t0_2⟩ := Go.Proofs.Ytcdnmlfnfhoieaa.A.open_agg3' Try.underlying54 (by kernel_rfl) (by kernel_rfl) (hval 0 54 v0 rfl rfl) h0
 obtain ⟨s0, e0_0, _, _⟩ := DataW.trod_string Try.underlying9 t0_0
 obtain ⟨n0, e0_1, _, _⟩ := DataW.trod_int Try.underlying3 t0_1
 cases e0_0
 cases e0_1
 obtain ⟨A0, c0, l0, rfl, hc0, hC0⟩ := open_T64 t0_2
 have k1 := h1
 have lt1 : ∀ x ∈ p1, x.block < W.heap.size := by obtain ⟨m, hm⟩ := k1; exact DataW.trod_lt m _ _ _ hm
 obtain ⟨u1_0, u1_1, u1_2, u1_3, u1_4, y1_0, y1_1, y1_2, y1_3, y1_4, m1, rfl, t1_0, t1_1, t1_2, t1_3, t1_4⟩ := Go.Proofs.Ytcdnmlfnfhoieaa.A.open_agg5 Try.underlying64 (by kernel_rfl) (by kernel_rfl) (hval 1 64 v1 rfl rfl) h1
 obtain ⟨x1_0, e1_0, _, _⟩ := DataW.trod_int Try.underlying3 t1_0
 cases e1_0
 obtain ⟨x1_1, e1_1, _, _⟩ := DataW.trod_int Try.underlying3 t1_1
 cases e1_1
 obtain ⟨x1_2, e1_2, _, _⟩ := DataW.trod_int Try.underlying3 t1_2
 cases e1_2
 obtain ⟨x1_3, e1_3, _, _⟩ := DataW.trod_string Try.underlying9 t1_3
 cases e1_3
 obtain ⟨x1_4, e1_4, _, _⟩ := DataW.trod_int Try.underlying26 t1_4
 cases e1_4
 clear hA0 hval0
 refine (strongroomlaw13_AuditChains.calls 2000 s0 n0 A0 c0 l0 x1_0 x1_1 x1_2 x1_3 x1_4 true W hC0 hc0 (chains_pure s0 n0 l0 ⟨x1_0, x1_1, x1_2, x1_3, x1_4⟩)).mono fun e W' ⟨he, bel⟩ => ?_
 subst he
 exact ⟨_, rfl, _, _, _, [], _, [], hW', trodAll_mk1 (shut_bool Try.underlying4 _), (trodAll_cons_mk (Below.trod laidOut (by kernel_rfl) (of_decide_eq_true (by kernel_rfl)) k0 bel lt0) (trodAll_cons_mk (Below.trod laidOut (by kernel_rfl) (of_decide_eq_true (by kernel_rfl)) k1 bel lt1) trodAll_mk0)), rfl, bel.frame _, fun h => by cases h⟩
theorem over : Rows.auditChainsRow.holds Try.pinned (OpenSpec.ofChange Rows.auditChainsSpec) :=
 OpenClaim.holds_of_wide 10 Try.f10 rfl rfl rfl rfl rfl rfl rfl ⟨rfl, rfl, rfl, rfl, rfl⟩ rfl rfl rfl rfl rfl (by kernel_rfl) Try.func10 (by kernel_rfl)
  (of_decide_eq_true (by kernel_rfl)) (by unfold Func.isWrapper; first | (rw [if_pos (by decide +kernel)]; kernel_rfl) | (rw [if_neg (by decide +kernel)]; exact ⟨rfl, rfl⟩))
  (fun os started H enc _ => lifted os started H enc)
theorem proved : Rows.AuditChainsSaid := over
#print axioms proved
end Go.Proofs.Ytcdnmlfnfhoieaa.auditChains
namespace Go.Proofs.Ytcdnmlfnfhoieaa
/-- The row, under a short name, for the claim. -/
theorem auditChains_holds : Rows.AuditChainsSaid := auditChains.proved
end Go.Proofs.Ytcdnmlfnfhoieaa
