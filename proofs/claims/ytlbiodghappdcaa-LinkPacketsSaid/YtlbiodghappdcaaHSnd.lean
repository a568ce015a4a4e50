/- The Sender in memory, and the walks of its small methods (Wait, Done, told). -/
import Derived.Test.YtlbiodghappdcaaL0
import Derived.Test.YtlbiodghappdcaaHF
import Derived.Lib.Hide
namespace Go.Proofs.Ytlbiodghappdcaa.L
open Go.RowKit Go.Proofs.YtlbiodghappdcaaW.PrintWords Go.Proofs.YtlbiodghappdcaaW.PrintLast Go.Proofs.YtlbiodghappdcaaW.PrintMore Go.Proofs.Ytlbiodghappdcaa.Bs
attribute [local go_sem] max2_int min2_int max_two min_two max_three min_three max_four min_four
set_option linter.unusedVariables false
set_option linter.unusedSimpArgs false

/-- A Sender at block g: its parts, the number of the first, its time; the parts' row lies in blocks of P. -/
def Snd (w : World) (g : Nat) (P : Nat → Prop) (xs : List S86) (first now : Int) : Prop :=
  ∃ v, w.heap[g]? = some (.cells #[v, .int .i64 first, .int .i64 now] 77 (0, 0)) ∧ Kd.Q k86 86 w 0 P v xs

theorem Snd.fr {w w' : World} {g : Nat} {P S : Nat → Prop} {xs : List S86} {f n : Int} (h : Snd w g P xs f n) (k : Fr w w' S) (hg : ¬ S g) (hP : ∀ k, P k → ¬ S k) : Snd w' g P xs f n := by
  obtain ⟨v, hb, hq⟩ := h
  exact ⟨v, k.blk hb hg, k.rowQ hq hP⟩
theorem Snd.mono {w : World} {g : Nat} {P P' : Nat → Prop} {xs : List S86} {f n : Int} (h : Snd w g P xs f n) (hP : ∀ k, P k → P' k) : Snd w g P' xs f n := by
  obtain ⟨v, hb, hq⟩ := h
  exact ⟨v, hb, Kd.Q_mono hq hP⟩

set_option maxHeartbeats 400000 in
theorem snd_wait {w : World} {g : Nat} {P : Nat → Prop} {xs : List S86} {f n : Int} (h : Snd w g P xs f n) :
    Calls Try.prog 25 #[.pointer (some ⟨g, 0, none⟩)] w fun e w' => e = .returned (.int .i64 (xs.length : Int)) ∧ w' = w := by
  obtain ⟨v, hb, hq⟩ := h
  obtain ⟨A, c, rfl, hc, hC⟩ := Kd.Q_reads hq
  have h0 := (blk_cell hb 0).trans rfl
  have hu77 := Try.underlying77
  clear hC hq
  go_enter Try.func25, Try.ntmps25
  go_wp2
  go_ret
  exact ⟨rfl, rfl⟩

theorem beq_zero_nat (n : Nat) : ((n : Int) == 0) = decide (n = 0) := by
  rw [Bool.eq_iff_iff, beq_iff_eq, decide_eq_true_eq]
  omega

/-- How many parts were sent, from the first on. -/
def toldN (xs : List S86) : Nat := (xs.takeWhile (fun x => x.f1)).length
theorem toldN_le (xs : List S86) : toldN xs ≤ xs.length := by
  unfold toldN
  exact (List.takeWhile_prefix _).length_le
theorem takeWhile_at {α : Type} (p : α → Bool) : ∀ (xs : List α) (j : Nat) (d : α), j < xs.length → j ≤ (xs.takeWhile p).length → (p (xs.getD j d) = true ↔ j < (xs.takeWhile p).length)
  | [], j, d, h, _ => by simp at h
  | x :: xs, 0, d, _, _ => by
    rw [List.takeWhile_cons]
    split <;> simp_all
  | x :: xs, j + 1, d, h, h1 => by
    rw [List.takeWhile_cons] at h1 ⊢
    split at h1
    · rename_i hp
      rw [if_pos hp]
      simp only [List.length_cons] at h h1 ⊢
      rw [List.getD_cons_succ, takeWhile_at p xs j d (by omega) (by omega)]
      omega
    · simp at h1
theorem toldN_at (xs : List S86) (j : Nat) (h : j < xs.length) (h1 : j ≤ toldN xs) : (rd_T86 xs (j : Int)).f1 = decide (j < toldN xs) := by
  have := takeWhile_at (fun x : S86 => x.f1) xs j z86 h h1
  unfold rd_T86 toldN at *
  rw [Int.toNat_natCast]
  rw [Bool.eq_iff_iff, this]
  simp

set_option maxHeartbeats 400000 in
set_option maxRecDepth 100000 in
theorem snd_told {w : World} {g : Nat} {P : Nat → Prop} {xs : List S86} {f n : Int} (h : Snd w g P xs f n) :
    Calls Try.prog 39 #[.pointer (some ⟨g, 0, none⟩)] w fun e w' => e = .returned (.int .i64 (toldN xs : Int)) ∧ w' = w := by
  obtain ⟨v, hb, hq⟩ := h
  obtain ⟨A, c, rfl, hc, hC⟩ := Kd.Q_reads hq
  have h0 : w.cell? ⟨g, 0, none⟩ = some (.slice A xs.length c) := (blk_cell hb 0).trans rfl
  have hu77 := Try.underlying77
  have hu86 := Try.underlying86
  have HC := Aside0.mk hC
  have hm : xs.length ≤ 9223372036854775807 := hC.2.1
  clear hC hq
  have hle := toldN_le xs
  go_enter Try.func39, Try.ntmps39
  go_wp2
  go_loopg [3] xs.length (fun kq v3 w' => ∃ j : Nat, v3 = .int .i64 j ∧ j ≤ toldN xs ∧ j + kq = xs.length ∧ w' = w)
  case atStart => exact ⟨0, rfl, by omega, by omega, rfl⟩
  case round =>
    obtain ⟨j, rfl, h1, h2, rfl⟩ := hrel
    have hd1 : decide ((j : Int) < (xs.length : Int)) = decide (j < xs.length) := by simp
    by_cases hj : j < xs.length
    · obtain ⟨ad, rfl, c0, c1, c2, c3, c4, c5, c6, c7⟩ := at_T86 HC.out j (by omega) (by omega)
      rw [toldN_at xs j hj h1] at c5
      clear hd1 c0 c1 c2 c3 c4 c6 c7
      rw [Int.toNat_natCast] at c5
      by_cases ht : j < toldN xs
      · rw [decide_eq_true ht] at c5
        have H2 := Lib.hid h2
        clear h2
        go_wp2
        go_roundg (gk - 1)
        case measure => have := H2.out; omega
        case rel => exact ⟨j + 1, by go_num, by omega, by have := H2.out; omega, rfl⟩
      · have he : j = toldN xs := by omega
        rw [decide_eq_false ht] at c5
        have H2 := Lib.hid h2
        have HE := Lib.hid he
        clear h2 he
        go_wp2
        go_ret
        exact ⟨by have := HE.out; subst this; rfl, rfl⟩
    · have he : j = toldN xs := by omega
      have H2 := Lib.hid h2
      have HE := Lib.hid he
      clear h2 he hd1
      go_wp2
      go_ret
      exact ⟨by have := HE.out; subst this; rfl, rfl⟩


set_option maxHeartbeats 400000 in
theorem snd_done {w : World} {g : Nat} {P : Nat → Prop} {xs : List S86} {f n : Int} (h : Snd w g P xs f n) :
    Calls Try.prog 20 #[.pointer (some ⟨g, 0, none⟩)] w fun e w' => e = .returned (.bool (decide (xs.length = 0))) ∧ w' = w := by
  obtain ⟨v, hb, hq⟩ := h
  obtain ⟨A, c, rfl, hc, hC⟩ := Kd.Q_reads hq
  have h0 : w.cell? ⟨g, 0, none⟩ = some (.slice A xs.length c) := (blk_cell hb 0).trans rfl
  have hu77 := Try.underlying77
  clear hC hq
  go_enter Try.func20, Try.ntmps20
  go_wp2
  go_ret
  exact ⟨congrArg (fun b => Ending.returned (Value.bool b)) (beq_zero_nat _), rfl⟩

end Go.Proofs.Ytlbiodghappdcaa.L
