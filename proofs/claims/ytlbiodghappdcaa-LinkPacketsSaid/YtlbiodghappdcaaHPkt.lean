/- Packets: which are right, their bytes; link.Right, link.Encode, the reference's Right and Encode answer so. No condition but the walks' own. -/
import Derived.Test.YtlbiodghappdcaaHNum
import Derived.Test.YtlbiodghappdcaaHF
import Derived.Test.YtlbiodghappdcaaLf8
import Derived.Test.YtlbiodghappdcaaLf9
import Derived.Test.YtlbiodghappdcaaLf11
import Derived.Lib.Hide
namespace Go.Proofs.Ytlbiodghappdcaa.L
open Go.RowKit Go.Proofs.YtlbiodghappdcaaW.PrintWords Go.Proofs.YtlbiodghappdcaaW.PrintLast Go.Proofs.YtlbiodghappdcaaW.PrintMore Go.Proofs.Ytlbiodghappdcaa.Bs
attribute [local go_sem] max2_int min2_int max_two min_two max_three min_three max_four min_four
set_option linter.unusedVariables false
set_option linter.unusedSimpArgs false

/-- Is a packet right? -/
def rightB (p : S30) : Bool := decide (0 ≤ p.f1) && decide (p.f1 ≤ 1099511627776) &&
  (if p.f0 = true then decide (0 ≤ p.f4) && decide (p.f4 < 65536) && decide (p.f4 % 2 = 0) && !p.f2 && decide (p.f3.size = 0) else decide (p.f3.size ≤ 200) && (p.f2 || decide (p.f3.size = 200)) && decide (p.f4 = 0))
/-- A right packet's bytes. -/
def encB (p : S30) : List Int := (if p.f0 = true then 3 else if p.f2 = true then 2 else 1) :: (putB p.f1.toNat ++ if p.f0 = true then putB p.f4.toNat else putB p.f3.size ++ bytesOf p.f3)

theorem beq_nil_size (s : ByteArray) : (s.toList == ([] : List UInt8)) = decide (s.size = 0) := by
  have e : s.toList = s.data.toList := ByteArray.toList_eq s
  rw [e, Bool.eq_iff_iff, beq_iff_eq, decide_eq_true_eq]
  constructor
  · intro h
    show s.data.size = 0
    rw [← Array.length_toList, h]
    rfl
  · intro h
    have : s.data.toList.length = 0 := by rw [Array.length_toList]; exact h
    exact List.eq_nil_of_length_eq_zero this
theorem and1 (x : Int) (h0 : 0 ≤ x) (h1 : x < 65536) : Go.bits .and .i64 x 1 = x % 2 := by
  have h := bits_mask .i64 63 (by decide) (fun n h0 h1 => by rw [IntKind.wrap_i64]; omega) 1 (by decide) x h0 (by omega)
  exact h
theorem link_right_some (p : S30) : link_Right.f 1 p.f0 p.f1 p.f2 p.f3 p.f4 = some (rightB p) := by
  unfold link_Right.f
  have hc : (if p.f1 < 0 then (link_Right.j0 1 true p.f0 p.f1 p.f2 p.f3 p.f4) else (link_Right.j0 1 (decide (p.f1 > 1099511627776)) p.f0 p.f1 p.f2 p.f3 p.f4)) = link_Right.j0 1 (decide (p.f1 < 0) || decide (p.f1 > 1099511627776)) p.f0 p.f1 p.f2 p.f3 p.f4 := by
    by_cases h : p.f1 < 0
    · rw [if_pos h, decide_eq_true h, Bool.true_or]
    · rw [if_neg h, decide_eq_false h, Bool.false_or]
  rw [hc]
  simp only [link_Right.j0, beq_nil_size]
  unfold rightB
  by_cases h1 : p.f1 < 0
  · rw [decide_eq_true h1, Bool.true_or, if_pos rfl, decide_eq_false (show ¬ 0 ≤ p.f1 by omega)]
    rfl
  · rw [decide_eq_false h1, Bool.false_or, decide_eq_true (show 0 ≤ p.f1 by omega), Bool.true_and]
    by_cases h2 : p.f1 > 1099511627776
    · rw [decide_eq_true h2, if_pos rfl, decide_eq_false (show ¬ p.f1 ≤ 1099511627776 by omega)]
      rfl
    · rw [decide_eq_false h2, if_neg (by decide), decide_eq_true (show p.f1 ≤ 1099511627776 by omega), Bool.true_and]
      by_cases h3 : p.f0 = true
      · rw [if_pos h3, if_pos h3]
        by_cases h4 : p.f4 ≥ 0
        · rw [if_pos h4, decide_eq_true (show 0 ≤ p.f4 from h4), Bool.true_and]
          by_cases h5 : p.f4 < 65536
          · rw [if_pos h5, decide_eq_true h5, Bool.true_and, and1 _ h4 h5]
            by_cases h6 : p.f4 % 2 = 0
            · rw [if_pos h6, decide_eq_true h6, Bool.true_and]
              cases p.f2 <;> simp
            · rw [if_neg h6, decide_eq_false h6]
              rfl
          · rw [if_neg h5, decide_eq_false h5]
            rfl
        · rw [if_neg h4, decide_eq_false (show ¬ 0 ≤ p.f4 from h4)]
          rfl
      · rw [if_neg h3, if_neg h3]
        by_cases h4 : (p.f3.size : Int) ≤ 200
        · rw [if_pos h4, decide_eq_true (show p.f3.size ≤ 200 by omega), Bool.true_and]
          have e : (p.f4 == 0) = decide (p.f4 = 0) := by rw [Bool.eq_iff_iff, beq_iff_eq, decide_eq_true_eq]
          cases p.f2 with
          | true => simp [e]
          | false =>
            rw [if_neg (by decide), Bool.false_or]
            by_cases h5 : p.f3.size = 200
            · rw [if_pos (by omega), decide_eq_true h5, e, Bool.true_and]
            · rw [if_neg (by omega), decide_eq_false h5]
              rfl
        · rw [if_neg h4, decide_eq_false (show ¬ p.f3.size ≤ 200 by omega)]
          rfl
theorem ref_right_some (p : S30) : strongroomref26_Right.f 1 p.f0 p.f1 p.f2 p.f3 p.f4 = some (rightB p) := by
  unfold strongroomref26_Right.f
  have hc : (if p.f1 < 0 then (strongroomref26_Right.j0 1 true p.f0 p.f1 p.f2 p.f3 p.f4) else (strongroomref26_Right.j0 1 (decide (p.f1 > 1099511627776)) p.f0 p.f1 p.f2 p.f3 p.f4)) = strongroomref26_Right.j0 1 (decide (p.f1 < 0) || decide (p.f1 > 1099511627776)) p.f0 p.f1 p.f2 p.f3 p.f4 := by
    by_cases h : p.f1 < 0
    · rw [if_pos h, decide_eq_true h, Bool.true_or]
    · rw [if_neg h, decide_eq_false h, Bool.false_or]
  rw [hc]
  simp only [strongroomref26_Right.j0, beq_nil_size]
  unfold rightB
  by_cases h1 : p.f1 < 0
  · rw [decide_eq_true h1, Bool.true_or, if_pos rfl, decide_eq_false (show ¬ 0 ≤ p.f1 by omega)]
    rfl
  · rw [decide_eq_false h1, Bool.false_or, decide_eq_true (show 0 ≤ p.f1 by omega), Bool.true_and]
    by_cases h2 : p.f1 > 1099511627776
    · rw [decide_eq_true h2, if_pos rfl, decide_eq_false (show ¬ p.f1 ≤ 1099511627776 by omega)]
      rfl
    · rw [decide_eq_false h2, if_neg (by decide), decide_eq_true (show p.f1 ≤ 1099511627776 by omega), Bool.true_and]
      by_cases h3 : p.f0 = true
      · rw [if_pos h3, if_pos h3]
        by_cases h4 : p.f4 ≥ 0
        · rw [if_pos h4, decide_eq_true (show 0 ≤ p.f4 from h4), Bool.true_and]
          by_cases h5 : p.f4 ≤ 65535
          · rw [if_pos h5, decide_eq_true (show p.f4 < 65536 by omega), Bool.true_and, Int.tmod_eq_emod_of_nonneg h4]
            by_cases h6 : p.f4 % 2 = 0
            · rw [if_pos h6, decide_eq_true h6, Bool.true_and]
              cases p.f2 <;> simp
            · rw [if_neg h6, decide_eq_false h6]
              rfl
          · rw [if_neg h5, decide_eq_false (show ¬ p.f4 < 65536 by omega)]
            rfl
        · rw [if_neg h4, decide_eq_false (show ¬ 0 ≤ p.f4 from h4)]
          rfl
      · rw [if_neg h3, if_neg h3]
        by_cases h6 : p.f4 = 0
        · rw [if_pos h6, decide_eq_true h6, Bool.and_true]
          by_cases h4 : (p.f3.size : Int) > 200
          · rw [if_pos h4, decide_eq_false (show ¬ p.f3.size ≤ 200 by omega)]
            rfl
          · rw [if_neg h4, decide_eq_true (show p.f3.size ≤ 200 by omega), Bool.true_and]
            cases p.f2 with
            | true => simp
            | false =>
              rw [if_neg (by decide), Bool.false_or]
              congr 1
              rw [Bool.eq_iff_iff, beq_iff_eq, decide_eq_true_eq]
              omega
        · rw [if_neg h6, decide_eq_false h6, Bool.and_false]
theorem rightB_bounds {p : S30} (h : rightB p = true) : 0 ≤ p.f1 ∧ p.f1 ≤ 1099511627776 ∧ p.f3.size ≤ 200 ∧ (p.f0 = true → 0 ≤ p.f4 ∧ p.f4 < 65536 ∧ p.f2 = false ∧ p.f3.size = 0) ∧ (p.f0 = false → p.f4 = 0) := by
  unfold rightB at h
  simp only [Bool.and_eq_true, decide_eq_true_eq] at h
  obtain ⟨⟨h1, h2⟩, h3⟩ := h
  cases hf : p.f0 with
  | true =>
    rw [hf, if_pos rfl] at h3
    simp only [Bool.and_eq_true, decide_eq_true_eq, Bool.not_eq_true'] at h3
    obtain ⟨⟨⟨⟨a, b⟩, c⟩, d⟩, e⟩ := h3
    exact ⟨h1, h2, by omega, fun _ => ⟨a, b, d, e⟩, fun h => (by cases h)⟩
  | false =>
    rw [hf, if_neg (by decide)] at h3
    simp only [Bool.and_eq_true, decide_eq_true_eq] at h3
    exact ⟨h1, h2, h3.1.1, fun h => (by cases h), fun _ => h3.2⟩
theorem link_encode_some (p : S30) : link_Encode.f 11 p.f0 p.f1 p.f2 p.f3 p.f4 = some (if rightB p = true then (encB p, 0) else ([], 1)) := by
  unfold link_Encode.f
  rw [at_rounds (link_Right.mono _ _ _ _ _) (by decide : 1 ≤ 11) (link_right_some p), Option.bind_some]
  by_cases hr : rightB p = true
  · rw [if_pos hr, if_pos hr]
    obtain ⟨h1, h2, h3, h4, h5⟩ := rightB_bounds hr
    have eN : IntKind.u64.wrap p.f1 = (p.f1.toNat : Int) := by rw [wrap_u64 _ h1 (by omega)]; omega
    have l2 := putB_len10 (n := p.f1.toNat) (by omega)
    simp only [link_Encode.j0, eN]
    unfold encB
    cases hf : p.f0 with
    | true =>
      obtain ⟨a, b, c, d⟩ := h4 hf
      have eB : IntKind.u64.wrap p.f4 = (p.f4.toNat : Int) := by rw [wrap_u64 _ a (by omega)]; omega
      simp only [if_true, eB]
      rw [put_some p.f1.toNat [3] (by omega) (by simp), Option.bind_some, put_some p.f4.toNat _ (by omega) (by simp; omega)]
      simp
    | false =>
      simp only [if_neg (show ¬ (false = true) by decide)]
      cases p.f2 with
      | true =>
        simp only [if_true]
        rw [put_some p.f1.toNat [2] (by omega) (by simp), Option.bind_some, puttext_some _ p.f3 (by simp; omega)]
        simp
      | false =>
        simp only [if_neg (show ¬ (false = true) by decide)]
        rw [put_some p.f1.toNat [1] (by omega) (by simp), Option.bind_some, puttext_some _ p.f3 (by simp; omega)]
        simp
  · rw [if_neg hr, if_neg hr]
theorem encB_byte (p : S30) : ∀ x ∈ encB p, 0 ≤ x ∧ x < 256 := by
  intro x hx
  unfold encB at hx
  rcases List.mem_cons.1 hx with rfl | hx
  · split
    · omega
    · split <;> omega
  · rcases List.mem_append.1 hx with hx | hx
    · exact putB_byte _ x hx
    · split at hx
      · exact putB_byte _ x hx
      · rcases List.mem_append.1 hx with hx | hx
        · exact putB_byte _ x hx
        · exact bytesOf_byte _ x hx

end Go.Proofs.Ytlbiodghappdcaa.L
