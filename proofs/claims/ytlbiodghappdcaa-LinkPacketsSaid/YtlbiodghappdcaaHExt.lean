/- Decode and the reference's Encode in the form in which the other texts call them. No condition: where a walk asks for one the function says none. -/
import Derived.Test.YtlbiodghappdcaaHDec
import Derived.Test.YtlbiodghappdcaaHRefEnc
import Derived.Test.YtlbiodghappdcaaHLives
namespace Go.Proofs.Ytlbiodghappdcaa.L
open Go.RowKit Go.Proofs.YtlbiodghappdcaaW.PrintWords Go.Proofs.YtlbiodghappdcaaW.PrintLast Go.Proofs.YtlbiodghappdcaaW.PrintMore Go.Proofs.Ytlbiodghappdcaa.Bs
set_option linter.unusedVariables false

open Classical in
noncomputable def link_Decode.f (l : List Int) : Option (Bool × Int × Bool × ByteArray × Int × Int) :=
  if (∀ x ∈ l, 0 ≤ x ∧ x < 256) ∧ l.length < 70368744177664 then
    (if h : ∃ q, rightB q = true ∧ encB q = l then some ((Classical.choose h).f0, (Classical.choose h).f1, (Classical.choose h).f2, (Classical.choose h).f3, (Classical.choose h).f4, 0) else some (false, 0, false, ⟨#[]⟩, 0, 4))
  else none
theorem enc_inj {p q : S30} (hp : rightB p = true) (hq : rightB q = true) (h : encB p = encB q) : p = q := by
  rw [encB_eq, encB_eq] at h
  injection h with h1 h2
  obtain ⟨h3, h4⟩ := putB_one _ _ _ _ h2
  obtain ⟨a1, a2, a3, a4, a5⟩ := rightB_bounds hp
  obtain ⟨b1, b2, b3, b4, b5⟩ := rightB_bounds hq
  have hN : p.f1 = q.f1 := by omega
  rcases p with ⟨p0, p1, p2, p3, p4⟩
  rcases q with ⟨q0, q1, q2, q3, q4⟩
  simp only at *
  cases p0 with
  | true =>
    have h0 : q0 = true := kindB3 (h1.symm.trans rfl)
    subst h0
    obtain ⟨x1, x2, x3, x4⟩ := a4 rfl
    obtain ⟨y1, y2, y3, y4⟩ := b4 rfl
    have h5 := (putB_one p4.toNat q4.toNat [] [] (by simpa [restB] using h4)).1
    have h6 : p3 = q3 := ByteArray.ext ((Array.eq_empty_of_size_eq_zero x4).trans (Array.eq_empty_of_size_eq_zero y4).symm)
    rw [hN, x3, y3, h6, show p4 = q4 by omega]
  | false =>
    have h0 : q0 = false := by
      cases q0 with
      | false => rfl
      | true =>
        exfalso
        unfold kindB at h1
        simp only [if_neg (show ¬ (false = true) by decide), if_true] at h1
        split at h1 <;> omega
    subst h0
    have h7 : p2 = q2 := by
      unfold kindB at h1
      simp only [if_neg (show ¬ (false = true) by decide)] at h1
      cases p2 <;> cases q2 <;> simp at h1 <;> rfl
    have h8 : putB p3.size ++ bytesOf p3 = putB q3.size ++ bytesOf q3 := h4
    have h9 := (putB_one _ _ _ _ h8).2
    have h6 : p3 = q3 := by rw [← str_bytesOf p3, h9, str_bytesOf]
    rw [hN, h7, h6, a5 rfl, b5 rfl]
theorem link_Decode.of_right (q : S30) (hq : rightB q = true) (hl : (encB q).length < 70368744177664) : link_Decode.f (encB q) = some (q.f0, q.f1, q.f2, q.f3, q.f4, 0) := by
  unfold link_Decode.f
  rw [if_pos ⟨encB_byte q, hl⟩]
  have h : ∃ q', rightB q' = true ∧ encB q' = encB q := ⟨q, hq, rfl⟩
  rw [dif_pos h]
  have := enc_inj (Classical.choose_spec h).1 hq (Classical.choose_spec h).2
  rw [this]
theorem link_Decode.of_any (l : List Int) (hb : ∀ x ∈ l, 0 ≤ x ∧ x < 256) (hl : l.length < 70368744177664) : (∃ q, rightB q = true ∧ encB q = l ∧ link_Decode.f l = some (q.f0, q.f1, q.f2, q.f3, q.f4, 0)) ∨ link_Decode.f l = some (false, 0, false, ⟨#[]⟩, 0, 4) := by
  by_cases h : ∃ q, rightB q = true ∧ encB q = l
  · obtain ⟨q, h1, h2⟩ := h
    exact .inl ⟨q, h1, h2, by rw [← h2]; exact link_Decode.of_right q h1 (by rw [h2]; exact hl)⟩
  · refine .inr ?_
    unfold link_Decode.f
    rw [if_pos ⟨hb, hl⟩, dif_neg h]
theorem link_Decode.calls (A0 : Option Addr) (c0 : Nat) (l0 : List Int) (r1 : Bool) (r2 : Int) (r3 : Bool) (r4 : ByteArray) (r5 r6 : Int) (w : World) (hr0 : Kd.C (Kd.int .u8) w A0 l0.length l0) (hc0 : l0.length ≤ c0) (h : link_Decode.f l0 = some (r1, r2, r3, r4, r5, r6)) :
    Calls Try.prog 13 #[.slice A0 l0.length c0] w fun e w' => e = .returned (.tuple #[.agg #[.bool r1, .int .i64 r2, .bool r3, .string r4, .int .i64 r5], .int .i64 r6]) ∧ Below w.heap.size w w' := by
  have hh : (∀ x ∈ l0, 0 ≤ x ∧ x < 256) ∧ l0.length < 70368744177664 := by
    unfold link_Decode.f at h
    by_cases hc : (∀ x ∈ l0, 0 ≤ x ∧ x < 256) ∧ l0.length < 70368744177664
    · exact hc
    · rw [if_neg hc] at h
      cases h
  refine (decode_walk A0 c0 l0 w hr0 hc0 hh.1 hh.2).mono ?_
  rintro e w' ⟨q, er, rfl, hd, hb⟩
  rcases hd with ⟨rfl, h1, h2⟩ | ⟨rfl, rfl, h1⟩
  · rw [← h2, link_Decode.of_right q h1 (by rw [h2]; exact hh.2)] at h
    cases h
    exact ⟨rfl, hb⟩
  · unfold link_Decode.f at h
    rw [if_pos hh, dif_neg (fun ⟨q, h2, h3⟩ => h1 q h2 h3)] at h
    cases h
    exact ⟨rfl, hb⟩
def strongroomref26_Encode.f (a0_0 : Bool) (a0_1 : Int) (a0_2 : Bool) (a0_3 : ByteArray) (a0_4 : Int) : Option ByteArray := if rightB ⟨a0_0, a0_1, a0_2, a0_3, a0_4⟩ = true then some (strOfNums (encB ⟨a0_0, a0_1, a0_2, a0_3, a0_4⟩)) else none
theorem strongroomref26_Encode.calls (a0_0 : Bool) (a0_1 : Int) (a0_2 : Bool) (a0_3 : ByteArray) (a0_4 : Int) (r : ByteArray) (w : World) (h : strongroomref26_Encode.f a0_0 a0_1 a0_2 a0_3 a0_4 = some r) :
    Calls Try.prog 12 #[.agg #[.bool a0_0, .int .i64 a0_1, .bool a0_2, .string a0_3, .int .i64 a0_4]] w fun e w' => e = .returned (.string r) ∧ Below w.heap.size w w' := by
  unfold strongroomref26_Encode.f at h
  by_cases hr : rightB ⟨a0_0, a0_1, a0_2, a0_3, a0_4⟩ = true
  · rw [if_pos hr] at h
    cases h
    exact ref_encode_walk ⟨a0_0, a0_1, a0_2, a0_3, a0_4⟩ hr w
  · rw [if_neg hr] at h
    cases h

end Go.Proofs.Ytlbiodghappdcaa.L
