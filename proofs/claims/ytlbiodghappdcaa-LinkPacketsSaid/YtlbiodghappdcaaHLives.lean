/- lives(), the fixed example of layer 26: a Sender that is given 201 bytes has two parts due; it answers true. No condition. -/
import Derived.Test.YtlbiodghappdcaaHDue
namespace Go.Proofs.Ytlbiodghappdcaa.L
open Go.RowKit Go.Proofs.YtlbiodghappdcaaW.PrintWords Go.Proofs.YtlbiodghappdcaaW.PrintLast Go.Proofs.YtlbiodghappdcaaW.PrintMore Go.Proofs.Ytlbiodghappdcaa.Bs
attribute [local go_sem] max2_int min2_int max_two min_two max_three min_three max_four min_four
set_option linter.unusedVariables false
set_option linter.unusedSimpArgs false

set_option maxHeartbeats 400000 in
theorem snd_new (w : World) : Calls Try.prog 17 #[] w fun e w' => e = .returned (.pointer (some ⟨w.heap.size, 0, none⟩)) ∧ w' = w.alloc (.cells #[.slice none 0 0, .int .i64 0, .int .i64 0] 77) := by
  have hu77 := Try.underlying77
  go_enter Try.func17, Try.ntmps17
  go_wp2
  go_ret
  exact ⟨rfl, rfl⟩
theorem snd_new_is (w : World) : Snd (w.alloc (.cells #[.slice none 0 0, .int .i64 0, .int .i64 0] 77)) w.heap.size (fun _ => False) [] 0 0 := ⟨_, blk_new _ _, Kd.Q_nil _ _ _ _ _⟩

theorem cut_201 (m : ByteArray) (h : m.size = 201) : cutS 20 m = [⟨false, 0, false, m.extract 0 200, 0⟩, ⟨false, 0, true, m.extract 200 m.size, 0⟩] := by
  rw [show (20 : Nat) = 18 + 1 + 1 from rfl, cutS, if_pos (by omega), cutS, if_neg (by rw [ByteArray.size_extract]; omega)]

set_option maxHeartbeats 400000 in
set_option maxRecDepth 100000 in
theorem lives_walk (w : World) : Calls Try.prog 7 #[] w fun e w' => e = .returned (.bool true) ∧ Below w.heap.size w w' := by
  obtain ⟨mc, hmc⟩ : ∃ mc, madeCells #[Value.int .u8 0] 201 = mc := ⟨_, rfl⟩
  obtain ⟨msg, hmsg⟩ : ∃ m, strOfNums (List.replicate 201 0) = m := ⟨_, rfl⟩
  have hmk : ∀ W : World, (Instr.makeSlice 24 (.int .i64 201) (.int .i64 201)).run Try.prog W = .ok (.slice (some ⟨W.heap.size, 0, none⟩) 201 201) (W.alloc (.cells mc 5)) := by
    rw [← hmc]
    exact print_make (P := Try.prog) 24 5 .u8 1 Try.underlying24 info5 (by decide) 201 (by decide)
  have hcv : ∀ W : World, (convert 24 9 (.slice (some ⟨W.heap.size, 0, none⟩) 201 201)).run Try.prog (W.alloc (.cells mc 5)) = .ok (.string msg) (W.alloc (.cells mc 5)) := by
    intro W
    rw [← hmc, ← hmsg]
    exact own_string (P := Try.prog) Try.underlying24 Try.underlying5 Try.underlying9 (own_made W 0 5 .u8 201 (Nat.zero_le _) (by decide))
  have hsz : msg.size = 201 := by rw [← hmsg, strOfNums_size]; simp
  clear hmc hmsg
  replace hcv := hcv (w.alloc (.cells #[.slice none 0 0, .int .i64 0, .int .i64 0] 77))
  rw [World.size_alloc] at hcv
  have hu30 := Try.underlying30
  have HSZ := Aside0.mk hsz
  clear hsz
  go_enter Try.func7, Try.ntmps7
  go_wp2_with fail
  refine (snd_new _).mono ?_
  rintro e w1 ⟨rfl, rfl⟩
  go_wp2_with fail
  have hnew := (snd_new_is w).fr (((Fr.refl _ (fun _ => False)).alloc (.cells mc 5))) (by simp) (by simp)
  have hcut := cut_201 msg HSZ.out
  refine (snd_put_loop msg hnew (by simp) (by have := HSZ.out; omega) (by rw [hcut]; simp) (by omega) (by rw [hcut]; simp)).mono ?_
  rintro e w2 ⟨rfl, hs2, hf2⟩
  rw [hcut] at hs2
  have hb2 : Below w.heap.size w w2 := Below.trans ((below_alloc (below_alloc (Below.refl _ _) _) _)) (hf2.to_below (by rw [World.size_alloc, World.size_alloc]; omega) (fun k hk => hk.elim (fun h => Nat.le_of_eq h.symm) False.elim))
  have hg2 : ¬ (False ∨ ((w.alloc (.cells #[.slice none 0 0, .int .i64 0, .int .i64 0] 77)).alloc (.cells mc 5)).heap.size ≤ w.heap.size) := by
    rw [World.size_alloc, World.size_alloc]
    rintro (h | h)
    · exact h
    · omega
  simp only [List.nil_append, List.length_nil] at hs2
  have HS2 := Aside0.mk hs2
  have HB2 := Aside0.mk hb2
  have HG2 := Aside0.mk hg2
  clear hs2 hb2 hf2 hg2 hcut hnew hcv hmk
  go_wp2_with fail
  refine (snd_due HS2.out HG2.out (by simp [numbered])).mono ?_
  rintro e w3 ⟨v, rfl, hs3, hr3, hf3⟩
  have hout : dueOut (mx 0 0) (min 8 (numbered (0 + ((0 : Nat) : Int)) [⟨false, 0, false, msg.extract 0 200, 0⟩, ⟨false, 0, true, msg.extract 200 msg.size, 0⟩]).length) (numbered (0 + ((0 : Nat) : Int)) [⟨false, 0, false, msg.extract 0 200, 0⟩, ⟨false, 0, true, msg.extract 200 msg.size, 0⟩]) = [⟨false, 0, false, msg.extract 0 200, 0⟩, ⟨false, 1, true, msg.extract 200 msg.size, 0⟩] := by
    simp [dueOut, numbered, skipB]
  rw [hout] at hr3
  clear hout
  have hb3 : Below w.heap.size w w3 := HB2.out.trans (hf3.to_below HB2.out.size (fun k hk => hk.elim (fun h => Nat.le_of_eq h.symm) (fun h => h.elim False.elim (fun h => by rw [World.size_alloc, World.size_alloc] at h; omega))))
  obtain ⟨gv, c, rfl, _, _⟩ := Kd.R_form hr3 (by simp)
  have hC := (Kd.R_reads' hr3).2.2
  obtain ⟨ad, e', c0, c1, c2, c3, c4⟩ := at_T30 hC 0 (by omega) (by simp)
  cases e'
  obtain ⟨ad', e', d0, d1, d2, d3, d4⟩ := at_T30 hC 1 (by omega) (by simp)
  cases e'
  have x3 : w3.cell? ⟨gv, 3, none⟩ = some (.string (msg.extract 0 200)) := by simpa [rd_T30, add_plain] using c3
  have x2 : w3.cell? ⟨gv, 2, none⟩ = some (.bool false) := by simpa [rd_T30, add_plain] using c2
  have y3 : w3.cell? ⟨gv, 5 + 3, none⟩ = some (.string (msg.extract 200 msg.size)) := by simpa [rd_T30, add_plain] using d3
  have y2 : w3.cell? ⟨gv, 5 + 2, none⟩ = some (.bool true) := by simpa [rd_T30, add_plain] using d2
  obtain ⟨s0, e0⟩ : ∃ s, msg.extract 0 200 = s := ⟨_, rfl⟩
  obtain ⟨s1, e1⟩ : ∃ s, msg.extract 200 msg.size = s := ⟨_, rfl⟩
  have q0 : s0.size = 200 := by rw [← e0, ByteArray.size_extract, HSZ.out]; rfl
  have q1 : s1.size = 1 := by rw [← e1, ByteArray.size_extract, HSZ.out]; rfl
  rw [e0] at x3
  rw [e1] at y3
  have hl3 : ∀ a b : S30, (dueXs (mx 0 0) (min 8 (numbered (0 + ((0 : Nat) : Int)) [a, b]).length) (numbered (0 + ((0 : Nat) : Int)) [a, b])).length = 2 := fun a b => by rw [dueXs_length, numbered_length]; rfl
  have HL3 := Aside0.mk hl3
  clear e0 e1 hl3
  have HS3 := Aside0.mk hs3
  have HB3 := Aside0.mk hb3
  clear hs3 hb3 hf3 hC hr3 c0 c1 c2 c3 c4 d0 d1 d2 d3 d4 HS2 HG2
  go_wp2_with fail
  refine (snd_wait HS3.out).mono ?_
  rintro e w4 ⟨rfl, rfl⟩
  rw [HL3.out]
  go_wp2_with fail
  go_ret
  exact ⟨rfl, HB3.out⟩

def strongroomlaw26_lives.f : Option Bool := some true
theorem strongroomlaw26_lives.calls (r : Bool) (w : World) (h : strongroomlaw26_lives.f = some r) : Calls Try.prog 7 #[] w fun e w' => e = .returned (.bool r) ∧ Below w.heap.size w w' := by
  obtain rfl := Option.some.inj h
  exact lives_walk w

end Go.Proofs.Ytlbiodghappdcaa.L
