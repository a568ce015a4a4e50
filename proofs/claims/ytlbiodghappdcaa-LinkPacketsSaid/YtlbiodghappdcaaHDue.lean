/- The Sender's Due. Condition: at most 64 parts wait. -/
import Derived.Test.YtlbiodghappdcaaHPut
import Derived.Deep.DeepCutAuto
import Derived.Deep.CutBlock
namespace Go.Proofs.Ytlbiodghappdcaa.L
open Go.RowKit Go.Proofs.YtlbiodghappdcaaW.PrintWords Go.Proofs.YtlbiodghappdcaaW.PrintLast Go.Proofs.YtlbiodghappdcaaW.PrintMore Go.Proofs.Ytlbiodghappdcaa.Bs
attribute [local go_sem] max2_int min2_int max_two min_two max_three min_three max_four min_four
set_option linter.unusedVariables false
set_option linter.unusedSimpArgs false

/-- Is a part passed over: it came, or it was sent of late? -/
def skipB (now : Int) (x : S86) : Bool := x.f3 || (x.f1 && decide (wrap64 (now - x.f2) < 4))
def dueX (now : Int) (x : S86) : S86 := if skipB now x then x else ⟨x.f0, true, now, x.f3⟩
def dueXs (now : Int) (i : Nat) (xs : List S86) : List S86 := (xs.take i).map (dueX now) ++ xs.drop i
def dueOut (now : Int) (i : Nat) (xs : List S86) : List S30 := ((xs.take i).filter (fun x => !skipB now x)).map (fun x => x.f0)
theorem dueXs_length (now : Int) (i : Nat) (xs : List S86) : (dueXs now i xs).length = xs.length := by
  unfold dueXs
  rw [List.length_append, List.length_map, List.length_take, List.length_drop]
  omega
theorem dueOut_length (now : Int) (i : Nat) (xs : List S86) : (dueOut now i xs).length ≤ i := by
  unfold dueOut
  rw [List.length_map]
  exact Nat.le_trans (List.length_filter_le _ _) (by rw [List.length_take]; omega)
theorem dueXs_at (now : Int) (i : Nat) (xs : List S86) (h : i < xs.length) : (dueXs now i xs).getD i z86 = xs[i] := by
  unfold dueXs
  rw [List.getD_eq_getElem?_getD, List.getElem?_append_right (by rw [List.length_map, List.length_take]; omega), List.length_map, List.length_take, Nat.min_eq_left (by omega), Nat.sub_self, List.getElem?_drop, Nat.add_zero, List.getElem?_eq_getElem h]
  rfl
theorem dueXs_succ (now : Int) (i : Nat) (xs : List S86) (h : i < xs.length) : dueXs now (i + 1) xs = (dueXs now i xs).set i (dueX now xs[i]) := by
  unfold dueXs
  rw [List.take_succ_eq_append_getElem h, List.map_append, List.set_append_right _ _ (by rw [List.length_map, List.length_take]; omega), List.length_map, List.length_take, Nat.min_eq_left (by omega), Nat.sub_self, List.drop_eq_getElem_cons h, List.set_cons_zero]
  simp
theorem dueOut_succ (now : Int) (i : Nat) (xs : List S86) (h : i < xs.length) : dueOut now (i + 1) xs = if skipB now xs[i] then dueOut now i xs else dueOut now i xs ++ [xs[i].f0] := by
  unfold dueOut
  rw [List.take_succ_eq_append_getElem h, List.filter_append, List.map_append]
  by_cases hs : skipB now xs[i] = true
  · rw [if_pos hs]
    simp [List.filter_cons, hs]
  · rw [if_neg hs]
    simp [List.filter_cons, hs]

theorem due_skip (now : Int) (i : Nat) (xs : List S86) (h : i < xs.length) (hs : skipB now xs[i] = true) : dueXs now (i + 1) xs = dueXs now i xs ∧ dueOut now (i + 1) xs = dueOut now i xs := by
  refine ⟨?_, by rw [dueOut_succ now i xs h, if_pos hs]⟩
  rw [dueXs_succ now i xs h]
  have e : dueX now xs[i] = (dueXs now i xs)[i]'(by rw [dueXs_length]; exact h) := by
    have := dueXs_at now i xs h
    rw [List.getD_eq_getElem?_getD, List.getElem?_eq_getElem (by rw [dueXs_length]; exact h)] at this
    rw [show dueX now xs[i] = xs[i] from by unfold dueX; rw [if_pos hs], ← this]
    rfl
  rw [e, List.set_getElem_self]
theorem due_store {W : World} {P : Nat → Prop} {gq oq N kq i : Nat} {ys : List S86} {tm : Int} (HQ : Kd.Q k86 86 W 0 P (.slice (some ⟨gq, oq, none⟩) N kq) ys) (hi : i < N) :
    Kd.Q k86 86 ((W.setCell ⟨gq, oq + i * 8 + 5, none⟩ (.bool true)).setCell ⟨gq, oq + i * 8 + 6, none⟩ (.int .i64 tm)) 0 P (.slice (some ⟨gq, oq, none⟩) N kq) (ys.set i ⟨(ys.getD i z86).f0, true, tm, (ys.getD i z86).f3⟩) ∧
      W.grownBy ((W.setCell ⟨gq, oq + i * 8 + 5, none⟩ (.bool true)).setCell ⟨gq, oq + i * 8 + 6, none⟩ (.int .i64 tm)) (some gq) := by
  obtain ⟨c, hcl, hM, hcc, _⟩ := Kd.Q_elem HQ z86 i (by omega) (by omega)
  rw [Int.toNat_natCast] at hM
  obtain rfl := k86_openM hM
  have h := Kd.Q_seg HQ i (by omega) (by omega) (seg := [.bool true, .int .i64 tm]) (j := 5) (okp := fun _ => False) (x' := ⟨(ys.getD i z86).f0, true, tm, (ys.getD i z86).f3⟩) hcl hcc (by show 5 + 2 ≤ 8; decide) (k86_mkM _ _ _ _) (fun _ h => h.elim)
  exact h

theorem due_round {w wr W2 w1 : World} {g gq nq : Nat} {P : Nat → Prop} {f tm : Int} {vq vo : Value} {ys : List S86} {l : List S30}
    (HF : Fr w wr (fun k => k = g ∨ P k)) (hG2 : (wr.drewN nq).grownBy W2 (some gq)) (hPq : P gq) (HQ2 : Kd.Q k86 86 W2 0 P vq ys) (HB2 : W2.heap[g]? = some (.cells #[vq, .int .i64 f, .int .i64 tm] 77 (0, 0)))
    (HR : Kd.R k30 30 W2 w.heap.size (fun _ => True) vo l) (hG1 : W2.grownBy w1 vo.ownBlock) : Fr w w1 (fun k => k = g ∨ P k) ∧ Snd w1 g P ys f tm := by
  refine ⟨(((HF.drewN nq).grown hG2 (fun k hk => ?_)).grown hG1 (fun k hk => .inr (Kd.R_base HR k hk))), ⟨vq, blk_grown HB2 hG1 (Kd.R_ne HR HB2 (by decide)), ?_⟩⟩
  · injection hk with hk
    subst hk
    exact .inl (.inr hPq)
  · exact Kd.Q_over' (e' := 30) HQ2 (fun k hk => Kd.R_typed HR k hk) (by decide) hG1

set_option maxHeartbeats 400000 in
set_option maxRecDepth 100000 in
theorem snd_due {w : World} {g : Nat} {P : Nat → Prop} {xs : List S86} {f n t : Int} (h : Snd w g P xs f n) (hg : ¬ P g) (hx : xs.length ≤ 64) :
    Calls Try.prog 24 #[.pointer (some ⟨g, 0, none⟩), .int .i64 t] w fun e w' => ∃ v : Value, e = .returned v ∧ Snd w' g P (dueXs (mx n t) (min 8 xs.length) xs) f (mx n t) ∧ Kd.R k30 30 w' w.heap.size (fun _ => True) v (dueOut (mx n t) (min 8 xs.length) xs) ∧ Fr w w' (fun k => k = g ∨ P k) := by
  obtain ⟨v, hb, hq⟩ := h
  obtain ⟨A, c, rfl, hc, hC⟩ := Kd.Q_reads hq
  have h0 : w.cell? ⟨g, 0, none⟩ = some (.slice A xs.length c) := (blk_cell hb 0).trans rfl
  have h2 : w.cell? ⟨g, 2, none⟩ = some (.int .i64 n) := (blk_cell hb 2).trans rfl
  have f2 : w.frozen? ⟨g, 2, none⟩ = false := blk_frozen hb 2
  have hu77 := Try.underlying77
  have hu86 := Try.underlying86
  have hu30 := Try.underlying30
  have HC := Aside0.mk hC
  have HQ := Aside0.mk hq
  have HB := Aside0.mk hb
  clear hC hq hb
  obtain ⟨tm, htm⟩ : ∃ tm, mx n t = tm := ⟨_, rfl⟩
  have hmx : (if n < t then t else n) = tm := htm
  obtain ⟨m8, hm8⟩ : ∃ m : Nat, min 8 xs.length = m := ⟨_, rfl⟩
  have hmn : (if (xs.length : Int) < 8 then (xs.length : Int) else 8) = (m8 : Int) := by split <;> omega
  rw [htm, hm8]
  have HM8 := Aside0.mk hm8
  have hm8a : m8 ≤ xs.length := by omega
  have hm8b : m8 ≤ 8 := by omega
  clear htm hm8
  go_enter Try.func24, Try.ntmps24
  go_wp2
  have HF := Aside0.mk ((Fr.refl w (fun k => k = g ∨ P k)).setCell (p := ⟨g, 2, none⟩) (.inl (.inl rfl)) (.int .i64 tm))
  have HS : Aside0 (Snd (w.setCell ⟨g, 2, none⟩ (.int .i64 tm)) g P (dueXs tm 0 xs) f tm) := by
    refine ⟨⟨_, by simpa using blk_set HB.out 2 (.int .i64 tm), ?_⟩⟩
    rw [show dueXs tm 0 xs = xs from by simp [dueXs]]
    exact Kd.Q_set HQ.out HB.out (by decide) 2 _
  clear hmx hmn h0 h2 f2 HC HQ HB
  go_loopg [5, 26] m8 (fun kq vo v w' => ∃ (i : Nat) (v1 : Value), v1 = vo ∧ v = .int .i64 i ∧ Aside0 (i + kq = m8) ∧ Aside0 (Fr w w' (fun k => k = g ∨ P k)) ∧ Aside0 (Snd w' g P (dueXs tm i xs) f tm) ∧ Aside0 (Kd.R k30 30 w' w.heap.size (fun _ => True) v1 (dueOut tm i xs)))
  case atStart => exact ⟨0, _, rfl, rfl, ⟨by omega⟩, HF, HS, ⟨Kd.R_nil _ _ _ _ _⟩⟩
  case round =>
    clear HF HS
    obtain ⟨i, vo, rfl, rfl, HI, HF, HS, HR⟩ := hrel
    by_cases hi : i < m8
    · have hix : i < xs.length := by omega
      obtain ⟨v, hb, hq⟩ := HS.out
      have hlen := dueXs_length tm i xs
      obtain ⟨gq, oq, kq, rfl, _, hgq, cells, hcells⟩ := Kd.Q_form hq (by omega)
      rw [hlen] at hb hq
      obtain ⟨cs, hcs, hM, hcell, hfrz⟩ := Kd.Q_elem hq z86 i (by omega) (by omega)
      rw [Int.toNat_natCast, dueXs_at tm i xs hix] at hM
      obtain rfl := k86_openM hM
      obtain ⟨x, hxe⟩ : ∃ x, xs[i] = x := ⟨_, rfl⟩
      rw [hxe] at hcell
      have h0 : wr.cell? ⟨g, 0, none⟩ = some (.slice (some ⟨gq, oq, none⟩) xs.length kq) := (blk_cell hb 0).trans rfl
      have h2 : wr.cell? ⟨g, 2, none⟩ = some (.int .i64 tm) := (blk_cell hb 2).trans rfl
      have cc : ∀ j u, [Value.bool x.f0.f0, .int .i64 x.f0.f1, .bool x.f0.f2, .string x.f0.f3, .int .i64 x.f0.f4, .bool x.f1, .int .i64 x.f2, .bool x.f3][j]? = some u → wr.cell? ⟨gq, oq + i * 8 + j, none⟩ = some u := fun j u hj => by
        have := hcell j u hj
        rwa [Int.toNat_natCast, show k86.sz = 8 from rfl] at this
      have c5 : wr.cell? ⟨gq, oq + i * 8 + 5, none⟩ = some (.bool x.f1) := cc 5 _ rfl
      have c6 : wr.cell? ⟨gq, oq + i * 8 + 6, none⟩ = some (.int .i64 x.f2) := cc 6 _ rfl
      have c7 : wr.cell? ⟨gq, oq + i * 8 + 7, none⟩ = some (.bool x.f3) := cc 7 _ rfl
      have HB := Aside0.mk hb
      have HQ := Aside0.mk hq
      have HCC := Aside0.mk cc
      have HXE := Aside0.mk hxe
      have HCELLS := Aside0.mk hcells
      have HLEN := Aside0.mk hlen
      have HSK : Aside0 (skipB tm x = (x.f3 || (x.f1 && decide (wrap64 (tm - x.f2) < 4)))) := ⟨rfl⟩
      clear hb hq cc hxe hcells hlen hcell hM hcs hfrz
      obtain ⟨b3, hb3⟩ : ∃ b, x.f3 = b := ⟨_, rfl⟩
      obtain ⟨b1, hb1⟩ : ∃ b, x.f1 = b := ⟨_, rfl⟩
      obtain ⟨b4, hb4⟩ : ∃ b, decide (wrap64 (tm - x.f2) < 4) = b := ⟨_, rfl⟩
      have HS3 : Aside0 (skipB tm x = (b3 || (b1 && b4))) := ⟨by rw [HSK.out, hb3, hb1, hb4]⟩
      rw [hb3] at c7
      rw [hb1] at c5
      have H3 := Aside0.mk hb3
      have H1 := Aside0.mk hb1
      clear hb3 hb1 HSK
      cases b3 with
      | true =>
        go_wp2
        go_quiet (fail)
        go_wp2
        go_roundg (gk - 1)
        case measure => have := HI.out; omega
        case rel =>
          have hs : skipB tm xs[i] = true := by rw [HXE.out, HS3.out]; rfl
          obtain ⟨e1, e2⟩ := due_skip tm i xs hix hs
          exact ⟨i + 1, vo, rfl, by go_num, ⟨by have := HI.out; omega⟩, ⟨HF.out.drewN _⟩, ⟨by rw [e1]; exact HS.out⟩, ⟨by rw [e2]; exact HR.out⟩⟩
      | false =>
        have hg13 : (b1 && b4) = true ∨ (b1 && b4) = false := by cases (b1 && b4) <;> simp
        rcases hg13 with hg13 | hg13
        · obtain ⟨rfl, rfl⟩ : b1 = true ∧ b4 = true := by simpa using hg13
          clear hg13
          go_wp2
          go_quiet (fail)
          go_wp2
          go_roundg (gk - 1)
          case measure => have := HI.out; omega
          case rel =>
            have hs : skipB tm xs[i] = true := by rw [HXE.out, HS3.out]; rfl
            obtain ⟨e1, e2⟩ := due_skip tm i xs hix hs
            exact ⟨i + 1, vo, rfl, by go_num, ⟨by have := HI.out; omega⟩, ⟨HF.out.drewN _⟩, ⟨by rw [e1]; exact HS.out⟩, ⟨by rw [e2]; exact HR.out⟩⟩
        · have HN : Aside0 (skipB tm x = false) := ⟨by rw [HS3.out, Bool.false_or, hg13]⟩
          have z5 : wr.frozen? ⟨gq, oq + i * 8 + 5, none⟩ = false := blk_frozen HCELLS.out _
          have z6 : wr.frozen? ⟨gq, oq + i * 8 + 6, none⟩ = false := blk_frozen HCELLS.out _
          have hcase : b1 = false ∨ (b1 = true ∧ b4 = false) := by
            cases b1
            · exact .inl rfl
            · exact .inr ⟨rfl, by simpa using hg13⟩
          clear hg13
          rcases hcase with rfl | ⟨rfl, rfl⟩
          all_goals
            go_wp2
            go_quiet (fail)
            go_upto_region 11 with (fail)
            have hst := due_store (tm := tm) (Kd.Q_drewN HQ.out nq) hix
            have hbt : (((wr.drewN nq).setCell ⟨gq, oq + i * 8 + 5, none⟩ (.bool true)).setCell ⟨gq, oq + i * 8 + 6, none⟩ (.int .i64 tm)).heap[g]? = some (.cells #[.slice (some ⟨gq, oq, none⟩) xs.length kq, .int .i64 f, .int .i64 tm] 77 (0, 0)) := blk_grown (blk_drewN HB.out nq) hst.2 (Kd.Q_ne HQ.out HB.out (by decide))
            have hrt : Kd.R k30 30 (((wr.drewN nq).setCell ⟨gq, oq + i * 8 + 5, none⟩ (.bool true)).setCell ⟨gq, oq + i * 8 + 6, none⟩ (.int .i64 tm)) w.heap.size (fun _ => True) vo (dueOut tm i xs) := Kd.R_over' (e' := 86) (v := .slice (some ⟨gq, oq, none⟩) xs.length kq) (Kd.R_drewN HR.out nq) (Kd.Q_typed (Kd.Q_drewN HQ.out nq)) (by decide) hst.2
            generalize ((wr.drewN nq).setCell ⟨gq, oq + i * 8 + 5, none⟩ (.bool true)).setCell ⟨gq, oq + i * 8 + 6, none⟩ (.int .i64 tm) = W2 at hst hbt hrt ⊢
            obtain ⟨hq2, hg2⟩ := hst
            have hel := dueXs_at tm i xs hix
            rw [HXE.out] at hel
            rw [hel] at hq2
            have hi2 : (dueXs tm i xs).set i ⟨x.f0, true, tm, x.f3⟩ = dueXs tm (i + 1) xs := by
              rw [dueXs_succ tm i xs hix, HXE.out, dueX, HN.out]
              rfl
            rw [hi2] at hq2
            have hl2 := dueOut_succ tm i xs hix
            rw [HXE.out, HN.out, if_neg (by simp)] at hl2
            obtain ⟨cs, hcs, hM, hcell, hfrz⟩ := Kd.Q_elem hq2 z86 i (by omega) (by omega)
            rw [Int.toNat_natCast, ← hi2] at hM
            rw [List.getD_eq_getElem?_getD, List.getElem?_set_self (by rw [dueXs_length]; exact hix)] at hM
            obtain rfl := k86_openM hM
            have e0 : W2.cell? ⟨gq, oq + i * 8, none⟩ = some (.bool x.f0.f0) := hcell 0 _ rfl
            have e1 : W2.cell? ⟨gq, oq + i * 8 + 1, none⟩ = some (.int .i64 x.f0.f1) := hcell 1 _ rfl
            have e2 : W2.cell? ⟨gq, oq + i * 8 + 2, none⟩ = some (.bool x.f0.f2) := hcell 2 _ rfl
            have e3 : W2.cell? ⟨gq, oq + i * 8 + 3, none⟩ = some (.string x.f0.f3) := hcell 3 _ rfl
            have e4 : W2.cell? ⟨gq, oq + i * 8 + 4, none⟩ = some (.int .i64 x.f0.f4) := hcell 4 _ rfl
            have HRT := Aside0.mk hrt
            have HBT := Aside0.mk hbt
            have HQ2 := Aside0.mk hq2
            have HG2 := Aside0.mk hg2
            have HL2 := Aside0.mk hl2
            have HLIM : Aside0 (((dueOut tm i xs).length + 1) * 48 ≤ 140737488355328) := ⟨by have := dueOut_length tm i xs; omega⟩
            have HBS : Aside0 (w.heap.size ≤ W2.heap.size) := ⟨Nat.le_trans HF.out.size hg2.size⟩
            clear hrt hbt hq2 hg2 hl2 hi2 hel hcell hM hcs hfrz c5 c6 c7 h0 h2 z5 z6
            go_wp2_with (at_builtin; refine Kd.R_append k30 (w0 := W2) w.heap.size rfl (.tmp 67) (.tmp 72) 53 30 _ 48 rfl Try.underlying53 info30 rfl (by decide) (by decide) vo (dueOut tm i xs) x.f0 _ (fun _ => True) (fun _ => False) rfl rfl (k30_mkM _ _ _ _) (fun _ h => h.elim) (fun _ _ => trivial) HRT.out (Below.refl _ _) HBS.out HLIM.out ?_; intro v1 w1 hr1 hb1 hg1 hat1; clear hat1 hb1; have HR1 := Aside0.mk hr1; have HG1 := Aside0.mk hg1; clear hr1 hg1)
            go_roundg (gk - 1)
            case measure => have := HI.out; omega
            case rel =>
              have hh := due_round HF.out HG2.out (HQ.out.1 gq rfl) HQ2.out HBT.out HRT.out HG1.out
              exact ⟨i + 1, v1, rfl, by go_num, ⟨by have := HI.out; omega⟩, ⟨hh.1⟩, ⟨hh.2⟩, ⟨by rw [HL2.out]; exact HR1.out⟩⟩
    · have HIE : Aside0 (i = m8) := ⟨by have := HI.out; omega⟩
      go_wp2
      go_ret
      exact ⟨vo, rfl, by have := HS.out; rw [HIE.out] at this; exact this, by have := HR.out; rw [HIE.out] at this; exact this, HF.out⟩

end Go.Proofs.Ytlbiodghappdcaa.L
