/- What the claim's last text reaches, in build order (part 3 of 7). No condition beyond those of the texts themselves. -/
import Derived.Test.YtcdnmlfnfhoieaaMAuditFollows0
import Derived.Test.YtcdnmlfnfhoieaaMAuditFollows1
import Derived.Laws.Externs
import Derived.Laws.Rows
import Derived.Deep.QuietTactic
import Derived.BigQuiet
import Derived.Deep.RegionHeld3
import Derived.Deep.RegionLaw
import Derived.Lib.LazyBuf

namespace Go.Proofs.Ytcdnmlfnfhoieaa.A
open Go.RowKit Go.Proofs.YtcdnmlfnfhoieaaW.PrintWords Go.Proofs.YtcdnmlfnfhoieaaW.PrintLast Go.Proofs.YtcdnmlfnfhoieaaW.PrintMore
attribute [local go_sem] max2_int min2_int max_two min_two max_three min_three max_four min_four
set_option linter.unusedVariables false
set_option linter.unusedSimpArgs false
/-! ### audit_bytes: function 77 -/
def audit_bytes.f (k : Nat) (a0_0 : Int) (a0_1 : Int) (a0_2 : Int) (a0_3 : ByteArray) (a0_4 : Int) : Option (ByteArray) := (num_Put.f k ([] : List Int) (IntKind.u64.wrap (a0_0))).bind fun t269 => ((num_Put.f k t269 (IntKind.u64.wrap (a0_1))).bind fun t272 => ((num_Put.f k t272 (IntKind.u64.wrap (a0_2))).bind fun t275 => ((num_PutText.f k t275 a0_3).bind fun t278 => ((num_Put.f k t278 (IntKind.u64.wrap (a0_4))).bind fun t281 => (some (strOfNums t281))))))
theorem audit_bytes.mono : ∀ a0 a1 a2 a3 a4 k, LeO (audit_bytes.f k a0 a1 a2 a3 a4) (audit_bytes.f (k + 1) a0 a1 a2 a3 a4) := by
 intro a0 a1 a2 a3 a4 k
 unfold audit_bytes.f
 repeat' first
   | (with_reducible exact num_Put.mono _ _ _)
   | (with_reducible exact num_PutText.mono _ _ _)
   | (with_reducible exact LeO.refl _)
   | (with_reducible exact LeO.none _)
   | (with_reducible refine LeO.ite ?_ ?_)
   | (with_reducible refine LeO.bind ?_ (fun _ => ?_))
   | exact num_Put.mono _ _ _
   | exact num_PutText.mono _ _ _
   | exact LeO.none _
   | refine LeO.ite ?_ ?_
   | refine LeO.bind ?_ (fun _ => ?_)
def audit_bytes.T1 : Bool × List (List Nat × List Nat) := (true, [([], []), ([0], [0]), ([1], [1]), ([2], [2]), ([], []), ([4], [4]), ([5], [5]), ([3, 6, 3], [3, 6]), ([], []), ([8], [8]), ([9], [9]), ([7, 10, 7], [7, 10]), ([11, 11, 0, 1, 2, 3, 4, 5, 6, 7, 8, 9, 10, 11], [11])])
def audit_bytes.B1 : List Nat := [0, 1, 3, 7, 0, 16, 48, 127, 0, 256, 768, 2047, 4095]
theorem audit_bytes.tab1 : rtab .any (opsOf Try.f77 1) = audit_bytes.T1 := by kernel_rfl
theorem audit_bytes.bits1 : waitsOk audit_bytes.T1.2 audit_bytes.B1 = true := by kernel_rfl
def audit_bytes.T2 : Bool × List (List Nat × List Nat) := (true, [([], []), ([], []), ([1], [1]), ([0, 2], [0, 2]), ([], []), ([4], [4]), ([5], [5]), ([3, 6, 3], [3, 6]), ([7], [7]), ([8, 7, 0, 1, 2, 3, 4, 5, 6, 7, 8], [8])])
def audit_bytes.B2 : List Nat := [0, 0, 2, 7, 0, 16, 48, 127, 255, 511]
theorem audit_bytes.tab2 : rtab .any (opsOf Try.f77 2) = audit_bytes.T2 := by kernel_rfl
theorem audit_bytes.bits2 : waitsOk audit_bytes.T2.2 audit_bytes.B2 = true := by kernel_rfl
set_option maxHeartbeats 8000000 in
set_option maxRecDepth 100000 in
theorem audit_bytes.calls (k : Nat) (a0_0 : Int) (a0_1 : Int) (a0_2 : Int) (a0_3 : ByteArray) (a0_4 : Int) (r : ByteArray) (w : World) (h : audit_bytes.f k a0_0 a0_1 a0_2 a0_3 a0_4 = some r) :
  Calls Try.prog 77 #[.agg #[.int .i64 a0_0, .int .i64 a0_1, .int .i64 a0_2, .string a0_3, .int .i64 a0_4]] w fun e w' => e = .returned (.string r) ∧ Below w.heap.size w w' := by
 have hu64 := Try.underlying64
 have HB := Aside0.mk (Below.refl w.heap.size w)
 have H : ((num_Put.f k ([] : List Int) (IntKind.u64.wrap (a0_0))).bind fun t269 => ((num_Put.f k t269 (IntKind.u64.wrap (a0_1))).bind fun t272 => ((num_Put.f k t272 (IntKind.u64.wrap (a0_2))).bind fun t275 => ((num_PutText.f k t275 a0_3).bind fun t278 => ((num_Put.f k t278 (IntKind.u64.wrap (a0_4))).bind fun t281 => (some (strOfNums t281))))))) = some r := h
 clear h
 replace H := Option.bind_eq_some_iff.mp H
 obtain ⟨t269, A20, H⟩ := H
 replace H : ((num_Put.f k t269 (IntKind.u64.wrap (a0_1))).bind fun t272 => ((num_Put.f k t272 (IntKind.u64.wrap (a0_2))).bind fun t275 => ((num_PutText.f k t275 a0_3).bind fun t278 => ((num_Put.f k t278 (IntKind.u64.wrap (a0_4))).bind fun t281 => (some (strOfNums t281)))))) = some r := H
 have A2 := Aside0.mk A20
 clear A20
 replace H := Option.bind_eq_some_iff.mp H
 obtain ⟨t272, A30, H⟩ := H
 replace H : ((num_Put.f k t272 (IntKind.u64.wrap (a0_2))).bind fun t275 => ((num_PutText.f k t275 a0_3).bind fun t278 => ((num_Put.f k t278 (IntKind.u64.wrap (a0_4))).bind fun t281 => (some (strOfNums t281))))) = some r := H
 have A3 := Aside0.mk A30
 clear A30
 replace H := Option.bind_eq_some_iff.mp H
 obtain ⟨t275, A40, H⟩ := H
 replace H : ((num_PutText.f k t275 a0_3).bind fun t278 => ((num_Put.f k t278 (IntKind.u64.wrap (a0_4))).bind fun t281 => (some (strOfNums t281)))) = some r := H
 have A4 := Aside0.mk A40
 clear A40
 replace H := Option.bind_eq_some_iff.mp H
 obtain ⟨t278, A50, H⟩ := H
 replace H : ((num_Put.f k t278 (IntKind.u64.wrap (a0_4))).bind fun t281 => (some (strOfNums t281))) = some r := H
 have A5 := Aside0.mk A50
 clear A50
 replace H := Option.bind_eq_some_iff.mp H
 obtain ⟨t281, A60, H⟩ := H
 replace H : (some (strOfNums t281)) = some r := H
 have A6 := Aside0.mk A60
 clear A60
 obtain rfl := Option.some.inj H
 go_enter Try.func77, Try.ntmps77
 try go_wp2_with (first | ((with_reducible refine gate_dst (N := 1) rfl ?_); refine box_event ?hg (N := 1) ?hd (cs := #[.int .i64 a0_0, .int .i64 a0_1, .int .i64 a0_2, .string a0_3, .int .i64 a0_4]) (t := 64) ?hr ?_; (case hd => rfl); (case hg => rfl); (case hr => first | (go_simp; done) | (go_simp; rfl)); intro gb268 hg w7 hbox hb; have n0_ := Aside0.mk (below_step (by repeat (first | (with_reducible first | exact HB.out | apply below_alloc | apply pw_below_drewN | apply below_drew1) | exact HB.out)) hb); have n1_ := Aside0.mk (hbox); have n2_ := Aside0.mk ((by rw [hg]; exact (below_size (by repeat (first | (with_reducible first | exact HB.out | apply below_alloc | apply pw_below_drewN | apply below_drew1) | exact HB.out))) : w.heap.size ≤ gb268)); have n3_ := Aside0.mk ((by rw [hg]; exact (below_size (by repeat (first | (with_reducible first | exact HB.out | apply below_alloc | apply pw_below_drewN | apply below_drew1) | exact HB.out))) : w.heap.size ≤ gb268)); clear HB; have HB := n0_; have BK268 := n1_; have GW268 := n2_; have GE268 := n3_; clear n0_ n1_ n2_ n3_; clear hb hbox hg))
 have n0_ := Aside0.mk (blk_drew BK268.out)
 have n1_ := Aside0.mk (below_drew1 HB.out)
 clear BK268
 clear HB
 have BK268 := n0_
 have HB := n1_
 clear n0_ n1_
 refine start_ (n := 13) (S := fun w' => w'.cell? ⟨gb268, 0, none⟩ = some (.int .i64 a0_0) ∧ w'.cell? ⟨gb268, 1, none⟩ = some (.int .i64 a0_1) ∧ w'.cell? ⟨gb268, 2, none⟩ = some (.int .i64 a0_2) ∧ w'.cell? ⟨gb268, 3, none⟩ = some (.string a0_3) ∧ w'.cell? ⟨gb268, 4, none⟩ = some (.int .i64 a0_4)) (ds := []) #[false, false, false, false, false, false, false, false, false, false, false, false, false] (by kernel_rfl) rfl rfl ⟨(blk_cell BK268.out 0).trans rfl, (blk_cell BK268.out 1).trans rfl, (blk_cell BK268.out 2).trans rfl, (blk_cell BK268.out 3).trans rfl, (blk_cell BK268.out 4).trans rfl⟩ (fun hHeld => ?_); refine with_tabW audit_bytes.tab1 audit_bytes.bits1 (fun HT_ HW_ => ?_)
 generalize w7.drew = w8 at BK268 HB hHeld ⊢
 refine pure_ (i := 0) (N := some 4) (v := ?_) (a' := ?_) #[true, false, false, false, false, false, false, false, false, false, false, false, false] rfl rfl (any_of HT_.out (by kernel_rfl)) (fun _ _ _ h => h) (Or.inl ⟨by rfl, ?_⟩) ?_ ?_
 rotate_left
 ·intro w'
  go_simp
  with_reducible rfl
 rotate_left
 ·simp only [Act.put, List.setIfInBounds_toArray, List.set_cons_zero, List.set_cons_succ, i64_w, i32_w]
  rfl
 refine pure_ (i := 4) (N := some 8) (v := ?_) (a' := ?_) #[true, false, false, false, true, false, false, false, false, false, false, false, false] rfl rfl (any_of HT_.out (by kernel_rfl)) (fun _ _ _ h => h) (Or.inl ⟨by rfl, ?_⟩) ?_ ?_
 rotate_left
 ·intro w'
  go_simp
  with_reducible rfl
 rotate_left
 ·simp only [Act.put, List.setIfInBounds_toArray, List.set_cons_zero, List.set_cons_succ, i64_w, i32_w]
  rfl
 refine pure_ (i := 8) (N := some 12) (v := ?_) (a' := ?_) #[true, false, false, false, true, false, false, false, true, false, false, false, false] rfl rfl (any_of HT_.out (by kernel_rfl)) (fun _ _ _ h => h) (Or.inl ⟨by rfl, ?_⟩) ?_ ?_
 rotate_left
 ·intro w'
  go_simp
  with_reducible rfl
 rotate_left
 ·simp only [Act.put, List.setIfInBounds_toArray, List.set_cons_zero, List.set_cons_succ, i64_w, i32_w]
  rfl
 refine take_ (i := 1) (N := some 5) (v := ?_) (a' := ?_) #[true, true, false, false, true, false, false, false, true, false, false, false, false] rfl rfl (take_ofW HT_.out HW_.out (by kernel_rfl)) (fun _ _ _ h => h) (Or.inl ⟨by rfl, ?_⟩) hHeld ?_ ?_
 rotate_left
 ·rintro w' ⟨s0, s1, s2, s3, s4⟩
  go_simp
  with_reducible rfl
 rotate_left
 ·simp only [Act.put, List.setIfInBounds_toArray, List.set_cons_zero, List.set_cons_succ, i64_w, i32_w]
  rfl
 refine pure_ (i := 2) (N := some 6) (v := ?_) (a' := ?_) #[true, true, true, false, true, false, false, false, true, false, false, false, false] rfl rfl (any_of HT_.out (by kernel_rfl)) (fun _ _ _ h => h) (Or.inl ⟨by rfl, ?_⟩) ?_ ?_
 rotate_left
 ·intro w'
  go_simp
  with_reducible rfl
 rotate_left
 ·simp only [Act.put, List.setIfInBounds_toArray, List.set_cons_zero, List.set_cons_succ, i64_w, i32_w]
  rfl
 refine take_ (i := 5) (N := some 9) (v := ?_) (a' := ?_) #[true, true, true, false, true, true, false, false, true, false, false, false, false] rfl rfl (take_ofW HT_.out HW_.out (by kernel_rfl)) (fun _ _ _ h => h) (Or.inl ⟨by rfl, ?_⟩) hHeld ?_ ?_
 rotate_left
 ·rintro w' ⟨s0, s1, s2, s3, s4⟩
  go_simp
  with_reducible rfl
 rotate_left
 ·simp only [Act.put, List.setIfInBounds_toArray, List.set_cons_zero, List.set_cons_succ, i64_w, i32_w]
  rfl
 refine pure_ (i := 6) (N := some 10) (v := ?_) (a' := ?_) #[true, true, true, false, true, true, true, false, true, false, false, false, false] rfl rfl (any_of HT_.out (by kernel_rfl)) (fun _ _ _ h => h) (Or.inl ⟨by rfl, ?_⟩) ?_ ?_
 rotate_left
 ·intro w'
  go_simp
  with_reducible rfl
 rotate_left
 ·simp only [Act.put, List.setIfInBounds_toArray, List.set_cons_zero, List.set_cons_succ, i64_w, i32_w]
  rfl
 refine take_ (i := 9) (N := some 13) (v := ?_) (a' := ?_) #[true, true, true, false, true, true, true, false, true, true, false, false, false] rfl rfl (take_ofW HT_.out HW_.out (by kernel_rfl)) (fun _ _ _ h => h) (Or.inl ⟨by rfl, ?_⟩) hHeld ?_ ?_
 rotate_left
 ·rintro w' ⟨s0, s1, s2, s3, s4⟩
  go_simp
  with_reducible rfl
 rotate_left
 ·simp only [Act.put, List.setIfInBounds_toArray, List.set_cons_zero, List.set_cons_succ, i64_w, i32_w]
  rfl
 refine pure_ (i := 10) (N := some 14) (v := ?_) (a' := ?_) #[true, true, true, false, true, true, true, false, true, true, true, false, false] rfl rfl (any_of HT_.out (by kernel_rfl)) (fun _ _ _ h => h) (Or.inl ⟨by rfl, ?_⟩) ?_ ?_
 rotate_left
 ·intro w'
  go_simp
  with_reducible rfl
 rotate_left
 ·simp only [Act.put, List.setIfInBounds_toArray, List.set_cons_zero, List.set_cons_succ, i64_w, i32_w]
  rfl
 refine one_ (i := 3) (N := some 7) #[true, true, true, true, true, true, true, false, true, true, true, false, false] rfl rfl (one_of HT_.out (by kernel_rfl)) (by decide) (fun K hK => ?_)
 refine goes_ Try.func66 (by kernel_rfl) rfl #[.slice none 0 0, .int .u64 (IntKind.u64.wrap (a0_0))] (by rfl) rfl rfl (by (try simp only [List.map_toArray, List.map_cons, List.map_nil]); first | done | rfl | (simp only [List.length_drop, List.length_take]; rfl)) ?_
 refine (num_Put.calls k _ _ ([] : List Int) (IntKind.u64.wrap (a0_0)) t269 _ ?side1 ?side2 A2.out).mono ?_
 (case side1 => exact Kd.C_nil _ _)
 (case side2 => exact Nat.le_refl _)
 rintro e w9 ⟨v270, rfl, ho0, hb⟩
 refine ⟨_, rfl, ?_⟩
 have n0_ := Aside0.mk (Kd.R_lower ho0 (below_size (by repeat (first | (with_reducible first | exact HB.out | apply below_alloc | apply pw_below_drewN | apply below_drew1 | refine below_set ?_ GE268.out) | exact HB.out))))
 have n1_ := Aside0.mk (blk_below (g := gb268) (o := .cells #[.int .i64 a0_0, .int .i64 a0_1, .int .i64 a0_2, .string a0_3, .int .i64 a0_4] 64 (0, 0)) (by (with_reducible repeat (first | refine blk_drewN ?_ _ | refine blk_drew ?_ | refine blk_alloc ?_ _)); exact BK268.out) hb)
 have n2_ := Aside0.mk (below_step (by repeat (first | (with_reducible first | exact HB.out | apply below_alloc | apply pw_below_drewN | apply below_drew1 | refine below_set ?_ GE268.out) | exact HB.out)) hb)
 clear BK268
 clear HB
 have HO271 := n0_
 have BK268 := n1_
 have HB := n2_
 clear n0_ n1_ n2_
 (try clear hb)
 (try clear hb2)
 (try clear hk)
 (try clear hi)
 (try clear ho0)
 obtain ⟨Ao10, co10, eo10⟩ := Kd.R_slice HO271.out
 (first | subst eo10 | (injection eo10 with f1_ f2_ f3_; have f4_ := f1_.symm; have f5_ := f3_.symm; clear f1_ f2_ f3_; subst f4_; subst f5_))
 refine hK.out _ _ ⟨(blk_cell BK268.out 0).trans rfl, (blk_cell BK268.out 1).trans rfl, (blk_cell BK268.out 2).trans rfl, (blk_cell BK268.out 3).trans rfl, (blk_cell BK268.out 4).trans rfl⟩ (fun hHeld => ?_)
 clear hK K
 refine norm_ (a' := ?_) ?_ ?_
 rotate_left
 ·show Act.put _ (some 7) _ = _
  simp only [Act.put, List.setIfInBounds_toArray, List.set_cons_zero, List.set_cons_succ, i64_w, i32_w]
  rfl
 refine one_ (i := 7) (N := some 11) #[true, true, true, true, true, true, true, true, true, true, true, false, false] rfl rfl (one_of HT_.out (by kernel_rfl)) (by decide) (fun K hK => ?_)
 refine goes_ Try.func66 (by kernel_rfl) rfl #[.slice Ao10 t269.length co10, .int .u64 (IntKind.u64.wrap (a0_1))] (by rfl) rfl rfl (by (try simp only [List.map_toArray, List.map_cons, List.map_nil]); first | done | rfl | (simp only [List.length_drop, List.length_take]; rfl)) ?_
 with_reducible refine (num_Put.calls k _ _ t269 (IntKind.u64.wrap (a0_1)) t272 _ ?side1 ?side2 A3.out).mono ?_
 (case side1 => repeat (first | exact (Kd.R_reads' HO271.out).2.2 | (with_reducible refine Kd.C_alloc ?_ _) | (with_reducible refine Kd.C_drewN ?_ _) | (with_reducible refine Kd.C_drew ?_)))
 (case side2 => exact (Kd.R_reads' HO271.out).2.1)
 rintro e w11 ⟨v273, rfl, ho0, hb⟩
 refine ⟨_, rfl, ?_⟩
 have n0_ := Aside0.mk (Kd.R_elder' (by (with_reducible repeat (first | apply Kd.R_alloc | apply Kd.R_drewN | apply Kd.R_drew)); exact HO271.out) (Kd.R_base ho0) hb)
 have n1_ := Aside0.mk (Kd.R_lower (Kd.R_new' ho0 (Kd.R_lt (by (with_reducible repeat (first | apply Kd.R_alloc | apply Kd.R_drewN | apply Kd.R_drew)); exact HO271.out))) (below_size (by repeat (first | (with_reducible first | exact HB.out | apply below_alloc | apply pw_below_drewN | apply below_drew1 | refine below_set ?_ GE268.out) | exact HB.out))))
 have n2_ := Aside0.mk (blk_below (g := gb268) (o := .cells #[.int .i64 a0_0, .int .i64 a0_1, .int .i64 a0_2, .string a0_3, .int .i64 a0_4] 64 (0, 0)) (by (with_reducible repeat (first | refine blk_drewN ?_ _ | refine blk_drew ?_ | refine blk_alloc ?_ _)); exact BK268.out) hb)
 have n3_ := Aside0.mk (below_step (by repeat (first | (with_reducible first | exact HB.out | apply below_alloc | apply pw_below_drewN | apply below_drew1 | refine below_set ?_ GE268.out) | exact HB.out)) hb)
 clear HO271
 clear BK268
 clear HB
 have HO271 := n0_
 have HO274 := n1_
 have BK268 := n2_
 have HB := n3_
 clear n0_ n1_ n2_ n3_
 (try clear hb)
 (try clear hb2)
 (try clear hk)
 (try clear hi)
 (try clear ho0)
 obtain ⟨Ao12, co12, eo12⟩ := Kd.R_slice HO274.out
 (first | subst eo12 | (injection eo12 with f1_ f2_ f3_; have f4_ := f1_.symm; have f5_ := f3_.symm; clear f1_ f2_ f3_; subst f4_; subst f5_))
 refine hK.out _ _ ⟨(blk_cell BK268.out 0).trans rfl, (blk_cell BK268.out 1).trans rfl, (blk_cell BK268.out 2).trans rfl, (blk_cell BK268.out 3).trans rfl, (blk_cell BK268.out 4).trans rfl⟩ (fun hHeld => ?_)
 clear hK K
 refine norm_ (a' := ?_) ?_ ?_
 rotate_left
 ·show Act.put _ (some 11) _ = _
  simp only [Act.put, List.setIfInBounds_toArray, List.set_cons_zero, List.set_cons_succ, i64_w, i32_w]
  rfl
 refine one_ (i := 11) (N := some 15) #[true, true, true, true, true, true, true, true, true, true, true, true, false] rfl rfl (one_of HT_.out (by kernel_rfl)) (by decide) (fun K hK => ?_)
 refine goes_ Try.func66 (by kernel_rfl) rfl #[.slice Ao12 t272.length co12, .int .u64 (IntKind.u64.wrap (a0_2))] (by rfl) rfl rfl (by (try simp only [List.map_toArray, List.map_cons, List.map_nil]); first | done | rfl | (simp only [List.length_drop, List.length_take]; rfl)) ?_
 with_reducible refine (num_Put.calls k _ _ t272 (IntKind.u64.wrap (a0_2)) t275 _ ?side1 ?side2 A4.out).mono ?_
 (case side1 => repeat (first | exact (Kd.R_reads' HO274.out).2.2 | (with_reducible refine Kd.C_alloc ?_ _) | (with_reducible refine Kd.C_drewN ?_ _) | (with_reducible refine Kd.C_drew ?_)))
 (case side2 => exact (Kd.R_reads' HO274.out).2.1)
 rintro e w13 ⟨v276, rfl, ho0, hb⟩
 refine ⟨_, rfl, ?_⟩
 have n0_ := Aside0.mk (Kd.R_elder' (by (with_reducible repeat (first | apply Kd.R_alloc | apply Kd.R_drewN | apply Kd.R_drew)); exact HO271.out) (Kd.R_base ho0) hb)
 have n1_ := Aside0.mk (Kd.R_elder' (by (with_reducible repeat (first | apply Kd.R_alloc | apply Kd.R_drewN | apply Kd.R_drew)); exact HO274.out) (Kd.R_base ho0) hb)
 have n2_ := Aside0.mk (Kd.R_lower (Kd.R_new' (Kd.R_new' ho0 (Kd.R_lt (by (with_reducible repeat (first | apply Kd.R_alloc | apply Kd.R_drewN | apply Kd.R_drew)); exact HO271.out))) (Kd.R_lt (by (with_reducible repeat (first | apply Kd.R_alloc | apply Kd.R_drewN | apply Kd.R_drew)); exact HO274.out))) (below_size (by repeat (first | (with_reducible first | exact HB.out | apply below_alloc | apply pw_below_drewN | apply below_drew1 | refine below_set ?_ GE268.out) | exact HB.out))))
 have n3_ := Aside0.mk (blk_below (g := gb268) (o := .cells #[.int .i64 a0_0, .int .i64 a0_1, .int .i64 a0_2, .string a0_3, .int .i64 a0_4] 64 (0, 0)) (by (with_reducible repeat (first | refine blk_drewN ?_ _ | refine blk_drew ?_ | refine blk_alloc ?_ _)); exact BK268.out) hb)
 have n4_ := Aside0.mk (below_step (by repeat (first | (with_reducible first | exact HB.out | apply below_alloc | apply pw_below_drewN | apply below_drew1 | refine below_set ?_ GE268.out) | exact HB.out)) hb)
 clear HO271
 clear HO274
 clear BK268
 clear HB
 have HO271 := n0_
 have HO274 := n1_
 have HO277 := n2_
 have BK268 := n3_
 have HB := n4_
 clear n0_ n1_ n2_ n3_ n4_
 (try clear hb)
 (try clear hb2)
 (try clear hk)
 (try clear hi)
 (try clear ho0)
 refine hK.out _ _ ⟨(blk_cell BK268.out 0).trans rfl, (blk_cell BK268.out 1).trans rfl, (blk_cell BK268.out 2).trans rfl, (blk_cell BK268.out 3).trans rfl, (blk_cell BK268.out 4).trans rfl⟩ (fun hHeld => ?_)
 clear hK K
 refine norm_ (a' := ?_) ?_ ?_
 rotate_left
 ·show Act.put _ (some 15) _ = _
  simp only [Act.put, List.setIfInBounds_toArray, List.set_cons_zero, List.set_cons_succ, i64_w, i32_w]
  rfl
 refine pure_ (i := 12) (N := some 3) (v := ?_) (a' := ?_) #[true, true, true, true, true, true, true, true, true, true, true, true, true] rfl rfl (any_of HT_.out (by kernel_rfl)) (fun _ _ _ h => h) (Or.inl ⟨by rfl, ?_⟩) ?_ ?_
 rotate_left
 ·intro w'
  go_simp
  with_reducible rfl
 rotate_left
 ·simp only [Act.put, List.setIfInBounds_toArray, List.set_cons_zero, List.set_cons_succ, i64_w, i32_w]
  rfl
 refine done_ (done_of HT_.out (by kernel_rfl)) ?_
 try go_wp2
 have n0_ := Aside0.mk (Kd.R_drew HO271.out)
 have n1_ := Aside0.mk (Kd.R_drew HO274.out)
 have n2_ := Aside0.mk (Kd.R_drew HO277.out)
 have n3_ := Aside0.mk (blk_drew BK268.out)
 have n4_ := Aside0.mk (below_drew1 HB.out)
 clear HO271
 clear HO274
 clear HO277
 clear BK268
 clear HB
 have HO271 := n0_
 have HO274 := n1_
 have HO277 := n2_
 have BK268 := n3_
 have HB := n4_
 clear n0_ n1_ n2_ n3_ n4_
 obtain ⟨Ao15, co15, eo15⟩ := Kd.R_slice HO277.out
 (first | subst eo15 | (injection eo15 with f1_ f2_ f3_; have f4_ := f1_.symm; have f5_ := f3_.symm; clear f1_ f2_ f3_; subst f4_; subst f5_))
 refine start_ (n := 10) (S := fun w' => w'.cell? ⟨gb268, 0, none⟩ = some (.int .i64 a0_0) ∧ w'.cell? ⟨gb268, 1, none⟩ = some (.int .i64 a0_1) ∧ w'.cell? ⟨gb268, 2, none⟩ = some (.int .i64 a0_2) ∧ w'.cell? ⟨gb268, 3, none⟩ = some (.string a0_3) ∧ w'.cell? ⟨gb268, 4, none⟩ = some (.int .i64 a0_4)) (ds := []) #[false, false, false, false, false, false, false, false, false, false] (by kernel_rfl) rfl rfl ⟨(blk_cell BK268.out 0).trans rfl, (blk_cell BK268.out 1).trans rfl, (blk_cell BK268.out 2).trans rfl, (blk_cell BK268.out 3).trans rfl, (blk_cell BK268.out 4).trans rfl⟩ (fun hHeld => ?_); refine with_tabW audit_bytes.tab2 audit_bytes.bits2 (fun HT_ HW_ => ?_)
 generalize w13.drew = w14 at HO271 HO274 HO277 BK268 HB hHeld ⊢
 refine pure_ (i := 0) (N := some 16) (v := ?_) (a' := ?_) #[true, false, false, false, false, false, false, false, false, false] rfl rfl (any_of HT_.out (by kernel_rfl)) (fun _ _ _ h => h) (Or.inl ⟨by rfl, ?_⟩) ?_ ?_
 rotate_left
 ·intro w'
  go_simp
  with_reducible rfl
 rotate_left
 ·simp only [Act.put, List.setIfInBounds_toArray, List.set_cons_zero, List.set_cons_succ, i64_w, i32_w]
  rfl
 refine pure_ (i := 1) (N := some 17) (v := ?_) (a' := ?_) #[true, true, false, false, false, false, false, false, false, false] rfl rfl (any_of HT_.out (by kernel_rfl)) (fun _ _ _ h => h) (Or.inl ⟨by rfl, ?_⟩) ?_ ?_
 rotate_left
 ·intro w'
  go_simp
  with_reducible rfl
 rotate_left
 ·simp only [Act.put, List.setIfInBounds_toArray, List.set_cons_zero, List.set_cons_succ, i64_w, i32_w]
  rfl
 refine pure_ (i := 4) (N := some 20) (v := ?_) (a' := ?_) #[true, true, false, false, true, false, false, false, false, false] rfl rfl (any_of HT_.out (by kernel_rfl)) (fun _ _ _ h => h) (Or.inl ⟨by rfl, ?_⟩) ?_ ?_
 rotate_left
 ·intro w'
  go_simp
  with_reducible rfl
 rotate_left
 ·simp only [Act.put, List.setIfInBounds_toArray, List.set_cons_zero, List.set_cons_succ, i64_w, i32_w]
  rfl
 refine take_ (i := 2) (N := some 18) (v := ?_) (a' := ?_) #[true, true, true, false, true, false, false, false, false, false] rfl rfl (take_ofW HT_.out HW_.out (by kernel_rfl)) (fun _ _ _ h => h) (Or.inl ⟨by rfl, ?_⟩) hHeld ?_ ?_
 rotate_left
 ·rintro w' ⟨s0, s1, s2, s3, s4⟩
  go_simp
  with_reducible rfl
 rotate_left
 ·simp only [Act.put, List.setIfInBounds_toArray, List.set_cons_zero, List.set_cons_succ, i64_w, i32_w]
  rfl
 refine take_ (i := 5) (N := some 21) (v := ?_) (a' := ?_) #[true, true, true, false, true, true, false, false, false, false] rfl rfl (take_ofW HT_.out HW_.out (by kernel_rfl)) (fun _ _ _ h => h) (Or.inl ⟨by rfl, ?_⟩) hHeld ?_ ?_
 rotate_left
 ·rintro w' ⟨s0, s1, s2, s3, s4⟩
  go_simp
  with_reducible rfl
 rotate_left
 ·simp only [Act.put, List.setIfInBounds_toArray, List.set_cons_zero, List.set_cons_succ, i64_w, i32_w]
  rfl
 refine pure_ (i := 6) (N := some 22) (v := ?_) (a' := ?_) #[true, true, true, false, true, true, true, false, false, false] rfl rfl (any_of HT_.out (by kernel_rfl)) (fun _ _ _ h => h) (Or.inl ⟨by rfl, ?_⟩) ?_ ?_
 rotate_left
 ·intro w'
  go_simp
  with_reducible rfl
 rotate_left
 ·simp only [Act.put, List.setIfInBounds_toArray, List.set_cons_zero, List.set_cons_succ, i64_w, i32_w]
  rfl
 refine one_ (i := 3) (N := some 19) #[true, true, true, true, true, true, true, false, false, false] rfl rfl (one_of HT_.out (by kernel_rfl)) (by decide) (fun K hK => ?_)
 refine goes_ Try.func94 (by kernel_rfl) rfl #[.slice Ao15 t275.length co15, .string a0_3] (by rfl) rfl rfl (by (try simp only [List.map_toArray, List.map_cons, List.map_nil]); first | done | rfl | (simp only [List.length_drop, List.length_take]; rfl)) ?_
 with_reducible refine (num_PutText.calls k _ _ t275 a0_3 t278 _ ?side1 ?side2 A5.out).mono ?_
 (case side1 => repeat (first | exact (Kd.R_reads' HO277.out).2.2 | (with_reducible refine Kd.C_alloc ?_ _) | (with_reducible refine Kd.C_drewN ?_ _) | (with_reducible refine Kd.C_drew ?_)))
 (case side2 => exact (Kd.R_reads' HO277.out).2.1)
 rintro e w16 ⟨v279, rfl, ho0, hb⟩
 refine ⟨_, rfl, ?_⟩
 have n0_ := Aside0.mk (Kd.R_elder' (by (with_reducible repeat (first | apply Kd.R_alloc | apply Kd.R_drewN | apply Kd.R_drew)); exact HO271.out) (Kd.R_base ho0) hb)
 have n1_ := Aside0.mk (Kd.R_elder' (by (with_reducible repeat (first | apply Kd.R_alloc | apply Kd.R_drewN | apply Kd.R_drew)); exact HO274.out) (Kd.R_base ho0) hb)
 have n2_ := Aside0.mk (Kd.R_elder' (by (with_reducible repeat (first | apply Kd.R_alloc | apply Kd.R_drewN | apply Kd.R_drew)); exact HO277.out) (Kd.R_base ho0) hb)
 have n3_ := Aside0.mk (Kd.R_lower (Kd.R_new' (Kd.R_new' (Kd.R_new' ho0 (Kd.R_lt (by (with_reducible repeat (first | apply Kd.R_alloc | apply Kd.R_drewN | apply Kd.R_drew)); exact HO271.out))) (Kd.R_lt (by (with_reducible repeat (first | apply Kd.R_alloc | apply Kd.R_drewN | apply Kd.R_drew)); exact HO274.out))) (Kd.R_lt (by (with_reducible repeat (first | apply Kd.R_alloc | apply Kd.R_drewN | apply Kd.R_drew)); exact HO277.out))) (below_size (by repeat (first | (with_reducible first | exact HB.out | apply below_alloc | apply pw_below_drewN | apply below_drew1 | refine below_set ?_ GE268.out) | exact HB.out))))
 have n4_ := Aside0.mk (blk_below (g := gb268) (o := .cells #[.int .i64 a0_0, .int .i64 a0_1, .int .i64 a0_2, .string a0_3, .int .i64 a0_4] 64 (0, 0)) (by (with_reducible repeat (first | refine blk_drewN ?_ _ | refine blk_drew ?_ | refine blk_alloc ?_ _)); exact BK268.out) hb)
 have n5_ := Aside0.mk (below_step (by repeat (first | (with_reducible first | exact HB.out | apply below_alloc | apply pw_below_drewN | apply below_drew1 | refine below_set ?_ GE268.out) | exact HB.out)) hb)
 clear HO271
 clear HO274
 clear HO277
 clear BK268
 clear HB
 have HO271 := n0_
 have HO274 := n1_
 have HO277 := n2_
 have HO280 := n3_
 have BK268 := n4_
 have HB := n5_
 clear n0_ n1_ n2_ n3_ n4_ n5_
 (try clear hb)
 (try clear hb2)
 (try clear hk)
 (try clear hi)
 (try clear ho0)
 obtain ⟨Ao17, co17, eo17⟩ := Kd.R_slice HO280.out
 (first | subst eo17 | (injection eo17 with f1_ f2_ f3_; have f4_ := f1_.symm; have f5_ := f3_.symm; clear f1_ f2_ f3_; subst f4_; subst f5_))
 refine hK.out _ _ ⟨(blk_cell BK268.out 0).trans rfl, (blk_cell BK268.out 1).trans rfl, (blk_cell BK268.out 2).trans rfl, (blk_cell BK268.out 3).trans rfl, (blk_cell BK268.out 4).trans rfl⟩ (fun hHeld => ?_)
 clear hK K
 refine norm_ (a' := ?_) ?_ ?_
 rotate_left
 ·show Act.put _ (some 19) _ = _
  simp only [Act.put, List.setIfInBounds_toArray, List.set_cons_zero, List.set_cons_succ, i64_w, i32_w]
  rfl
 refine one_ (i := 7) (N := some 23) #[true, true, true, true, true, true, true, true, false, false] rfl rfl (one_of HT_.out (by kernel_rfl)) (by decide) (fun K hK => ?_)
 refine goes_ Try.func66 (by kernel_rfl) rfl #[.slice Ao17 t278.length co17, .int .u64 (IntKind.u64.wrap (a0_4))] (by rfl) rfl rfl (by (try simp only [List.map_toArray, List.map_cons, List.map_nil]); first | done | rfl | (simp only [List.length_drop, List.length_take]; rfl)) ?_
 with_reducible refine (num_Put.calls k _ _ t278 (IntKind.u64.wrap (a0_4)) t281 _ ?side1 ?side2 A6.out).mono ?_
 (case side1 => repeat (first | exact (Kd.R_reads' HO280.out).2.2 | (with_reducible refine Kd.C_alloc ?_ _) | (with_reducible refine Kd.C_drewN ?_ _) | (with_reducible refine Kd.C_drew ?_)))
 (case side2 => exact (Kd.R_reads' HO280.out).2.1)
 rintro e w18 ⟨v282, rfl, ho0, hb⟩
 refine ⟨_, rfl, ?_⟩
 have n0_ := Aside0.mk (Kd.R_elder' (by (with_reducible repeat (first | apply Kd.R_alloc | apply Kd.R_drewN | apply Kd.R_drew)); exact HO271.out) (Kd.R_base ho0) hb)
 have n1_ := Aside0.mk (Kd.R_elder' (by (with_reducible repeat (first | apply Kd.R_alloc | apply Kd.R_drewN | apply Kd.R_drew)); exact HO274.out) (Kd.R_base ho0) hb)
 have n2_ := Aside0.mk (Kd.R_elder' (by (with_reducible repeat (first | apply Kd.R_alloc | apply Kd.R_drewN | apply Kd.R_drew)); exact HO277.out) (Kd.R_base ho0) hb)
 have n3_ := Aside0.mk (Kd.R_elder' (by (with_reducible repeat (first | apply Kd.R_alloc | apply Kd.R_drewN | apply Kd.R_drew)); exact HO280.out) (Kd.R_base ho0) hb)
 have n4_ := Aside0.mk (Kd.R_lower (Kd.R_new' (Kd.R_new' (Kd.R_new' (Kd.R_new' ho0 (Kd.R_lt (by (with_reducible repeat (first | apply Kd.R_alloc | apply Kd.R_drewN | apply Kd.R_drew)); exact HO271.out))) (Kd.R_lt (by (with_reducible repeat (first | apply Kd.R_alloc | apply Kd.R_drewN | apply Kd.R_drew)); exact HO274.out))) (Kd.R_lt (by (with_reducible repeat (first | apply Kd.R_alloc | apply Kd.R_drewN | apply Kd.R_drew)); exact HO277.out))) (Kd.R_lt (by (with_reducible repeat (first | apply Kd.R_alloc | apply Kd.R_drewN | apply Kd.R_drew)); exact HO280.out))) (below_size (by repeat (first | (with_reducible first | exact HB.out | apply below_alloc | apply pw_below_drewN | apply below_drew1 | refine below_set ?_ GE268.out) | exact HB.out))))
 have n5_ := Aside0.mk (blk_below (g := gb268) (o := .cells #[.int .i64 a0_0, .int .i64 a0_1, .int .i64 a0_2, .string a0_3, .int .i64 a0_4] 64 (0, 0)) (by (with_reducible repeat (first | refine blk_drewN ?_ _ | refine blk_drew ?_ | refine blk_alloc ?_ _)); exact BK268.out) hb)
 have n6_ := Aside0.mk (below_step (by repeat (first | (with_reducible first | exact HB.out | apply below_alloc | apply pw_below_drewN | apply below_drew1 | refine below_set ?_ GE268.out) | exact HB.out)) hb)
 clear HO271
 clear HO274
 clear HO277
 clear HO280
 clear BK268
 clear HB
 have HO271 := n0_
 have HO274 := n1_
 have HO277 := n2_
 have HO280 := n3_
 have HO283 := n4_
 have BK268 := n5_
 have HB := n6_
 clear n0_ n1_ n2_ n3_ n4_ n5_ n6_
 (try clear hb)
 (try clear hb2)
 (try clear hk)
 (try clear hi)
 (try clear ho0)
 refine hK.out _ _ ⟨(blk_cell BK268.out 0).trans rfl, (blk_cell BK268.out 1).trans rfl, (blk_cell BK268.out 2).trans rfl, (blk_cell BK268.out 3).trans rfl, (blk_cell BK268.out 4).trans rfl⟩ (fun hHeld => ?_)
 clear hK K
 refine norm_ (a' := ?_) ?_ ?_
 rotate_left
 ·show Act.put _ (some 23) _ = _
  simp only [Act.put, List.setIfInBounds_toArray, List.set_cons_zero, List.set_cons_succ, i64_w, i32_w]
  rfl
 refine one_ (i := 8) (N := some 24) #[true, true, true, true, true, true, true, true, true, false] rfl rfl (one_of HT_.out (by kernel_rfl)) (by decide) (fun K hK => ?_)
 have hcv19 := own_string (P := Try.prog) Try.underlying23 Try.underlying5 Try.underlying9 (Kd.own_of_R HO283.out)
 refine value_ (w1 := ?_) (v := ?_) (by rfl) rfl ?_ ?_
 rotate_left 2
 ·go_simp
  constructor
  ·rfl
  ·rfl
 clear hcv19
 refine hK.out _ _ ⟨(blk_cell BK268.out 0).trans rfl, (blk_cell BK268.out 1).trans rfl, (blk_cell BK268.out 2).trans rfl, (blk_cell BK268.out 3).trans rfl, (blk_cell BK268.out 4).trans rfl⟩ (fun hHeld => ?_)
 clear hK K
 refine norm_ (a' := ?_) ?_ ?_
 rotate_left
 ·show Act.put _ (some 24) _ = _
  simp only [Act.put, List.setIfInBounds_toArray, List.set_cons_zero, List.set_cons_succ, i64_w, i32_w]
  rfl
 refine pure_ (i := 9) (N := some 2) (v := ?_) (a' := ?_) #[true, true, true, true, true, true, true, true, true, true] rfl rfl (any_of HT_.out (by kernel_rfl)) (fun _ _ _ h => h) (Or.inl ⟨by rfl, ?_⟩) ?_ ?_
 rotate_left
 ·intro w'
  go_simp
  with_reducible rfl
 rotate_left
 ·simp only [Act.put, List.setIfInBounds_toArray, List.set_cons_zero, List.set_cons_succ, i64_w, i32_w]
  rfl
 refine done_ (done_of HT_.out (by kernel_rfl)) ?_
 try go_wp2
 go_ret
 exact ⟨by first | rfl | (simp [errW_none, errW_some] <;> rfl) | (simp [*, errW_none, errW_some] <;> rfl), by repeat (first | (with_reducible first | exact HB.out | apply below_alloc | apply pw_below_drewN | apply below_drew1 | refine below_set ?_ GE268.out) | exact HB.out)⟩
end Go.Proofs.Ytcdnmlfnfhoieaa.A

namespace Go.Proofs.Ytcdnmlfnfhoieaa.A
open Go.RowKit Go.Proofs.YtcdnmlfnfhoieaaW.PrintWords Go.Proofs.YtcdnmlfnfhoieaaW.PrintLast Go.Proofs.YtcdnmlfnfhoieaaW.PrintMore
attribute [local go_sem] max2_int min2_int max_two min_two max_three min_three max_four min_four
set_option linter.unusedVariables false
set_option linter.unusedSimpArgs false
/-! ### bits_RotateLeft32: function 106 -/
def bits_RotateLeft32.f (a0 : Int) (a1 : Int) : Option (Int) := if 0 ≤ (Go.bits .and .u64 (IntKind.u64.wrap (a1)) 31) then (if 0 ≤ (IntKind.u64.wrap (32 - (Go.bits .and .u64 (IntKind.u64.wrap (a1)) 31))) then (some (Go.bits .or .u32 (shl .u32 a0 (Go.bits .and .u64 (IntKind.u64.wrap (a1)) 31)) (shr .u32 a0 (IntKind.u64.wrap (32 - (Go.bits .and .u64 (IntKind.u64.wrap (a1)) 31)))))) else (none)) else (none)
set_option maxHeartbeats 8000000 in
set_option maxRecDepth 100000 in
theorem bits_RotateLeft32.calls (a0 : Int) (a1 : Int) (r : Int) (w : World) (h : bits_RotateLeft32.f a0 a1 = some r) :
  Calls Try.prog 106 #[.int .u32 a0, .int .i64 a1] w fun e w' => e = .returned (.int .u32 r) ∧ Drawn0 w w' := by
 have H : (if 0 ≤ (Go.bits .and .u64 (IntKind.u64.wrap (a1)) 31) then (if 0 ≤ (IntKind.u64.wrap (32 - (Go.bits .and .u64 (IntKind.u64.wrap (a1)) 31))) then (some (Go.bits .or .u32 (shl .u32 a0 (Go.bits .and .u64 (IntKind.u64.wrap (a1)) 31)) (shr .u32 a0 (IntKind.u64.wrap (32 - (Go.bits .and .u64 (IntKind.u64.wrap (a1)) 31)))))) else (none)) else (none)) = some r := h
 clear h
 obtain ⟨ji3, hji3⟩ : ∃ j_ : Int, (Go.bits .and .u64 (IntKind.u64.wrap (a1)) 31) = j_ := ⟨_, rfl⟩
 replace H : (if 0 ≤ (ji3) then (if 0 ≤ (IntKind.u64.wrap (32 - (ji3))) then (some (Go.bits .or .u32 (shl .u32 a0 (ji3)) (shr .u32 a0 (IntKind.u64.wrap (32 - (ji3)))))) else (none)) else (none)) = some r := by first | (rw [hji3] at H; exact H) | (simp only [hji3] at H ⊢; exact H)
 by_cases c4 : 0 ≤ (ji3)
 ·rw [if_pos c4] at H
  have c4b0 := eq_true c4
  have c4b1 : decide (0 ≤ (ji3)) = true := decide_eq_true c4
  clear c4
  obtain ⟨ji5, hji5⟩ : ∃ j_ : Int, (shl .u32 a0 (ji3)) = j_ := ⟨_, rfl⟩
  replace H : (if 0 ≤ (IntKind.u64.wrap (32 - (ji3))) then (some (Go.bits .or .u32 (ji5) (shr .u32 a0 (IntKind.u64.wrap (32 - (ji3)))))) else (none)) = some r := by first | (rw [hji5] at H; exact H) | (simp only [hji5] at H ⊢; exact H)
  have hji5_ : (IntKind.u32.wrap (a0 * 2 ^ min (ji3).toNat 32)) = ji5 := hji5
  have hji5z : (ji3) ≤ 32 → (IntKind.u32.wrap (a0 * 2 ^ (ji3).toNat)) = ji5 := shl_small hji5
  obtain ⟨ji6, hji6⟩ : ∃ j_ : Int, (IntKind.u64.wrap (32 - (ji3))) = j_ := ⟨_, rfl⟩
  replace H : (if 0 ≤ (ji6) then (some (Go.bits .or .u32 (ji5) (shr .u32 a0 (ji6)))) else (none)) = some r := by first | (rw [hji6] at H; exact H) | (simp only [hji6] at H ⊢; exact H)
  by_cases c7 : 0 ≤ (ji6)
  ·rw [if_pos c7] at H
   have c7b0 := eq_true c7
   have c7b1 : decide (0 ≤ (ji6)) = true := decide_eq_true c7
   clear c7
   obtain ⟨ji8, hji8⟩ : ∃ j_ : Int, (shr .u32 a0 (ji6)) = j_ := ⟨_, rfl⟩
   replace H : (some (Go.bits .or .u32 (ji5) (ji8))) = some r := by first | (rw [hji8] at H; exact H) | (simp only [hji8] at H ⊢; exact H)
   have hji8_ : (a0 / 2 ^ min (ji6).toNat 32) = ji8 := hji8
   have hji8z : (ji6) ≤ 32 → (a0 / 2 ^ (ji6).toNat) = ji8 := shr_small hji8
   obtain rfl := Option.some.inj H
   go_enter Try.func106, Try.ntmps106
   go_wp2
   go_ret
   exact ⟨by first | rfl | (simp; done) | (simp only [← hji3, ← hji5, ← hji6, ← hji8] <;> (first | rfl | simp)) | (simp [*]; done), by repeat (first | exact Drawn0.refl _ | apply Drawn0.step)⟩
  ·rw [if_neg c7] at H
   exact absurd H (by simp)
 ·rw [if_neg c4] at H
  exact absurd H (by simp)
end Go.Proofs.Ytcdnmlfnfhoieaa.A

namespace Go.Proofs.Ytcdnmlfnfhoieaa.A
open Go.RowKit Go.Proofs.YtcdnmlfnfhoieaaW.PrintWords Go.Proofs.YtcdnmlfnfhoieaaW.PrintLast Go.Proofs.YtcdnmlfnfhoieaaW.PrintMore
attribute [local go_sem] max2_int min2_int max_two min_two max_three min_three max_four min_four
set_option linter.unusedVariables false
set_option linter.unusedSimpArgs false
/-! ### sha_turn: function 101 -/
def sha_turn.f (a0 : Int) (a1 : Int) : Option (Int) := (bits_RotateLeft32.f a0 (wrap64 (-a1))).bind fun t112 => (some t112)
set_option maxHeartbeats 8000000 in
set_option maxRecDepth 100000 in
theorem sha_turn.calls (a0 : Int) (a1 : Int) (r : Int) (w : World) (h : sha_turn.f a0 a1 = some r) :
  Calls Try.prog 101 #[.int .u32 a0, .int .i64 a1] w fun e w' => e = .returned (.int .u32 r) ∧ Drawn0 w w' := by
 have H : ((bits_RotateLeft32.f a0 (wrap64 (-a1))).bind fun t112 => (some t112)) = some r := h
 clear h
 replace H := Option.bind_eq_some_iff.mp H
 obtain ⟨t112, A30, H⟩ := H
 replace H : (some t112) = some r := H
 have A3 := Aside0.mk A30
 clear A30
 obtain rfl := Option.some.inj H
 go_enter Try.func101, Try.ntmps101
 go_wp2_with (first | ((with_reducible refine gate_callee (f := 106) rfl ?_); refine goesL_ (some 8) rfl rfl Try.func106 (by kernel_rfl) rfl #[.int .u32 a0, .int .i64 (wrap64 (-a1))] rfl (by (try simp only [List.map_toArray, List.map_cons, List.map_nil]); first | done | rfl | (simp only [List.length_drop, List.length_take]; rfl)) ?_; (with_reducible refine (bits_RotateLeft32.calls a0 (wrap64 (-a1)) t112 _ A3.out).mono ?_); rintro e w' ⟨rfl, ⟨nd, rfl⟩⟩; refine ⟨_, rfl, ?_⟩))
 go_ret
 exact ⟨by first | rfl | (simp; done) | (simp [*]; done), by repeat (first | exact Drawn0.refl _ | apply Drawn0.step)⟩
end Go.Proofs.Ytcdnmlfnfhoieaa.A

namespace Go.Proofs.Ytcdnmlfnfhoieaa.A
open Go.RowKit Go.Proofs.YtcdnmlfnfhoieaaW.PrintWords Go.Proofs.YtcdnmlfnfhoieaaW.PrintLast Go.Proofs.YtcdnmlfnfhoieaaW.PrintMore
attribute [local go_sem] max2_int min2_int max_two min_two max_three min_three max_four min_four
set_option linter.unusedVariables false
set_option linter.unusedSimpArgs false
/-! ### bits_Mul64: function 99 -/
def bits_Mul64.f (a0 : Int) (a1 : Int) : Option (Int × Int) := some (IntKind.u64.wrap ((IntKind.u64.wrap ((IntKind.u64.wrap ((a0 / 4294967296) * (a1 / 4294967296))) + ((IntKind.u64.wrap ((IntKind.u64.wrap ((a0 / 4294967296) * (Go.bits .and .u64 a1 4294967295))) + ((IntKind.u64.wrap ((Go.bits .and .u64 a0 4294967295) * (Go.bits .and .u64 a1 4294967295))) / 4294967296))) / 4294967296))) + ((IntKind.u64.wrap ((Go.bits .and .u64 (IntKind.u64.wrap ((IntKind.u64.wrap ((a0 / 4294967296) * (Go.bits .and .u64 a1 4294967295))) + ((IntKind.u64.wrap ((Go.bits .and .u64 a0 4294967295) * (Go.bits .and .u64 a1 4294967295))) / 4294967296))) 4294967295) + (IntKind.u64.wrap ((Go.bits .and .u64 a0 4294967295) * (a1 / 4294967296))))) / 4294967296)), IntKind.u64.wrap (a0 * a1))
set_option maxHeartbeats 8000000 in
set_option maxRecDepth 100000 in
theorem bits_Mul64.calls (a0 : Int) (a1 : Int) (r1 : Int) (r2 : Int) (w : World) (h : bits_Mul64.f a0 a1 = some (r1, r2)) :
  Calls Try.prog 99 #[.int .u64 a0, .int .u64 a1] w fun e w' => e = .returned (.tuple #[.int .u64 r1, .int .u64 r2]) ∧ Drawn0 w w' := by
 have H : (some (IntKind.u64.wrap ((IntKind.u64.wrap ((IntKind.u64.wrap ((a0 / 4294967296) * (a1 / 4294967296))) + ((IntKind.u64.wrap ((IntKind.u64.wrap ((a0 / 4294967296) * (Go.bits .and .u64 a1 4294967295))) + ((IntKind.u64.wrap ((Go.bits .and .u64 a0 4294967295) * (Go.bits .and .u64 a1 4294967295))) / 4294967296))) / 4294967296))) + ((IntKind.u64.wrap ((Go.bits .and .u64 (IntKind.u64.wrap ((IntKind.u64.wrap ((a0 / 4294967296) * (Go.bits .and .u64 a1 4294967295))) + ((IntKind.u64.wrap ((Go.bits .and .u64 a0 4294967295) * (Go.bits .and .u64 a1 4294967295))) / 4294967296))) 4294967295) + (IntKind.u64.wrap ((Go.bits .and .u64 a0 4294967295) * (a1 / 4294967296))))) / 4294967296)), IntKind.u64.wrap (a0 * a1))) = some (r1, r2) := h
 clear h
 simp only [Option.some.injEq, Prod.mk.injEq] at H
 obtain ⟨rfl, rfl⟩ := H
 go_enter Try.func99, Try.ntmps99
 go_wp2
 go_ret2
 exact ⟨by first | rfl | (simp; done) | (simp [*]; done), by repeat (first | exact Drawn0.refl _ | apply Drawn0.step)⟩
end Go.Proofs.Ytcdnmlfnfhoieaa.A

namespace Go.Proofs.Ytcdnmlfnfhoieaa.A
open Go.RowKit Go.Proofs.YtcdnmlfnfhoieaaW.PrintWords Go.Proofs.YtcdnmlfnfhoieaaW.PrintLast Go.Proofs.YtcdnmlfnfhoieaaW.PrintMore
attribute [local go_sem] max2_int min2_int max_two min_two max_three min_three max_four min_four
set_option linter.unusedVariables false
set_option linter.unusedSimpArgs false
/-! ### sha_above: function 69 -/
def sha_above.f (a0 : Int) (a1 : Int) : Option (Bool) := (bits_Mul64.f a0 a0).bind fun bt108 => (if bt108.1 > a1 then (some true) else (if bt108.1 = a1 then (some (decide (bt108.2 > 0))) else (some false)))
set_option maxHeartbeats 8000000 in
set_option maxRecDepth 100000 in
theorem sha_above.calls (a0 : Int) (a1 : Int) (r : Bool) (w : World) (h : sha_above.f a0 a1 = some r) :
  Calls Try.prog 69 #[.int .u64 a0, .int .u64 a1] w fun e w' => e = .returned (.bool r) ∧ Drawn0 w w' := by
 have H : ((bits_Mul64.f a0 a0).bind fun bt108 => (if bt108.1 > a1 then (some true) else (if bt108.1 = a1 then (some (decide (bt108.2 > 0))) else (some false)))) = some r := h
 clear h
 replace H := Option.bind_eq_some_iff.mp H
 obtain ⟨⟨t108, t109⟩, A30, H⟩ := H
 replace H : (if t108 > a1 then (some true) else (if t108 = a1 then (some (decide (t109 > 0))) else (some false))) = some r := H
 have A3 := Aside0.mk A30
 clear A30
 by_cases c4 : t108 > a1
 ·rw [if_pos c4] at H
  have c4b0 : decide (a1 < t108) = true := decide_eq_true c4
  clear c4
  obtain rfl := Option.some.inj H
  go_enter Try.func69, Try.ntmps69
  go_wp2_with (first | ((with_reducible refine gate_callee (f := 99) rfl ?_); refine goesL_ (some 10) rfl rfl Try.func99 (by kernel_rfl) rfl #[.int .u64 a0, .int .u64 a0] rfl (by (try simp only [List.map_toArray, List.map_cons, List.map_nil]); first | done | rfl | (simp only [List.length_drop, List.length_take]; rfl)) ?_; (with_reducible refine (bits_Mul64.calls a0 a0 t108 t109 _ A3.out).mono ?_); rintro e w' ⟨rfl, ⟨nd, rfl⟩⟩; refine ⟨_, rfl, ?_⟩))
  go_ret
  exact ⟨by first | rfl | (simp; done) | (simp [*]; done), by repeat (first | exact Drawn0.refl _ | apply Drawn0.step)⟩
 ·rw [if_neg c4] at H
  have c4b0 : decide (a1 < t108) = false := decide_eq_false c4
  clear c4
  by_cases c5 : t108 = a1
  ·rw [if_pos c5] at H
   have c5b0 : (t108 == a1) = true := beq_iff_eq.mpr c5
   have c5b1 : (t108 != a1) = false := bne_eq_false_iff_eq.mpr c5
   clear c5
   obtain rfl := Option.some.inj H
   go_enter Try.func69, Try.ntmps69
   go_wp2_with (first | ((with_reducible refine gate_callee (f := 99) rfl ?_); refine goesL_ (some 10) rfl rfl Try.func99 (by kernel_rfl) rfl #[.int .u64 a0, .int .u64 a0] rfl (by (try simp only [List.map_toArray, List.map_cons, List.map_nil]); first | done | rfl | (simp only [List.length_drop, List.length_take]; rfl)) ?_; (with_reducible refine (bits_Mul64.calls a0 a0 t108 t109 _ A3.out).mono ?_); rintro e w' ⟨rfl, ⟨nd, rfl⟩⟩; refine ⟨_, rfl, ?_⟩))
   go_ret
   exact ⟨by first | rfl | (simp; done) | (simp [*]; done), by repeat (first | exact Drawn0.refl _ | apply Drawn0.step)⟩
  ·rw [if_neg c5] at H
   have c5b0 : (t108 == a1) = false := beq_eq_false_iff_ne.mpr c5
   have c5b1 : (t108 != a1) = true := bne_iff_ne.mpr c5
   obtain rfl := Option.some.inj H
   go_enter Try.func69, Try.ntmps69
   go_wp2_with (first | ((with_reducible refine gate_callee (f := 99) rfl ?_); refine goesL_ (some 10) rfl rfl Try.func99 (by kernel_rfl) rfl #[.int .u64 a0, .int .u64 a0] rfl (by (try simp only [List.map_toArray, List.map_cons, List.map_nil]); first | done | rfl | (simp only [List.length_drop, List.length_take]; rfl)) ?_; (with_reducible refine (bits_Mul64.calls a0 a0 t108 t109 _ A3.out).mono ?_); rintro e w' ⟨rfl, ⟨nd, rfl⟩⟩; refine ⟨_, rfl, ?_⟩))
   go_ret
   exact ⟨by first | rfl | (simp; done) | (simp [*]; done), by repeat (first | exact Drawn0.refl _ | apply Drawn0.step)⟩
end Go.Proofs.Ytcdnmlfnfhoieaa.A

/- sha.aboveCube in the printer's form (its math/bits.Add64 has no body: the model's own entry stands for it). No condition. -/
namespace Go.Proofs.Ytcdnmlfnfhoieaa.A
open Go.RowKit Go.Proofs.YtcdnmlfnfhoieaaW.PrintWords Go.Proofs.YtcdnmlfnfhoieaaW.PrintLast Go.Proofs.YtcdnmlfnfhoieaaW.PrintMore
theorem mul_ge (a b r1 r2 : Int) (h : bits_Mul64.f a b = some (r1, r2)) : 0 ≤ r1 ∧ r1 < 18446744073709551616 ∧ 0 ≤ r2 ∧ r2 < 18446744073709551616 := by
 have hw : ∀ n : Int, 0 ≤ IntKind.u64.wrap n ∧ IntKind.u64.wrap n < 18446744073709551616 := by
  intro n
  unfold IntKind.wrap
  have e : (2 : Int) ^ IntKind.u64.bits = 18446744073709551616 := by decide
  have s : IntKind.u64.signed = false := rfl
  simp only [e, s, Bool.false_and]
  rw [if_neg (by simp)]
  omega
 unfold bits_Mul64.f at h
 simp only [Option.some.injEq, Prod.mk.injEq] at h
 obtain ⟨rfl, rfl⟩ := h
 exact ⟨(hw _).1, (hw _).2, (hw _).1, (hw _).2⟩
theorem add64_law (x y : Int) (hx : 0 ≤ x) (hy : 0 ≤ y) (w : World) :
  (callFunc 100 #[.int .u64 x, .int .u64 y, .int .u64 0]).run Try.prog w = .ok (.value (.tuple #[.int .u64 ((x + y) % 18446744073709551616), .int .u64 ((x + y) / 18446744073709551616)])) w := by
 have := run_add64 (P := Try.prog) x y 0 hx hy (by decide) (by decide) w
 rw [Int.add_zero] at this
 rw [run_callFunc_extern Try.func100 (by kernel_rfl) (by kernel_rfl) (by kernel_rfl) (e := add64Entry) (by kernel_rfl), this]
 rfl
def sha_aboveCube.f (a0 a1 : Int) : Option Bool := (bits_Mul64.f a0 a0).bind fun b0 => (bits_Mul64.f b0.1 a0).bind fun b1 => (bits_Mul64.f b0.2 a0).bind fun b2 =>
 some (decide (IntKind.u64.wrap (b1.1 + (b1.2 + b2.1) / 18446744073709551616) > a1 / 4294967296) || (IntKind.u64.wrap (b1.1 + (b1.2 + b2.1) / 18446744073709551616) == a1 / 4294967296 && (decide ((b1.2 + b2.1) % 18446744073709551616 > IntKind.u64.wrap (a1 * 4294967296)) || ((b1.2 + b2.1) % 18446744073709551616 == IntKind.u64.wrap (a1 * 4294967296) && decide (b2.2 > 0)))))
set_option maxHeartbeats 400000 in
set_option maxRecDepth 100000 in
theorem sha_aboveCube.calls (a0 : Int) (a1 : Int) (r : Bool) (w : World) (h : sha_aboveCube.f a0 a1 = some r) :
  Calls Try.prog 68 #[.int .u64 a0, .int .u64 a1] w fun e w' => e = .returned (.bool r) ∧ Drawn0 w w' := by
 unfold sha_aboveCube.f at h
 obtain ⟨⟨x1, x2⟩, h1, h⟩ := Option.bind_eq_some_iff.mp h
 obtain ⟨⟨y1, y2⟩, h2, h⟩ := Option.bind_eq_some_iff.mp h
 obtain ⟨⟨z1, z2⟩, h3, h⟩ := Option.bind_eq_some_iff.mp h
 have g2 := mul_ge _ _ _ _ h2
 have g3 := mul_ge _ _ _ _ h3
 have ha := add64_law y2 z1 g2.2.2.1 g3.1
 have HA := Aside0.mk ha
 have H1 := Aside0.mk h1
 have H2 := Aside0.mk h2
 have H3 := Aside0.mk h3
 clear h1 h2 h3 ha g2 g3
 simp only [Option.some.injEq] at h
 obtain ⟨T, hT⟩ : ∃ T, IntKind.u64.wrap (y1 + (y2 + z1) / 18446744073709551616) = T := ⟨_, rfl⟩
 obtain ⟨p32, hp⟩ : ∃ T, a1 / 4294967296 = T := ⟨_, rfl⟩
 obtain ⟨M, hM⟩ : ∃ T, (y2 + z1) % 18446744073709551616 = T := ⟨_, rfl⟩
 obtain ⟨L, hL⟩ : ∃ T, IntKind.u64.wrap (a1 * 4294967296) = T := ⟨_, rfl⟩
 rw [hT, hp, hM, hL] at h
 have hc : (p32 < T ∧ r = true) ∨ (¬ p32 < T ∧ ¬ T = p32 ∧ r = false) ∨ (¬ p32 < T ∧ T = p32 ∧ L < M ∧ r = true) ∨ (¬ p32 < T ∧ T = p32 ∧ ¬ L < M ∧ ¬ M = L ∧ r = false) ∨ (¬ p32 < T ∧ T = p32 ∧ ¬ L < M ∧ M = L ∧ r = decide (0 < z2)) := by
  by_cases c1 : p32 < T
  ·exact .inl ⟨c1, by rw [← h]; simp [c1]⟩
  ·by_cases c2 : T = p32
   ·by_cases c3 : L < M
    ·exact .inr (.inr (.inl ⟨c1, c2, c3, by rw [← h]; simp [c2, c3]⟩))
    ·by_cases c4 : M = L
     ·exact .inr (.inr (.inr (.inr ⟨c1, c2, c3, c4, by rw [← h]; simp [c2, c4]⟩)))
     ·exact .inr (.inr (.inr (.inl ⟨c1, c2, c3, c4, by rw [← h]; simp [c2, c3, c4]⟩)))
   ·exact .inr (.inl ⟨c1, c2, by rw [← h]; simp [c1, c2]⟩)
 clear h
 rename_i g1 g2
 clear g1 g2
 rcases hc with ⟨c1, rfl⟩ | ⟨c1, c2, rfl⟩ | ⟨c1, c2, c3, rfl⟩ | ⟨c1, c2, c3, c4, rfl⟩ | ⟨c1, c2, c3, c4, rfl⟩
 all_goals
  first
  | have d1 : decide (p32 < T) = true := decide_eq_true c1
  | have d1 : decide (p32 < T) = false := decide_eq_false c1
  try have d2 : (T == p32) = true := beq_iff_eq.mpr c2
  try have d2 : (T == p32) = false := beq_eq_false_iff_ne.mpr c2
  try have d3 : decide (L < M) = true := decide_eq_true c3
  try have d3 : decide (L < M) = false := decide_eq_false c3
  try have d4 : (M == L) = true := beq_iff_eq.mpr c4
  try have d4 : (M == L) = false := beq_eq_false_iff_ne.mpr c4
  clear c1
  try clear c2
  try clear c3
  try clear c4
  go_enter Try.func68, Try.ntmps68
  go_wp2_with fail
  refine (bits_Mul64.calls a0 a0 x1 x2 _ H1.out).mono ?_
  rintro e w1 ⟨rfl, ⟨n1, rfl⟩⟩
  go_wp2_with fail
  refine (bits_Mul64.calls x1 a0 y1 y2 _ H2.out).mono ?_
  rintro e w1 ⟨rfl, ⟨n2, rfl⟩⟩
  go_wp2_with fail
  refine (bits_Mul64.calls x2 a0 z1 z2 _ H3.out).mono ?_
  rintro e w1 ⟨rfl, ⟨n3, rfl⟩⟩
  go_wp2_with (simp only [HA.out])
  go_ret
  exact ⟨rfl, by repeat (first | exact Drawn0.refl _ | apply Drawn0.step)⟩
end Go.Proofs.Ytcdnmlfnfhoieaa.A

namespace Go.Proofs.Ytcdnmlfnfhoieaa.A
open Go.RowKit Go.Proofs.YtcdnmlfnfhoieaaW.PrintWords Go.Proofs.YtcdnmlfnfhoieaaW.PrintLast Go.Proofs.YtcdnmlfnfhoieaaW.PrintMore
attribute [local go_sem] max2_int min2_int max_two min_two max_three min_three max_four min_four
set_option linter.unusedVariables false
set_option linter.unusedSimpArgs false
/-! ### sha_Root: function 26 -/
def sha_Root.l0 : Nat → Int → Bool → Int → Int → Option (Int)
 | 0, _, _, _, _ => none
 | k + 1, x0, x1, x5, x8 => if x8 < 49 then (if 0 ≤ (wrap64 (48 - x8)) then (if x1 = true then (if (Go.bits .or .u64 x5 (shl .u64 1 (wrap64 (48 - x8)))) < 17592186044416 then ((sha_aboveCube.f (Go.bits .or .u64 x5 (shl .u64 1 (wrap64 (48 - x8)))) (IntKind.u64.wrap (x0))).bind fun t110 => (if t110 = true then (sha_Root.l0 k x0 x1 x5 (wrap64 (x8 + 1))) else (sha_Root.l0 k x0 x1 (Go.bits .or .u64 x5 (shl .u64 1 (wrap64 (48 - x8)))) (wrap64 (x8 + 1))))) else (sha_Root.l0 k x0 x1 x5 (wrap64 (x8 + 1)))) else ((sha_above.f (Go.bits .or .u64 x5 (shl .u64 1 (wrap64 (48 - x8)))) (IntKind.u64.wrap (x0))).bind fun t111 => (if t111 = true then (sha_Root.l0 k x0 x1 x5 (wrap64 (x8 + 1))) else (sha_Root.l0 k x0 x1 (Go.bits .or .u64 x5 (shl .u64 1 (wrap64 (48 - x8)))) (wrap64 (x8 + 1)))))) else (none)) else (some ((x5) % 4294967296))
def sha_Root.f (k : Nat) (a0 : Int) (a1 : Bool) : Option (Int) := sha_Root.l0 k a0 a1 0 0
theorem sha_Root.mono_l : ∀ k, (∀ y0 y1 y2 y3, LeO (sha_Root.l0 k y0 y1 y2 y3) (sha_Root.l0 (k + 1) y0 y1 y2 y3))
 | 0 => fun _ _ _ _ r h => by simp [sha_Root.l0] at h
 | k + 1 => by
  have ih0 := sha_Root.mono_l k
  ·intro y0 y1 y2 y3
   unfold sha_Root.l0
   repeat' first
   | (with_reducible exact ih0 _ _ _ _)
   | (with_reducible exact LeO.refl _)
   | (with_reducible exact LeO.none _)
   | (with_reducible refine LeO.ite ?_ ?_)
   | (with_reducible refine LeO.bind ?_ (fun _ => ?_))
   | exact ih0 _ _ _ _
   | exact LeO.none _
   | refine LeO.ite ?_ ?_
   | refine LeO.bind ?_ (fun _ => ?_)
theorem sha_Root.mono : ∀ a0 a1 k, LeO (sha_Root.f k a0 a1) (sha_Root.f (k + 1) a0 a1) := by
 intro a0 a1 k
 have ih0 := sha_Root.mono_l k
 unfold sha_Root.f
 repeat' first
   | (with_reducible exact ih0 _ _ _ _)
   | (with_reducible exact LeO.refl _)
   | (with_reducible exact LeO.none _)
   | (with_reducible refine LeO.ite ?_ ?_)
   | (with_reducible refine LeO.bind ?_ (fun _ => ?_))
   | exact ih0 _ _ _ _
   | exact LeO.none _
   | refine LeO.ite ?_ ?_
   | refine LeO.bind ?_ (fun _ => ?_)
set_option maxHeartbeats 8000000 in
set_option maxRecDepth 100000 in
theorem sha_Root.calls (k : Nat) (a0 : Int) (a1 : Bool) (r : Int) (w : World) (h : sha_Root.f k a0 a1 = some r) :
  Calls Try.prog 26 #[.int .u32 a0, .bool a1] w fun e w' => e = .returned (.int .u32 r) ∧ Drawn0 w w' := by
 have H : (sha_Root.l0 k a0 a1 0 0) = some r := h
 clear h
 have H' := Aside0.mk H
 clear H
 go_enter Try.func26, Try.ntmps26
 go_wp2
 go_loopg [5, 8] k (fun kq v5 v8 w' => ∃ (x5_1 : Int) (x8_1 : Int), v5 = .int .u64 x5_1 ∧ v8 = .int .i64 x8_1 ∧ Aside0 (sha_Root.l0 kq a0 a1 x5_1 x8_1 = some r) ∧ Aside0 (kq ≤ k) ∧ Drawn0 w w')
 case atStart => exact ⟨(0), (0), (by first | rfl | (simp; done) | (simp [*]; done)), (by first | rfl | (simp; done) | (simp [*]; done)), H', ⟨Nat.le_refl _⟩, by repeat (first | exact Drawn0.refl _ | apply Drawn0.step)⟩
 case round =>
  clear H'
  try clear c2
  try clear p2
  obtain ⟨x5_1, x8_1, rfl, rfl, HA, HK1, ⟨m1, rfl⟩⟩ := hrel
  cases gk with
  | zero => exact absurd HA.out (by simp [sha_Root.l0])
  | succ k1 =>
   have H := HA.out
   clear HA
   simp only [sha_Root.l0] at H
   by_cases c3 : x8_1 < 49
   ·rw [if_pos c3] at H
    have c3b0 : decide (x8_1 < 49) = true := decide_eq_true c3
    clear c3
    obtain ⟨ji4, hji4⟩ : ∃ j_ : Int, (wrap64 (48 - x8_1)) = j_ := ⟨_, rfl⟩
    replace H : (if 0 ≤ (ji4) then (if a1 = true then (if (Go.bits .or .u64 x5_1 (shl .u64 1 (ji4))) < 17592186044416 then ((sha_aboveCube.f (Go.bits .or .u64 x5_1 (shl .u64 1 (ji4))) (IntKind.u64.wrap (a0))).bind fun t110 => (if t110 = true then (sha_Root.l0 k1 a0 a1 x5_1 (wrap64 (x8_1 + 1))) else (sha_Root.l0 k1 a0 a1 (Go.bits .or .u64 x5_1 (shl .u64 1 (ji4))) (wrap64 (x8_1 + 1))))) else (sha_Root.l0 k1 a0 a1 x5_1 (wrap64 (x8_1 + 1)))) else ((sha_above.f (Go.bits .or .u64 x5_1 (shl .u64 1 (ji4))) (IntKind.u64.wrap (a0))).bind fun t111 => (if t111 = true then (sha_Root.l0 k1 a0 a1 x5_1 (wrap64 (x8_1 + 1))) else (sha_Root.l0 k1 a0 a1 (Go.bits .or .u64 x5_1 (shl .u64 1 (ji4))) (wrap64 (x8_1 + 1)))))) else (none)) = some r := by first | (rw [hji4] at H; exact H) | (simp only [hji4] at H ⊢; exact H)
    have hji4w : (IntKind.i64.wrap (48 - x8_1)) = ji4 := (i64_w _).trans hji4
    by_cases c5 : 0 ≤ (ji4)
    ·rw [if_pos c5] at H
     have c5b0 := eq_true c5
     have c5b1 : decide (0 ≤ (ji4)) = true := decide_eq_true c5
     clear c5
     obtain ⟨ji6, hji6⟩ : ∃ j_ : Int, (shl .u64 1 (ji4)) = j_ := ⟨_, rfl⟩
     replace H : (if a1 = true then (if (Go.bits .or .u64 x5_1 (ji6)) < 17592186044416 then ((sha_aboveCube.f (Go.bits .or .u64 x5_1 (ji6)) (IntKind.u64.wrap (a0))).bind fun t110 => (if t110 = true then (sha_Root.l0 k1 a0 a1 x5_1 (wrap64 (x8_1 + 1))) else (sha_Root.l0 k1 a0 a1 (Go.bits .or .u64 x5_1 (ji6)) (wrap64 (x8_1 + 1))))) else (sha_Root.l0 k1 a0 a1 x5_1 (wrap64 (x8_1 + 1)))) else ((sha_above.f (Go.bits .or .u64 x5_1 (ji6)) (IntKind.u64.wrap (a0))).bind fun t111 => (if t111 = true then (sha_Root.l0 k1 a0 a1 x5_1 (wrap64 (x8_1 + 1))) else (sha_Root.l0 k1 a0 a1 (Go.bits .or .u64 x5_1 (ji6)) (wrap64 (x8_1 + 1)))))) = some r := by first | (rw [hji6] at H; exact H) | (simp only [hji6] at H ⊢; exact H)
     have hji6_ : (IntKind.u64.wrap (1 * 2 ^ min (ji4).toNat 64)) = ji6 := hji6
     have hji6z : (ji4) ≤ 64 → (IntKind.u64.wrap (1 * 2 ^ (ji4).toNat)) = ji6 := shl_small hji6
     have hji6u : (IntKind.u64.wrap (2 ^ min (ji4).toNat 64)) = ji6 := by have h_ := hji6_; rw [Int.one_mul] at h_; exact h_
     have hji6v : (ji4) ≤ 64 → (IntKind.u64.wrap (2 ^ (ji4).toNat)) = ji6 := fun hle_ => by have h_ := hji6z hle_; rw [Int.one_mul] at h_; exact h_
     by_cases c7 : a1 = true
     ·subst c7
      have H1 : (if (Go.bits .or .u64 x5_1 (ji6)) < 17592186044416 then ((sha_aboveCube.f (Go.bits .or .u64 x5_1 (ji6)) (IntKind.u64.wrap (a0))).bind fun t110 => (if t110 = true then (sha_Root.l0 k1 a0 true x5_1 (wrap64 (x8_1 + 1))) else (sha_Root.l0 k1 a0 true (Go.bits .or .u64 x5_1 (ji6)) (wrap64 (x8_1 + 1))))) else (sha_Root.l0 k1 a0 true x5_1 (wrap64 (x8_1 + 1)))) = some r := by rw [if_pos rfl] at H; exact H
      clear H
      have H := H1
      clear H1
      by_cases c8 : (Go.bits .or .u64 x5_1 (ji6)) < 17592186044416
      ·rw [if_pos c8] at H
       have c8b0 : decide ((Go.bits .or .u64 x5_1 (ji6)) < 17592186044416) = true := decide_eq_true c8
       clear c8
       replace H := Option.bind_eq_some_iff.mp H
       obtain ⟨t110, A90, H⟩ := H
       replace H : (if t110 = true then (sha_Root.l0 k1 a0 true x5_1 (wrap64 (x8_1 + 1))) else (sha_Root.l0 k1 a0 true (Go.bits .or .u64 x5_1 (ji6)) (wrap64 (x8_1 + 1)))) = some r := H
       have A9 := Aside0.mk A90
       clear A90
       by_cases c10 : t110 = true
       ·subst c10
        have H1 : (sha_Root.l0 k1 a0 true x5_1 (wrap64 (x8_1 + 1))) = some r := by rw [if_pos rfl] at H; exact H
        clear H
        have H := H1
        clear H1
        have H' := Aside0.mk H
        clear H
        go_wp2_with (first | (go_at_call 68; (with_reducible refine (sha_aboveCube.calls (Go.bits .or .u64 x5_1 (ji6)) (IntKind.u64.wrap (a0)) true _ A9.out).mono ?_); rintro e w' ⟨rfl, ⟨nd, rfl⟩⟩))
        go_roundg k1
        case measure => have := HK1.out; omega
        case rel => exact ⟨(x5_1), (wrap64 (x8_1 + 1)), (by first | rfl | (simp; done) | (simp [*]; done)), (by first | rfl | (simp; done) | (simp [*]; done)), H', ⟨by have := HK1.out; omega⟩, by repeat (first | exact Drawn0.refl _ | apply Drawn0.step)⟩
       ·replace c10 := Bool.eq_false_iff.mpr c10
        subst c10
        have H1 : (sha_Root.l0 k1 a0 true (Go.bits .or .u64 x5_1 (ji6)) (wrap64 (x8_1 + 1))) = some r := by rw [if_neg (show ¬ (false = true) by decide)] at H; exact H
        clear H
        have H := H1
        clear H1
        have H' := Aside0.mk H
        clear H
        go_wp2_with (first | (go_at_call 68; (with_reducible refine (sha_aboveCube.calls (Go.bits .or .u64 x5_1 (ji6)) (IntKind.u64.wrap (a0)) false _ A9.out).mono ?_); rintro e w' ⟨rfl, ⟨nd, rfl⟩⟩))
        go_roundg k1
        case measure => have := HK1.out; omega
        case rel => exact ⟨(Go.bits .or .u64 x5_1 (ji6)), (wrap64 (x8_1 + 1)), (by first | rfl | (simp; done) | (simp only [← hji6] <;> (first | rfl | simp)) | (simp [*]; done)), (by first | rfl | (simp; done) | (simp [*]; done)), H', ⟨by have := HK1.out; omega⟩, by repeat (first | exact Drawn0.refl _ | apply Drawn0.step)⟩
      ·rw [if_neg c8] at H
       have c8b0 : decide ((Go.bits .or .u64 x5_1 (ji6)) < 17592186044416) = false := decide_eq_false c8
       clear c8
       have H' := Aside0.mk H
       clear H
       go_wp2
       go_roundg k1
       case measure => have := HK1.out; omega
       case rel => exact ⟨(x5_1), (wrap64 (x8_1 + 1)), (by first | rfl | (simp; done) | (simp [*]; done)), (by first | rfl | (simp; done) | (simp [*]; done)), H', ⟨by have := HK1.out; omega⟩, by repeat (first | exact Drawn0.refl _ | apply Drawn0.step)⟩
     ·replace c7 := Bool.eq_false_iff.mpr c7
      subst c7
      have H1 : ((sha_above.f (Go.bits .or .u64 x5_1 (ji6)) (IntKind.u64.wrap (a0))).bind fun t111 => (if t111 = true then (sha_Root.l0 k1 a0 false x5_1 (wrap64 (x8_1 + 1))) else (sha_Root.l0 k1 a0 false (Go.bits .or .u64 x5_1 (ji6)) (wrap64 (x8_1 + 1))))) = some r := by rw [if_neg (show ¬ (false = true) by decide)] at H; exact H
      clear H
      have H := H1
      clear H1
      replace H := Option.bind_eq_some_iff.mp H
      obtain ⟨t111, A110, H⟩ := H
      replace H : (if t111 = true then (sha_Root.l0 k1 a0 false x5_1 (wrap64 (x8_1 + 1))) else (sha_Root.l0 k1 a0 false (Go.bits .or .u64 x5_1 (ji6)) (wrap64 (x8_1 + 1)))) = some r := H
      have A11 := Aside0.mk A110
      clear A110
      by_cases c12 : t111 = true
      ·subst c12
       have H1 : (sha_Root.l0 k1 a0 false x5_1 (wrap64 (x8_1 + 1))) = some r := by rw [if_pos rfl] at H; exact H
       clear H
       have H := H1
       clear H1
       have H' := Aside0.mk H
       clear H
       go_wp2_with (first | (go_at_call 69; (with_reducible refine (sha_above.calls (Go.bits .or .u64 x5_1 (ji6)) (IntKind.u64.wrap (a0)) true _ A11.out).mono ?_); rintro e w' ⟨rfl, ⟨nd, rfl⟩⟩))
       go_roundg k1
       case measure => have := HK1.out; omega
       case rel => exact ⟨(x5_1), (wrap64 (x8_1 + 1)), (by first | rfl | (simp; done) | (simp [*]; done)), (by first | rfl | (simp; done) | (simp [*]; done)), H', ⟨by have := HK1.out; omega⟩, by repeat (first | exact Drawn0.refl _ | apply Drawn0.step)⟩
      ·replace c12 := Bool.eq_false_iff.mpr c12
       subst c12
       have H1 : (sha_Root.l0 k1 a0 false (Go.bits .or .u64 x5_1 (ji6)) (wrap64 (x8_1 + 1))) = some r := by rw [if_neg (show ¬ (false = true) by decide)] at H; exact H
       clear H
       have H := H1
       clear H1
       have H' := Aside0.mk H
       clear H
       go_wp2_with (first | (go_at_call 69; (with_reducible refine (sha_above.calls (Go.bits .or .u64 x5_1 (ji6)) (IntKind.u64.wrap (a0)) false _ A11.out).mono ?_); rintro e w' ⟨rfl, ⟨nd, rfl⟩⟩))
       go_roundg k1
       case measure => have := HK1.out; omega
       case rel => exact ⟨(Go.bits .or .u64 x5_1 (ji6)), (wrap64 (x8_1 + 1)), (by first | rfl | (simp; done) | (simp only [← hji6] <;> (first | rfl | simp)) | (simp [*]; done)), (by first | rfl | (simp; done) | (simp [*]; done)), H', ⟨by have := HK1.out; omega⟩, by repeat (first | exact Drawn0.refl _ | apply Drawn0.step)⟩
    ·rw [if_neg c5] at H
     exact absurd H (by simp)
   ·rw [if_neg c3] at H
    have c3b0 : decide (x8_1 < 49) = false := decide_eq_false c3
    clear c3
    obtain rfl := Option.some.inj H
    go_wp2
    go_ret
    exact ⟨by first | rfl | (simp; done) | (simp [*]; done), by repeat (first | exact Drawn0.refl _ | apply Drawn0.step)⟩
end Go.Proofs.Ytcdnmlfnfhoieaa.A

/- Small plain lemmas on wrapping that the walks use. No condition. -/
namespace Go.Proofs.Ytcdnmlfnfhoieaa.Bs
open Go.RowKit
theorem wrap_u64 (n : Int) (h0 : 0 ≤ n) (h1 : n < 18446744073709551616) : IntKind.u64.wrap n = n := by
 unfold IntKind.wrap
 have e : (2 : Int) ^ IntKind.u64.bits = 18446744073709551616 := by decide
 have s : IntKind.u64.signed = false := rfl
 simp only [e, s, Bool.false_and]
 rw [if_neg (by simp)]
 omega
theorem wrap64_id (n : Int) (h0 : -9223372036854775808 ≤ n) (h1 : n ≤ 9223372036854775807) : wrap64 n = n := by
 unfold wrap64
 omega
end Go.Proofs.Ytcdnmlfnfhoieaa.Bs

/- Frames: what a call leaves as it was (all blocks but those of a set), and how frames are put together. No condition. -/
namespace Go.Proofs.Ytcdnmlfnfhoieaa.Bs
open Go.RowKit Go.Proofs.YtcdnmlfnfhoieaaW.PrintWords Go.Proofs.YtcdnmlfnfhoieaaW.PrintLast Go.Proofs.YtcdnmlfnfhoieaaW.PrintMore
/-- All that was there is as_ it was, but the blocks of S; the streams are as_ they were. -/
structure Fr (w w' : World) (S : Nat → Prop) : Prop where
  os : w'.os = w.os
  tape : w'.tape = w.tape
  output : w'.output = w.output
  size : w.heap.size ≤ w'.heap.size
  block : ∀ i, i < w.heap.size → ¬ S i → w'.heap[i]? = w.heap[i]?
section
variable {w w1 w2 : World} {S S2 S' : Nat → Prop}
theorem Fr.refl (w : World) (S : Nat → Prop) : Fr w w S := ⟨rfl, rfl, rfl, Nat.le_refl _, fun _ _ _ => rfl⟩
theorem Fr.trans (h : Fr w w1 S) (k : Fr w1 w2 S2) (hs : ∀ k, S2 k → S k ∨ w.heap.size ≤ k) : Fr w w2 S :=
  ⟨k.os.trans h.os, k.tape.trans h.tape, k.output.trans h.output, Nat.le_trans h.size k.size,
   fun i hi hn => (k.block i (Nat.lt_of_lt_of_le hi h.size) (fun h2 => (hs i h2).elim hn (fun h3 => by omega))).trans (h.block i hi hn)⟩
theorem Fr.mono (h : Fr w w1 S) (hs : ∀ k, S k → S' k) : Fr w w1 S' := ⟨h.os, h.tape, h.output, h.size, fun i hi hn => h.block i hi (fun hk => hn (hs i hk))⟩
theorem Fr.of_below (h : Below w.heap.size w w1) (S : Nat → Prop) : Fr w w1 S := ⟨h.os, h.tape, h.output, h.size, fun i hi _ => h.block i hi⟩
theorem Fr.below (h : Fr w w1 S) (hb : Below w1.heap.size w1 w2) : Fr w w2 S := h.trans (Fr.of_below hb (fun _ => False)) (fun _ hk => hk.elim)
theorem Fr.alloc (h : Fr w w1 S) (o : Obj) : Fr w (w1.alloc o) S := h.below (below_alloc (Below.refl _ _) o)
theorem Fr.drew (h : Fr w w1 S) : Fr w w1.drew S := ⟨h.os, h.tape, h.output, h.size, h.block⟩
theorem Fr.drewN (h : Fr w w1 S) (n : Nat) : Fr w (w1.drewN n) S := ⟨h.os, h.tape, h.output, h.size, h.block⟩
theorem Fr.setCell (h : Fr w w1 S) {p : Addr} (hp : S p.block ∨ w.heap.size ≤ p.block) (u : Value) : Fr w (w1.setCell p u) S :=
  h.trans (S2 := fun k => k = p.block) ⟨rfl, rfl, rfl, by simp [World.setCell], fun i _ hn => Below.heap_setCell w1 p u i hn⟩ (fun k hk => by rw [hk]; exact hp)
theorem Fr.grown (h : Fr w w1 S) {row : Option Nat} (hg : w1.grownBy w2 row) (hr : ∀ k, row = some k → S k ∨ w.heap.size ≤ k) : Fr w w2 S :=
  h.trans (S2 := fun k => row = some k) ⟨hg.os, hg.tape, hg.output, hg.size, fun i hi hn => hg.block i hi (fun he => hn he.symm)⟩ hr
/-- What lies from B on alone was written: below B all is as_ it was. -/
theorem Fr.to_below (h : Fr w w1 S) {B : Nat} (hB : B ≤ w.heap.size) (hS : ∀ k, S k → B ≤ k) : Below B w w1 :=
  ⟨h.os, h.tape, h.output, h.size, fun i hi => h.block i (by omega) (fun hk => by have := hS i hk; omega)⟩
theorem Fr.blk {g : Nat} {o : Obj} (h : Fr w w1 S) (hb : w.heap[g]? = some o) (hne : ¬ S g) : w1.heap[g]? = some o := (h.block g (blk_lt hb) hne).trans hb
theorem Fr.cell {a : Addr} {v : Value} (h : Fr w w1 S) (hc : w.cell? a = some v) (hne : ¬ S a.block) : w1.cell? a = some v := by
  have := h.block a.block (World.block_lt_of_cell? w a hc) hne
  simpa [World.cell?, this] using hc
theorem Fr.kept (h : Fr w w1 S) : Kept w w1 S := ⟨h.size, h.block⟩
end
theorem R_shape {α : Type} {d : Kd α} {e : Nat} {w : World} {base : Nat} {ok : Nat → Prop} {v : Value} {xs : List α} (h : d.R e w base ok v xs) : ∃ A n c, v = .slice A n c := by
  obtain ⟨A, c, e, _⟩ := Kd.R_reads h
  exact ⟨A, _, c, e⟩
section
variable {P : Program} {o : Oper} {a : Act} {Q' : Exit → Act → World → Prop} {Kc : Act → World → Prop} {α : Type}
end
/-- Where a row of whole numbers lies. -/
theorem C_int_lit {k : IntKind} {w : World} {A : Option Addr} {n : Nat} {xs : List Int} (h : Kd.C (Kd.int k) w A n xs) (hn : 0 < n) : ∃ b o, A = some ⟨b, o, none⟩ ∧ b < w.heap.size ∧ ∀ j, j < n → w.cell? ⟨b, o + j, none⟩ = some (.int k (xs.getD j 0)) := by
  have h2 := h
  obtain ⟨hl, _, hc⟩ := h2
  obtain ⟨ad, rfl, _⟩ := hc hn
  have hcell : ∀ j, j < n → w.cell? (ad.add j) = some (.int k (xs.getD j 0)) := by
    intro j hj
    obtain ⟨ad', c, e, _, hK, hcc⟩ := Kd.C_get h 0 j (by omega) (by omega)
    cases e
    have hK' : c = [.int k (xs.getD (j : Int).toNat 0)] := hK
    subst hK'
    have := hcc 0 _ rfl
    rw [Int.toNat_natCast, show (Kd.int k).sz = 1 from rfl, Nat.mul_one, Nat.add_zero] at this
    exact this
  obtain ⟨b, o, s⟩ := ad
  have h0 := hcell 0 hn
  have hs : s = none := by
    cases s with
    | none => rfl
    | some s =>
      exfalso
      unfold Addr.add at h0
      simp [World.cell?] at h0
      split at h0 <;> simp at h0
  subst hs
  refine ⟨b, o, rfl, ?_, fun j hj => ?_⟩
  · have := World.block_lt_of_cell? w _ h0
    rwa [add_block] at this
  · have := hcell j hj
    rwa [add_at] at this
end Go.Proofs.Ytcdnmlfnfhoieaa.Bs

/- sha.roots: the 64 words, walked. No condition. -/
namespace Go.Proofs.Ytcdnmlfnfhoieaa.A
open Go.RowKit Go.Proofs.YtcdnmlfnfhoieaaW.PrintWords Go.Proofs.YtcdnmlfnfhoieaaW.PrintLast Go.Proofs.YtcdnmlfnfhoieaaW.PrintMore Go.Proofs.Ytcdnmlfnfhoieaa.Bs
set_option linter.unusedVariables false
set_option linter.unusedSimpArgs false
/-- Words of 32 bits as_ cells. -/
def cs32 (K : List Int) : Array Value := (K.map (Value.int .u32)).toArray
theorem cs32_size (K : List Int) : (cs32 K).size = K.length := by simp [cs32]
theorem cs32_get (K : List Int) (i : Nat) (h : i < K.length) : (cs32 K)[i]? = some (.int .u32 (K.getD i 0)) := by
 simp [cs32, List.getD_eq_getElem?_getD, h]
theorem cs32_all (K : List Int) : (cs32 K).all (·.oneCell') = true := by
 simp [cs32, Value.oneCell']
theorem setRow_other (w : World) (g i : Nat) (cs : Array Value) (h : i ≠ g) : (w.setRow g cs).heap[i]? = w.heap[i]? := by
 unfold World.setRow
 simp only [Array.getElem?_modify]
 rw [if_neg (fun e => h e.symm)]
theorem below_setRow {w : World} {g : Nat} {cs : Array Value} {B : Nat} (h : B ≤ g) : Below B w (w.setRow g cs) :=
 ⟨rfl, rfl, rfl, by rw [size_setRow]; exact Nat.le_refl _, fun i hi => setRow_other w g i cs (by omega)⟩
theorem cs32_set (K : List Int) (i : Nat) (n : Int) : (cs32 K).setIfInBounds i (.int .u32 n) = cs32 (K.set i n) := by
 simp [cs32]
/-- Is no number from d on, whose square is up to p, a divisor of p? -/
def wholeL : Nat → Int → Int → Bool → Option Bool
 | 0, _, _, _ => none
 | k + 1, p, d, b => if (d * d) % 4294967296 ≤ p then (if b then (if d = 0 then none else wholeL k p ((d + 1) % 4294967296) (Int.tmod p d != 0)) else wholeL k p ((d + 1) % 4294967296) false) else some b
def rootsL : Nat → Nat → Int → List Int → Option (List Int)
 | 0, _, _, _ => none
 | k + 1, n, p, K => if n < 64 then (wholeL k p 2 true).bind fun b => if b then (sha_Root.f k p true).bind fun r => rootsL k (n + 1) ((p + 1) % 4294967296) (K.set n r) else rootsL k n ((p + 1) % 4294967296) K else some K
def K64 : List Int := [1116352408, 1899447441, 3049323471, 3921009573, 961987163, 1508970993, 2453635748, 2870763221, 3624381080, 310598401, 607225278, 1426881987, 1925078388, 2162078206, 2614888103, 3248222580, 3835390401, 4022224774, 264347078, 604807628, 770255983, 1249150122, 1555081692, 1996064986, 2554220882, 2821834349, 2952996808, 3210313671, 3336571891, 3584528711, 113926993, 338241895, 666307205, 773529912, 1294757372, 1396182291, 1695183700, 1986661051, 2177026350, 2456956037, 2730485921, 2820302411, 3259730800, 3345764771, 3516065817, 3600352804, 4094571909, 275423344, 430227734, 506948616, 659060556, 883997877, 958139571, 1322822218, 1537002063, 1747873779, 1955562222, 2024104815, 2227730452, 2361852424, 2428436474, 2756734187, 3204031479, 3329325298]
set_option maxRecDepth 100000 in
theorem roots_some : rootsL 400 0 2 (List.replicate 64 0) = some K64 := by kernel_rfl
set_option maxHeartbeats 1000000 in
set_option maxRecDepth 100000 in
theorem sha_roots.calls (w : World) : Calls Try.prog 70 #[] w fun e w' => e = .returned (.agg (cs32 K64)) ∧ Below w.heap.size w w' := by
 have hK := roots_some
 have hk4 : (400 : Nat) ≤ 400 := Nat.le_refl _
 generalize K64 = KR at hK ⊢
 generalize hkk : (400 : Nat) = kk at hK
 have HK := Aside0.mk hK
 clear hK hkk
 have hu106 := Try.underlying106
 go_enter Try.func70, Try.ntmps70
 go_upto_region 2 with (first | ((with_reducible refine gate_dst (N := 0) rfl ?_); refine box_event ?hg (N := 0) ?hd (cs := cs32 (List.replicate 64 0)) (t := 106) ?hr ?_; (case hd => rfl); (case hg => rfl); (case hr => first | (go_simp; done) | (go_simp; rfl)); intro g0 hg0 w0 hb0 hbel0; have HG0 := Aside0.mk hg0; have HB0 := Aside0.mk hb0; have HL0 := Aside0.mk hbel0; clear hg0 hb0 hbel0) | ((with_reducible refine gate_dst (N := 1) rfl ?_); refine box_event ?hg (N := 1) ?hd (cs := cs32 (List.replicate 64 0)) (t := 106) ?hr ?_; (case hd => rfl); (case hg => rfl); (case hr => first | (go_simp; done) | (go_simp; rfl)); intro g1 hg1 w1 hb1 hbel1; have HG1 := Aside0.mk hg1; have HB1 := Aside0.mk hb1; have HL1 := Aside0.mk hbel1; clear hg1 hb1 hbel1))
 have HS0 : Aside0 (w1.heap[g0]? = some (.cells (cs32 (List.replicate 64 0)) 106 (0, 0))) := ⟨blk_below HB0.out HL1.out⟩
 have HL : Aside0 (Below w.heap.size w w1) := ⟨below_step HL0.out HL1.out⟩
 have HGE0 : Aside0 (w.heap.size ≤ g0) := ⟨by rw [HG0.out]; exact Nat.le_refl _⟩
 have HGE1 : Aside0 (w.heap.size ≤ g1) := ⟨by rw [HG1.out]; exact below_size HL0.out⟩
 have HNE : Aside0 (g0 ≠ g1) := ⟨by rw [HG1.out]; exact Nat.ne_of_lt (blk_lt HB0.out)⟩
 clear HB0 HL0 HL1 HG0 HG1
 go_wp2
 go_loopg [2, 3] kk (fun kq v2 v3 w' => ∃ (n : Nat) (p : Int) (K : List Int), v2 = .int .i64 n ∧ v3 = .int .u32 p ∧ Aside0 (rootsL kq n p K = some KR) ∧ Aside0 (K.length = 64) ∧ Aside0 (w'.heap[g0]? = some (.cells (cs32 (List.replicate 64 0)) 106 (0, 0))) ∧ Aside0 (w'.heap[g1]? = some (.cells (cs32 K) 106 (0, 0))) ∧ Aside0 (Below w.heap.size w w'))
 case atStart => exact ⟨0, 2, _, rfl, rfl, HK, ⟨by simp⟩, HS0, HB1, HL⟩
 case round =>
  clear HK HS0 HB1 HL
  obtain ⟨n, p, K, rfl, rfl, HK, HLEN, HS0, HB1, HL⟩ := hrel
  cases gk with
  | zero => exact absurd HK.out (by simp [rootsL])
  | succ k =>
   have H := HK.out
   clear HK
   simp only [rootsL] at H
   by_cases hn : n < 64
   ·rw [if_pos hn] at H
    have hn1 : decide ((n : Int) < 64) = true := decide_eq_true (by omega)
    obtain ⟨b, hb, H⟩ := Option.bind_eq_some_iff.mp H
    have HW := Aside0.mk hb
    have HN := Aside0.mk hn
    clear hb hn
    have H' := Aside0.mk H
    clear H
    go_wp2
    go_loopg [4, 5] k (fun kq v4 v5 w' => ∃ (x : Bool) (d : Int), v4 = .bool x ∧ v5 = .int .u32 d ∧ Aside0 (wholeL kq p d x = some b) ∧ w' = wr)
    case atStart => exact ⟨true, 2, rfl, rfl, HW, rfl⟩
    case round =>
     clear HW
     obtain ⟨x, d, rfl, rfl, HW, rfl⟩ := hrel
     cases gk with
     | zero => exact absurd HW.out (by simp [wholeL])
     | succ k2 =>
      have G := HW.out
      clear HW
      simp only [wholeL] at G
      by_cases c5 : ((d * d) % 4294967296) ≤ p
      ·rw [if_pos c5] at G
       have c5b0 : decide (((d * d) % 4294967296) ≤ p) = true := decide_eq_true c5
       clear c5
       cases x with
       | true =>
        rw [if_pos rfl] at G
        by_cases c7 : d = 0
        ·rw [if_pos c7] at G
         exact absurd G (by simp)
        ·rw [if_neg c7] at G
         have c7b0 : (d == 0) = false := beq_eq_false_iff_ne.mpr c7
         have c7b1 : (d != 0) = true := bne_iff_ne.mpr c7
         have G' := Aside0.mk G
         clear G
         go_wp2
         go_roundg k2
         case measure => omega
         case rel => exact ⟨(Int.tmod p d != 0), (d + 1) % 4294967296, (by first | rfl | (simp; done) | (simp [*]; done)), (by first | rfl | (simp; done) | (simp [*]; done)), G', rfl⟩
       | false =>
        rw [if_neg (by simp)] at G
        have G' := Aside0.mk G
        clear G
        go_wp2
        go_roundg k2
        case measure => omega
        case rel => exact ⟨false, (d + 1) % 4294967296, (by first | rfl | (simp; done) | (simp [*]; done)), (by first | rfl | (simp; done) | (simp [*]; done)), G', rfl⟩
      ·rw [if_neg c5] at G
       have c5b0 : decide (((d * d) % 4294967296) ≤ p) = false := decide_eq_false c5
       clear c5
       obtain rfl := Option.some.inj G
       have H := H'.out
       clear H' G
       cases x with
       | true =>
        rw [if_pos rfl] at H
        obtain ⟨r, hr, H⟩ := Option.bind_eq_some_iff.mp H
        have HR := Aside0.mk hr
        clear hr
        have H' := Aside0.mk H
        clear H
        have f1 : ∀ i, wr.frozen? ⟨g1, i, none⟩ = false := fun i => blk_frozen HB1.out i
        have c1 : wr.cell? ⟨g1, n, none⟩ = some (.int .u32 (K.getD n 0)) := by rw [blk_cell HB1.out n]; exact cs32_get K n (by rw [HLEN.out]; exact HN.out)
        have hp := eq_true (show (0 : Int) ≤ (n : Int) by omega)
        have hq := eq_true (show (n : Int) < 64 by have := HN.out; omega)
        go_wp2_with fail
        refine (sha_Root.calls k p true r _ HR.out).mono ?_
        rintro e w2 ⟨rfl, ⟨nd, rfl⟩⟩
        go_wp2
        go_roundg k
        case measure => omega
        case rel => exact ⟨n + 1, (p + 1) % 4294967296, K.set n r, (by have := HN.out; show Value.int .i64 (wrap64 ((n : Int) + 1)) = _; rw [wrap64_id _ (by omega) (by omega)]; rfl), (by first | rfl | (simp; done) | (simp [*]; done)), H', ⟨by rw [List.length_set]; exact HLEN.out⟩, ⟨blk_far (blk_drewN HS0.out nd) HNE.out _⟩, ⟨by rw [← cs32_set]; exact blk_set (blk_drewN HB1.out nd) n _⟩, ⟨below_set (pw_below_drewN HL.out nd) HGE1.out⟩⟩
       | false =>
        rw [if_neg (by simp)] at H
        have H' := Aside0.mk H
        clear H
        go_wp2
        go_roundg k
        case measure => omega
        case rel => exact ⟨n, (p + 1) % 4294967296, K, rfl, (by first | rfl | (simp; done) | (simp [*]; done)), H', HLEN, HS0, HB1, HL⟩
   ·rw [if_neg hn] at H
    have hn1 : decide ((n : Int) < 64) = false := decide_eq_false (by omega)
    clear hn
    obtain rfl := Option.some.inj H
    clear H
    have HI : Aside0 ((Try.prog.info? 106).map (·.size) = some (cs32 K).size) := ⟨by rw [cs32_size, HLEN.out]; kernel_rfl⟩
    have HO : Aside0 ((cs32 (List.replicate 64 0)).size = (cs32 K).size) := ⟨by rw [cs32_size, cs32_size, HLEN.out]; simp⟩
    have HA : Aside0 ((cs32 K).all (·.oneCell') = true) := ⟨cs32_all K⟩
    go_wp2_with (first | ((with_reducible refine gate_dst (N := 31) rfl ?_); refine wpList_load_row rfl 106 (.tmp 1) rfl g1 rfl 106 (cs32 K) (0, 0) _ HB1.out hu106 rfl HI.out ?_) | (refine gate_ (.store 106 (.tmp 0) (.tmp 31)) rfl ?_; refine wpList_store_row rfl 106 (.tmp 0) (.tmp 31) rfl g0 (cs32 K) rfl rfl 106 _ HS0.out HI.out HO.out HA.out ?_))
    refine bodyPost_ret_by (results_cell_row rfl _ _ g0 106 (cs32 K) (0, 0) _ rfl (setRow_heap _ _ _ _ _ _ HS0.out) hu106 rfl HI.out) rfl ?_
    exact ⟨rfl, HL.out.trans (below_setRow HGE0.out)⟩
end Go.Proofs.Ytcdnmlfnfhoieaa.A

/- What sha.mix reckons, plainly. No condition. -/
namespace Go.Proofs.Ytcdnmlfnfhoieaa.A
open Go.RowKit Go.Proofs.YtcdnmlfnfhoieaaW.PrintWords Go.Proofs.YtcdnmlfnfhoieaaW.PrintLast Go.Proofs.YtcdnmlfnfhoieaaW.PrintMore Go.Proofs.Ytcdnmlfnfhoieaa.Bs
def turnP (x n : Int) : Int := Go.bits .or .u32 (shl .u32 x (Go.bits .and .u64 (IntKind.u64.wrap (wrap64 (-n))) 31)) (shr .u32 x (IntKind.u64.wrap (32 - (Go.bits .and .u64 (IntKind.u64.wrap (wrap64 (-n))) 31))))
theorem turn_some (x n : Int) (h1 : 0 ≤ Go.bits .and .u64 (IntKind.u64.wrap (wrap64 (-n))) 31) (h2 : 0 ≤ (IntKind.u64.wrap (32 - (Go.bits .and .u64 (IntKind.u64.wrap (wrap64 (-n))) 31)))) : sha_turn.f x n = some (turnP x n) := by
 unfold sha_turn.f bits_RotateLeft32.f
 rw [if_pos h1, if_pos h2]
 rfl
theorem turn2 (x : Int) : sha_turn.f x 2 = some (turnP x 2) := turn_some x 2 (by decide +kernel) (by decide +kernel)
theorem turn6 (x : Int) : sha_turn.f x 6 = some (turnP x 6) := turn_some x 6 (by decide +kernel) (by decide +kernel)
theorem turn7 (x : Int) : sha_turn.f x 7 = some (turnP x 7) := turn_some x 7 (by decide +kernel) (by decide +kernel)
theorem turn11 (x : Int) : sha_turn.f x 11 = some (turnP x 11) := turn_some x 11 (by decide +kernel) (by decide +kernel)
theorem turn13 (x : Int) : sha_turn.f x 13 = some (turnP x 13) := turn_some x 13 (by decide +kernel) (by decide +kernel)
theorem turn17 (x : Int) : sha_turn.f x 17 = some (turnP x 17) := turn_some x 17 (by decide +kernel) (by decide +kernel)
theorem turn18 (x : Int) : sha_turn.f x 18 = some (turnP x 18) := turn_some x 18 (by decide +kernel) (by decide +kernel)
theorem turn19 (x : Int) : sha_turn.f x 19 = some (turnP x 19) := turn_some x 19 (by decide +kernel) (by decide +kernel)
theorem turn22 (x : Int) : sha_turn.f x 22 = some (turnP x 22) := turn_some x 22 (by decide +kernel) (by decide +kernel)
theorem turn25 (x : Int) : sha_turn.f x 25 = some (turnP x 25) := turn_some x 25 (by decide +kernel) (by decide +kernel)
theorem inc64 (n : Nat) (h : n < 9223372036854775807) : Value.int .i64 (wrap64 ((n : Int) + 1)) = .int .i64 ((n + 1 : Nat) : Int) := by
 rw [wrap64_id _ (by omega) (by omega)]
 rfl
/-- One more byte behind a word. -/
def byteP (v b : Int) : Int := Go.bits .or .u32 (v * 256 % 4294967296) (b % 4294967296)
/-- The t-th word, its first i bytes put in. -/
def partP (B : List Int) (v : Int) (t : Nat) : Nat → Int
 | 0 => v
 | i + 1 => byteP (partP B v t i) (B.getD (4 * t + i) 0)
def lowP (x : Int) : Int := Go.bits .xor .u32 (Go.bits .xor .u32 (turnP x 7) (turnP x 18)) (x / 8)
def highP (x : Int) : Int := Go.bits .xor .u32 (Go.bits .xor .u32 (turnP x 17) (turnP x 19)) (x / 1024)
def nextP (B W : List Int) (t : Nat) : Int :=
 if t < 16 then partP B (W.getD t 0) t 4 else (W.getD (t - 16) 0 + W.getD (t - 7) 0 + lowP (W.getD (t - 15) 0) + highP (W.getD (t - 2) 0)) % 4294967296
def schedP (B : List Int) : Nat → List Int
 | 0 => List.replicate 64 0
 | t + 1 => (schedP B t).set t (nextP B (schedP B t) t)
theorem schedP_length (B : List Int) : ∀ t, (schedP B t).length = 64
 | 0 => by simp [schedP]
 | t + 1 => by rw [schedP, List.length_set, schedP_length B t]
structure R8 where
 a : Int
 b : Int
 c : Int
 d : Int
 e : Int
 f : Int
 g : Int
 h : Int
def uP (k x : Int) (z : R8) : Int := (z.h + Go.bits .xor .u32 (Go.bits .xor .u32 (turnP z.e 6) (turnP z.e 11)) (turnP z.e 25) + Go.bits .xor .u32 (Go.bits .and .u32 z.e z.f) (Go.bits .and .u32 (Go.bits .xor .u32 IntKind.u32.max z.e) z.g) + k + x) % 4294967296
def vP (z : R8) : Int := (Go.bits .xor .u32 (Go.bits .xor .u32 (turnP z.a 2) (turnP z.a 13)) (turnP z.a 22) + Go.bits .xor .u32 (Go.bits .xor .u32 (Go.bits .and .u32 z.a z.b) (Go.bits .and .u32 z.a z.c)) (Go.bits .and .u32 z.b z.c)) % 4294967296
def roundP (k x : Int) (z : R8) : R8 := ⟨(uP k x z + vP z) % 4294967296, z.a, z.b, z.c, (z.d + uP k x z) % 4294967296, z.e, z.f, z.g⟩
def roundsP (K W : List Int) (z : R8) : Nat → R8
 | 0 => z
 | t + 1 => roundP (K.getD t 0) (W.getD t 0) (roundsP K W z t)
def ofL (S : List Int) : R8 := ⟨S.getD 0 0, S.getD 1 0, S.getD 2 0, S.getD 3 0, S.getD 4 0, S.getD 5 0, S.getD 6 0, S.getD 7 0⟩
def R8.toL (z : R8) : List Int := [z.a, z.b, z.c, z.d, z.e, z.f, z.g, z.h]
def addP (S Z : List Int) : Nat → List Int
 | 0 => S
 | i + 1 => (addP S Z i).set i (((addP S Z i).getD i 0 + Z.getD i 0) % 4294967296)
theorem addP_length (S Z : List Int) : ∀ i, (addP S Z i).length = S.length
 | 0 => rfl
 | i + 1 => by rw [addP, List.length_set, addP_length S Z i]
/-- A state mixed with a block. -/
def mixP (K S B : List Int) : List Int := addP S (roundsP K (schedP B 64) (ofL S) 64).toL 8
theorem mixP_length (K S B : List Int) : (mixP K S B).length = S.length := addP_length _ _ _
end Go.Proofs.Ytcdnmlfnfhoieaa.A

/- sha.mix, walked. Conditions: the block has 64 bytes, the state 8 words. -/
namespace Go.Proofs.Ytcdnmlfnfhoieaa.A
open Go.RowKit Go.Proofs.YtcdnmlfnfhoieaaW.PrintWords Go.Proofs.YtcdnmlfnfhoieaaW.PrintLast Go.Proofs.YtcdnmlfnfhoieaaW.PrintMore Go.Proofs.Ytcdnmlfnfhoieaa.Bs
set_option linter.unusedVariables false
set_option linter.unusedSimpArgs false
theorem index_words {Z : List Int} {n : Nat} {t e : TypeId} (hu : Try.prog.underlying t = some (.array n e)) (hs : (Try.prog.info? e).map (·.size) = some 1) (he : Try.prog.underlying e = some (.int .u32)) (i : Nat) (hi : i < n) (hz : i < Z.length) (w : World) :
  (Instr.index t (.agg (cs32 Z)) (.int .i64 (i : Int))).run Try.prog w = .ok (.int .u32 (Z.getD i 0)) w := by
 have h1 := cs32_get Z i hz
 obtain ⟨j, hj, hsz⟩ := Option.map_eq_some_iff.1 hs
 have p1 := eq_true (show (0 : Int) ≤ (i : Int) by omega)
 have p2 := eq_true (show (i : Int) < (n : Int) by omega)
 simp [Instr.index, asIntOf, run_underlying hu, p2, sizeOf, typeInfo, hj, hsz, part, isAgg, run_underlying he, h1]
 intro hni
 omega
theorem turn_q {w : World} {x n r : Int} {m : Nat} (h : sha_turn.f x n = some r) : Calls Try.prog 101 #[.int .u32 x, .int .i64 n] (w.drewN m) fun e w'' => e = .returned (.int .u32 r) ∧ ∃ k, w'' = w.drewN k :=
 (sha_turn.calls x n r _ h).mono fun _ _ ⟨he, hm⟩ => ⟨he, by obtain ⟨k, hk⟩ := hm; exact ⟨m + k, by rw [hk, World.drewN_drewN]⟩⟩
theorem turn_qa {w : World} {x n r : Int} {a m : Nat} (h : sha_turn.f x n = some r) : Calls Try.prog 101 #[.int .u32 x, .int .i64 n] (w.drewN (a + m)) fun e w'' => e = .returned (.int .u32 r) ∧ ∃ k, w'' = w.drewN (a + k) :=
 (sha_turn.calls x n r _ h).mono fun _ _ ⟨he, hm⟩ => ⟨he, by obtain ⟨k, hk⟩ := hm; exact ⟨m + k, by rw [hk, World.drewN_drewN, Nat.add_assoc]⟩⟩
theorem set_getD_self (l : List Int) (i : Nat) : l.set i (l.getD i 0) = l := by
 rcases Nat.lt_or_ge i l.length with h | h
 ·rw [List.getD_eq_getElem?_getD, List.getElem?_eq_getElem h]
  exact List.set_getElem_self _
 ·exact List.set_eq_of_length_le h
/-- The three variables' blocks, and all that was there ahead as_ it was. -/
structure MixSt (w w' : World) (g4 g6 g7 : Nat) (S W : List Int) : Prop where
 h4 : w'.heap[g4]? = some (.cells (cs32 S) 38 (0, 0))
 h6 : w'.heap[g6]? = some (.cells (cs32 (List.replicate 8 0)) 38 (0, 0))
 h7 : w'.heap[g7]? = some (.cells (cs32 W) 106 (0, 0))
 hl : Below w.heap.size w w'
theorem MixSt.drewN {w w' : World} {g4 g6 g7 : Nat} {S W : List Int} (h : MixSt w w' g4 g6 g7 S W) (n : Nat) : MixSt w (w'.drewN n) g4 g6 g7 S W :=
 ⟨blk_drewN h.h4 n, blk_drewN h.h6 n, blk_drewN h.h7 n, pw_below_drewN h.hl n⟩
theorem MixSt.set7 {w w' : World} {g4 g6 g7 : Nat} {S W : List Int} (h : MixSt w w' g4 g6 g7 S W) (h47 : g4 ≠ g7) (h67 : g6 ≠ g7) (hg : w.heap.size ≤ g7) (i : Nat) (n : Int) : MixSt w (w'.setCell ⟨g7, i, none⟩ (.int .u32 n)) g4 g6 g7 S (W.set i n) :=
 ⟨blk_far h.h4 h47 _, blk_far h.h6 h67 _, by rw [← cs32_set]; exact blk_set h.h7 i _, below_set h.hl hg⟩
theorem MixSt.set4 {w w' : World} {g4 g6 g7 : Nat} {S W : List Int} (h : MixSt w w' g4 g6 g7 S W) (h64 : g6 ≠ g4) (h74 : g7 ≠ g4) (hg : w.heap.size ≤ g4) (i : Nat) (n : Int) : MixSt w (w'.setCell ⟨g4, i, none⟩ (.int .u32 n)) g4 g6 g7 (S.set i n) W :=
 ⟨by rw [← cs32_set]; exact blk_set h.h4 i _, blk_far h.h6 h64 _, blk_far h.h7 h74 _, below_set h.hl hg⟩
theorem MixSt.c7 {w w' : World} {g4 g6 g7 : Nat} {S W : List Int} (h : MixSt w w' g4 g6 g7 S W) (i : Nat) (hi : i < W.length) : w'.cell? ⟨g7, i, none⟩ = some (.int .u32 (W.getD i 0)) := by rw [blk_cell h.h7 i]; exact cs32_get W i hi
theorem MixSt.c4 {w w' : World} {g4 g6 g7 : Nat} {S W : List Int} (h : MixSt w w' g4 g6 g7 S W) (i : Nat) (hi : i < S.length) : w'.cell? ⟨g4, i, none⟩ = some (.int .u32 (S.getD i 0)) := by rw [blk_cell h.h4 i]; exact cs32_get S i hi
set_option maxHeartbeats 8000000 in
set_option maxRecDepth 100000 in
theorem mix_walk {w : World} {gK b o c : Nat} {K S B : List Int} (hK : ∀ i, i < 64 → w.cell? ⟨gK, i, none⟩ = some (.int .u32 (K.getD i 0))) (hB : ∀ i, i < 64 → w.cell? ⟨b, o + i, none⟩ = some (.int .u8 (B.getD i 0))) (hS : S.length = 8) (hc : 64 ≤ c) :
  Calls Try.prog 71 #[.pointer (some ⟨gK, 0, none⟩), .agg (cs32 S), .slice (some ⟨b, o, none⟩) 64 c] w fun e w' => e = .returned (.agg (cs32 (mixP K S B))) ∧ Below w.heap.size w w' := by
 have HK := Aside0.mk hK
 have HB := Aside0.mk hB
 clear hK hB
 have hu106 := Try.underlying106
 have hu38 := Try.underlying38
 go_enter Try.func71, Try.ntmps71
 go_upto_region 3 with (first | ((with_reducible refine gate_dst (N := 4) rfl ?_); refine box_event ?hg (N := 4) ?hd (cs := cs32 S) (t := 38) ?hr ?_; (case hd => rfl); (case hg => rfl); (case hr => first | (go_simp; done) | (go_simp; rfl)); intro g4 hg4 w4 hb4 hbel4; have HG4 := Aside0.mk hg4; have HB4 := Aside0.mk hb4; have HL4 := Aside0.mk hbel4; clear hg4 hb4 hbel4) | ((with_reducible refine gate_dst (N := 6) rfl ?_); refine box_event ?hg (N := 6) ?hd (cs := cs32 (List.replicate 8 0)) (t := 38) ?hr ?_; (case hd => rfl); (case hg => rfl); (case hr => first | (go_simp; done) | (go_simp; rfl)); intro g6 hg6 w6 hb6 hbel6; have HG6 := Aside0.mk hg6; have HB6 := Aside0.mk hb6; have HL6 := Aside0.mk hbel6; clear hg6 hb6 hbel6) | ((with_reducible refine gate_dst (N := 7) rfl ?_); refine box_event ?hg (N := 7) ?hd (cs := cs32 (List.replicate 64 0)) (t := 106) ?hr ?_; (case hd => rfl); (case hg => rfl); (case hr => first | (go_simp; done) | (go_simp; rfl)); intro g7 hg7 w7 hb7 hbel7; have HG7 := Aside0.mk hg7; have HB7 := Aside0.mk hb7; have HL7 := Aside0.mk hbel7; clear hg7 hb7 hbel7))
 have HS : Aside0 (MixSt w w7 g4 g6 g7 S (schedP B 0)) := ⟨⟨blk_below (blk_below HB4.out HL6.out) HL7.out, blk_below HB6.out HL7.out, HB7.out, below_step (below_step HL4.out HL6.out) HL7.out⟩⟩
 have h46 : g4 ≠ g6 := by rw [HG6.out]; exact Nat.ne_of_lt (blk_lt HB4.out)
 have h47 : g4 ≠ g7 := by rw [HG7.out]; exact Nat.ne_of_lt (blk_lt (blk_below HB4.out HL6.out))
 have h67 : g6 ≠ g7 := by rw [HG7.out]; exact Nat.ne_of_lt (blk_lt HB6.out)
 have l4 : w.heap.size ≤ g4 := by rw [HG4.out]; exact Nat.le_refl _
 have l6 : w.heap.size ≤ g6 := by rw [HG6.out]; exact below_size HL4.out
 have l7 : w.heap.size ≤ g7 := by rw [HG7.out]; exact below_size (below_step HL4.out HL6.out)
 have N46 := Aside0.mk h46
 have N47 := Aside0.mk h47
 have N67 := Aside0.mk h67
 have L4 := Aside0.mk l4
 have L6 := Aside0.mk l6
 have L7 := Aside0.mk l7
 clear HB4 HB6 HB7 HL4 HL6 HL7 HG4 HG6 HG7 h46 h47 h67 l4 l6 l7
 go_loopg [26] 64 (fun kq v w' => ∃ t : Nat, v = .int .i64 t ∧ Aside0 (t + kq = 64) ∧ Aside0 (MixSt w w' g4 g6 g7 S (schedP B t)))
 case atStart => exact ⟨0, rfl, ⟨rfl⟩, HS⟩
 case round =>
  clear HS
  obtain ⟨t, rfl, HT, HS⟩ := hrel
  by_cases ht : t < 64
  ·have HT64 := Aside0.mk ht
   have d1 : decide ((t : Int) < 64) = true := decide_eq_true (by omega)
   by_cases h16 : t < 16
   ·have d2 : decide ((t : Int) < 16) = true := decide_eq_true (by omega)
    have H16 := Aside0.mk h16
    clear h16 ht
    obtain ⟨q, hq⟩ : ∃ q, 4 * t = q := ⟨_, rfl⟩
    obtain ⟨r, hr⟩ : ∃ r, q + 4 = r := ⟨_, rfl⟩
    have w1 : wrap64 (4 * (t : Int)) = (q : Int) := by have := H16.out; rw [wrap64_id _ (by omega) (by omega)]; omega
    have w2 : wrap64 ((q : Int) + 4) = (r : Int) := by have := H16.out; rw [wrap64_id _ (by omega) (by omega)]; omega
    have hqr : q ≤ r := by omega
    have hrc : r ≤ c := by have := H16.out; omega
    have hqc : ¬ c = q := by have := H16.out; omega
    have hrq : r - q = 4 := by omega
    have HQ := Aside0.mk hq
    have HR := Aside0.mk hr
    clear hq hr
    go_wp2
    go_loopg [39] 4 (fun kq v w' => ∃ i : Nat, v = .int .i64 i ∧ Aside0 (i + kq = 4) ∧ Aside0 (MixSt w w' g4 g6 g7 S ((schedP B t).set t (partP B ((schedP B t).getD t 0) t i))))
    case atStart => exact ⟨0, rfl, ⟨rfl⟩, ⟨by rw [partP, set_getD_self]; exact HS.out⟩⟩
    case round =>
     clear HS
     obtain ⟨i, rfl, HI, HS⟩ := hrel
     by_cases hi : i < 4
     ·have hx0 := HS.out.c7 t (by rw [List.length_set, schedP_length]; exact HT64.out)
      obtain ⟨x, hx⟩ : ∃ x, partP B ((schedP B t).getD t 0) t i = x := ⟨_, rfl⟩
      rw [hx, List.getD_eq_getElem?_getD, List.getElem?_set_self (by rw [schedP_length]; exact HT64.out)] at hx0
      have c7 : wr.cell? ⟨g7, t, none⟩ = some (.int .u32 x) := hx0
      have f7 : wr.frozen? ⟨g7, t, none⟩ = false := blk_frozen HS.out.h7 t
      have cB : wr.cell? ⟨b, o + q + i, none⟩ = some (.int .u8 (B.getD (4 * t + i) 0)) := by
       have := pw_cell_below HS.out.hl (HB.out (4 * t + i) (by have := H16.out; omega))
       rw [HQ.out, ← Nat.add_assoc] at this
       rw [HQ.out]
       exact this
      obtain ⟨bb, hbb⟩ : ∃ bb, B.getD (4 * t + i) 0 = bb := ⟨_, rfl⟩
      rw [hbb] at cB
      have HX := Aside0.mk hx
      have HBB := Aside0.mk hbb
      clear hx hx0 hbb
      have d3 : decide ((i : Int) < 4) = true := decide_eq_true (by omega)
      have p1 := eq_true (show (0 : Int) ≤ (i : Int) by omega)
      have p2 := eq_true (show (i : Int) < 4 by omega)
      have p3 := eq_true (show (0 : Int) ≤ (t : Int) by omega)
      have p4 := eq_true (show (t : Int) < 64 by have := HT64.out; omega)
      go_wp2
      go_roundg (gk - 1)
      case measure => have := HI.out; omega
      case rel => 
       refine ⟨i + 1, rfl, ⟨by have := HI.out; omega⟩, ⟨?_⟩⟩
       have := HS.out.set7 N47.out N67.out L7.out t (byteP x bb)
       rw [List.set_set] at this
       rw [partP, HX.out, HBB.out]
       exact this
     ·have hi4 : i = 4 := by have := HI.out; omega
      subst hi4
      go_wp2
      go_roundg (63 - t)
      case measure => have := HT.out; have := HT64.out; omega
      case rel =>
       refine ⟨t + 1, inc64 t (by have := HT64.out; omega), ⟨by have := HT64.out; omega⟩, ⟨?_⟩⟩
       have := HS.out
       rw [schedP, nextP, if_pos H16.out]
       exact this
   ·have d2 : decide ((t : Int) < 16) = false := decide_eq_false (by omega)
    have ht16 : 16 ≤ t := by omega
    obtain ⟨s, rfl⟩ : ∃ s, t = s + 16 := ⟨t - 16, by omega⟩
    have hs : s < 48 := by omega
    clear h16 ht ht16
    have hl := schedP_length B (s + 16)
    have c0 := HS.out.c7 s (by omega)
    have c1 := HS.out.c7 (s + 1) (by omega)
    have c9 := HS.out.c7 (s + 9) (by omega)
    have c14 := HS.out.c7 (s + 14) (by omega)
    have c16 := HS.out.c7 (s + 16) (by omega)
    have f16 : wr.frozen? ⟨g7, s + 16, none⟩ = false := blk_frozen HS.out.h7 (s + 16)
    obtain ⟨x0, hx0⟩ : ∃ x, (schedP B (s + 16)).getD s 0 = x := ⟨_, rfl⟩
    obtain ⟨x1, hx1⟩ : ∃ x, (schedP B (s + 16)).getD (s + 1) 0 = x := ⟨_, rfl⟩
    obtain ⟨x9, hx9⟩ : ∃ x, (schedP B (s + 16)).getD (s + 9) 0 = x := ⟨_, rfl⟩
    obtain ⟨x14, hx14⟩ : ∃ x, (schedP B (s + 16)).getD (s + 14) 0 = x := ⟨_, rfl⟩
    rw [hx0] at c0
    rw [hx1] at c1
    rw [hx9] at c9
    rw [hx14] at c14
    have HX : Aside0 (nextP B (schedP B (s + 16)) (s + 16) = (x0 + x9 + lowP x1 + highP x14) % 4294967296) := ⟨by rw [nextP, if_neg (by omega), ← hx0, ← hx1, ← hx9, ← hx14]; rfl⟩
    clear hx0 hx1 hx9 hx14
    have w15 : wrap64 (((s + 16 : Nat) : Int) - 15) = ((s + 1 : Nat) : Int) := by rw [wrap64_id _ (by omega) (by omega)]; omega
    have w2 : wrap64 (((s + 16 : Nat) : Int) - 2) = ((s + 14 : Nat) : Int) := by rw [wrap64_id _ (by omega) (by omega)]; omega
    have w7 : wrap64 (((s + 16 : Nat) : Int) - 7) = ((s + 9 : Nat) : Int) := by rw [wrap64_id _ (by omega) (by omega)]; omega
    have w16 : wrap64 (((s + 16 : Nat) : Int) - 16) = (s : Int) := by rw [wrap64_id _ (by omega) (by omega)]; omega
    have p1 := eq_true (show (0 : Int) ≤ ((s + 1 : Nat) : Int) by omega)
    have p2 := eq_true (show ((s + 1 : Nat) : Int) < 64 by omega)
    have p3 := eq_true (show (0 : Int) ≤ ((s + 14 : Nat) : Int) by omega)
    have p4 := eq_true (show ((s + 14 : Nat) : Int) < 64 by omega)
    go_wp2
    go_quiet ((first | exact turn_q (turn7 _) | exact turn_q (turn18 _) | exact turn_qa (turn7 _) | exact turn_qa (turn18 _)))
    go_wp2
    go_quiet ((first | exact turn_q (turn17 _) | exact turn_q (turn19 _) | exact turn_qa (turn17 _) | exact turn_qa (turn19 _)))
    go_wp2
    have p5 := eq_true (show (0 : Int) ≤ (s : Int) by omega)
    have p6 := eq_true (show (s : Int) < 64 by omega)
    have p7 := eq_true (show (0 : Int) ≤ ((s + 9 : Nat) : Int) by omega)
    have p8 := eq_true (show ((s + 9 : Nat) : Int) < 64 by omega)
    have p9 := eq_true (show (0 : Int) ≤ ((s + 16 : Nat) : Int) by omega)
    have p10 := eq_true (show ((s + 16 : Nat) : Int) < 64 by omega)
    go_region
    all_goals
     go_wp2
     go_roundg (63 - (s + 16))
     case measure => have := HT.out; have := HT64.out; omega
     case rel =>
      refine ⟨s + 16 + 1, rfl, ⟨by omega⟩, ⟨?_⟩⟩
      rw [schedP, HX.out]
      exact (HS.out.drewN _).set7 N47.out N67.out L7.out (s + 16) _
  ·have ht : t = 64 := by have := HT.out; omega
   subst ht
   have hK := HK.out
   obtain ⟨W, hW⟩ : ∃ W, schedP B 64 = W := ⟨_, rfl⟩
   have hWl : W.length = 64 := by rw [← hW, schedP_length]
   rw [hW] at HS
   have HW := Aside0.mk hW
   have HWL := Aside0.mk hWl
   clear hW hWl hK HT
   have e0 := HS.out.c4 0 (by omega)
   have e1 := HS.out.c4 1 (by omega)
   have e2 := HS.out.c4 2 (by omega)
   have e3 := HS.out.c4 3 (by omega)
   have e4 := HS.out.c4 4 (by omega)
   have e5 := HS.out.c4 5 (by omega)
   have e6 := HS.out.c4 6 (by omega)
   have e7 := HS.out.c4 7 (by omega)
   obtain ⟨a0, i0⟩ : ∃ x, S.getD 0 0 = x := ⟨_, rfl⟩
   obtain ⟨a1, i1⟩ : ∃ x, S.getD 1 0 = x := ⟨_, rfl⟩
   obtain ⟨a2, i2⟩ : ∃ x, S.getD 2 0 = x := ⟨_, rfl⟩
   obtain ⟨a3, i3⟩ : ∃ x, S.getD 3 0 = x := ⟨_, rfl⟩
   obtain ⟨a4, i4⟩ : ∃ x, S.getD 4 0 = x := ⟨_, rfl⟩
   obtain ⟨a5, i5⟩ : ∃ x, S.getD 5 0 = x := ⟨_, rfl⟩
   obtain ⟨a6, i6⟩ : ∃ x, S.getD 6 0 = x := ⟨_, rfl⟩
   obtain ⟨a7, i7⟩ : ∃ x, S.getD 7 0 = x := ⟨_, rfl⟩
   have HZ : Aside0 (ofL S = ⟨a0, a1, a2, a3, a4, a5, a6, a7⟩) := ⟨by rw [ofL, i0, i1, i2, i3, i4, i5, i6, i7]⟩
   rw [i0] at e0
   rw [i1] at e1
   rw [i2] at e2
   rw [i3] at e3
   rw [i4] at e4
   rw [i5] at e5
   rw [i6] at e6
   rw [i7] at e7
   clear i0 i1 i2 i3 i4 i5 i6 i7
   go_wp2
   go_quiet (fail)
   go_wp2
   clear e0 e1 e2 e3 e4 e5 e6 e7
   replace HS : Aside0 (MixSt w (wr.drewN nq) g4 g6 g7 S W) := ⟨HS.out.drewN nq⟩
   generalize wr.drewN nq = wx at HS ⊢
   go_loopg [13, 14, 15, 16, 17, 18, 19, 20, 119] 64 (fun kq v13 v14 v15 v16 v17 v18 v19 v20 v w' => ∃ (t : Nat) (z : R8), v13 = .int .u32 z.a ∧ v14 = .int .u32 z.b ∧ v15 = .int .u32 z.c ∧ v16 = .int .u32 z.d ∧ v17 = .int .u32 z.e ∧ v18 = .int .u32 z.f ∧ v19 = .int .u32 z.g ∧ v20 = .int .u32 z.h ∧ v = .int .i64 t ∧ Aside0 (t + kq = 64) ∧ Aside0 (z = roundsP K W (ofL S) t) ∧ Aside0 (MixSt w w' g4 g6 g7 S W))
   case atStart => exact ⟨0, ⟨a0, a1, a2, a3, a4, a5, a6, a7⟩, rfl, rfl, rfl, rfl, rfl, rfl, rfl, rfl, rfl, ⟨rfl⟩, ⟨HZ.out.symm⟩, HS⟩
   case round =>
    clear HS
    obtain ⟨t, ⟨a, b1, c1, d, e, f, g, h8⟩, rfl, rfl, rfl, rfl, rfl, rfl, rfl, rfl, rfl, HT, HZT, HS⟩ := hrel
    by_cases ht : t < 64
    ·have cK := pw_cell_below HS.out.hl (HK.out t ht)
     have c7 := HS.out.c7 t (by rw [HWL.out]; exact ht)
     obtain ⟨kk, hkk⟩ : ∃ x, K.getD t 0 = x := ⟨_, rfl⟩
     obtain ⟨ww, hww⟩ : ∃ x, W.getD t 0 = x := ⟨_, rfl⟩
     rw [hkk] at cK
     rw [hww] at c7
     have HR : Aside0 (roundsP K W (ofL S) (t + 1) = roundP kk ww ⟨a, b1, c1, d, e, f, g, h8⟩) := ⟨by rw [roundsP, hkk, hww, ← HZT.out]⟩
     have HT64 := Aside0.mk ht
     have d1 : decide ((t : Int) < 64) = true := decide_eq_true (by omega)
     have p1 := eq_true (show (0 : Int) ≤ (t : Int) by omega)
     have p2 := eq_true (show (t : Int) < 64 by omega)
     clear hkk hww ht
     go_wp2
     go_quiet ((first | exact turn_q (turn6 _) | exact turn_q (turn11 _) | exact turn_q (turn25 _)))
     go_wp2_with fail
     refine (sha_turn.calls a 2 _ _ (turn2 a)).mono ?_
     rintro e' w' ⟨rfl, ⟨n1, rfl⟩⟩
     go_wp2_with fail
     refine (sha_turn.calls a 13 _ _ (turn13 a)).mono ?_
     rintro e' w' ⟨rfl, ⟨n2, rfl⟩⟩
     go_wp2_with fail
     refine (sha_turn.calls a 22 _ _ (turn22 a)).mono ?_
     rintro e' w' ⟨rfl, ⟨n3, rfl⟩⟩
     go_wp2
     go_roundg (63 - t)
     case measure => have := HT.out; have := HT64.out; omega
     case rel =>
      exact ⟨t + 1, roundP kk ww ⟨a, b1, c1, d, e, f, g, h8⟩, rfl, rfl, rfl, rfl, rfl, rfl, rfl, rfl, inc64 t (by have := HT64.out; omega), ⟨by have := HT64.out; omega⟩, ⟨HR.out.symm⟩, ⟨HS.out.drewN _⟩⟩
    ·have ht2 : t = 64 := by have := HT.out; omega
     subst ht2
     clear HT ht
     have HZL : Aside0 ((roundsP K W (ofL S) 64).toL = [a, b1, c1, d, e, f, g, h8]) := ⟨by rw [← HZT.out]; rfl⟩
     go_upto_region 24 with (fail)
     obtain ⟨Z, hZ⟩ : ∃ Z, [a, b1, c1, d, e, f, g, h8] = Z := ⟨_, rfl⟩
     have hz8 : (#[.int .u32 a, .int .u32 b1, .int .u32 c1, .int .u32 d, .int .u32 e, .int .u32 f, .int .u32 g, .int .u32 h8] : Array Value) = cs32 Z := by rw [← hZ]; rfl
     have HZ8 : Aside0 (Z.length = 8) := ⟨by rw [← hZ]; rfl⟩
     rw [hZ] at HZL
     rw [hz8]
     clear hz8 hZ HZT
     have HSL := Aside0.mk hS
     go_loopg [193] 8 (fun kq v w' => ∃ i : Nat, v = .int .i64 i ∧ Aside0 (i + kq = 8) ∧ Aside0 (MixSt w w' g4 g6 g7 (addP S Z i) W))
     case atStart => exact ⟨0, rfl, ⟨rfl⟩, HS⟩
     case round =>
      clear HS
      obtain ⟨i, rfl, HI, HS⟩ := hrel
      by_cases hi : i < 8
      ·have c4 := HS.out.c4 i (by rw [addP_length, HSL.out]; exact hi)
       have f4 : wr.frozen? ⟨g4, i, none⟩ = false := blk_frozen HS.out.h4 i
       have hzi := fun w => index_words (Z := Z) hu38 (by kernel_rfl) Try.underlying37 i hi (by rw [HZ8.out]; exact hi) w
       obtain ⟨x, hx⟩ : ∃ x, (addP S Z i).getD i 0 = x := ⟨_, rfl⟩
       obtain ⟨y, hy⟩ : ∃ x, Z.getD i 0 = x := ⟨_, rfl⟩
       rw [hx] at c4
       rw [hy] at hzi
       have HA : Aside0 (addP S Z (i + 1) = (addP S Z i).set i ((x + y) % 4294967296)) := ⟨by rw [addP, hx, hy]⟩
       have HI8 := Aside0.mk hi
       have d1 : decide ((i : Int) < 8) = true := decide_eq_true (by omega)
       have p1 := eq_true (show (0 : Int) ≤ (i : Int) by omega)
       have p2 := eq_true (show (i : Int) < 8 by omega)
       clear hx hy hi
       go_wp2
       go_roundg (7 - i)
       case measure => have := HI.out; have := HI8.out; omega
       case rel =>
        refine ⟨i + 1, inc64 i (by have := HI8.out; omega), ⟨by have := HI8.out; omega⟩, ⟨?_⟩⟩
        rw [HA.out]
        exact HS.out.set4 (Ne.symm N46.out) (Ne.symm N47.out) L4.out i _
      ·have hi8 : i = 8 := by have := HI.out; omega
       subst hi8
       clear HI hi
       have HLN : Aside0 ((cs32 (addP S Z 8)).size = 8) := ⟨by rw [cs32_size, addP_length, HSL.out]⟩
       have HI38 : Aside0 ((Try.prog.info? 38).map (·.size) = some (cs32 (addP S Z 8)).size) := ⟨by rw [HLN.out]; kernel_rfl⟩
       have HO : Aside0 ((cs32 (List.replicate 8 0)).size = (cs32 (addP S Z 8)).size) := ⟨by rw [HLN.out]; rfl⟩
       have HA : Aside0 ((cs32 (addP S Z 8)).all (·.oneCell') = true) := ⟨cs32_all _⟩
       go_wp2_with (first | ((with_reducible refine gate_dst (N := 204) rfl ?_); refine wpList_load_row rfl 38 (.tmp 4) rfl g4 rfl 38 (cs32 (addP S Z 8)) (0, 0) _ HS.out.h4 hu38 rfl HI38.out ?_) | (refine gate_ (.store 38 (.tmp 6) (.tmp 204)) rfl ?_; refine wpList_store_row rfl 38 (.tmp 6) (.tmp 204) rfl g6 (cs32 (addP S Z 8)) rfl rfl 38 _ HS.out.h6 HI38.out HO.out HA.out ?_))
       refine bodyPost_ret_by (results_cell_row rfl _ _ g6 38 (cs32 (addP S Z 8)) (0, 0) _ rfl (setRow_heap _ _ _ _ _ _ HS.out.h6) hu38 rfl HI38.out) rfl ?_
       refine ⟨?_, HS.out.hl.trans (below_setRow L6.out)⟩
       rw [mixP, HW.out, HZL.out]
end Go.Proofs.Ytcdnmlfnfhoieaa.A

namespace Go.Proofs.Ytcdnmlfnfhoieaa.A
open Go.RowKit Go.Proofs.YtcdnmlfnfhoieaaW.PrintWords Go.Proofs.YtcdnmlfnfhoieaaW.PrintLast Go.Proofs.YtcdnmlfnfhoieaaW.PrintMore
attribute [local go_sem] max2_int min2_int max_two min_two max_three min_three max_four min_four
set_option linter.unusedVariables false
set_option linter.unusedSimpArgs false
/-! ### sha_Prime: function 27 -/
mutual
def sha_Prime.j0 : Nat → Int → Bool → Option (Int)
 | 0, _, _ => none
 | k + 1, x0, x12 => if x12 = true then (some 0) else (sha_Prime.l0 k x0 2 0)
def sha_Prime.l0 : Nat → Int → Int → Int → Option (Int)
 | 0, _, _, _ => none
 | k + 1, x0, x3, x4 => sha_Prime.l1 k x0 x3 x4 true 2
def sha_Prime.l1 : Nat → Int → Int → Int → Bool → Int → Option (Int)
 | 0, _, _, _, _, _ => none
 | k + 1, x0, x3, x4, x5, x6 => if ((x6 * x6) % 4294967296) ≤ x3 then (if x5 = true then (if x6 = 0 then (none) else (sha_Prime.l1 k x0 x3 x4 ((Int.tmod x3 x6) != 0) ((x6 + 1) % 4294967296))) else (sha_Prime.l1 k x0 x3 x4 false ((x6 + 1) % 4294967296))) else (if x5 = true then (if x4 = x0 then (some x3) else (sha_Prime.l0 k x0 ((x3 + 1) % 4294967296) (wrap64 (x4 + 1)))) else (sha_Prime.l0 k x0 ((x3 + 1) % 4294967296) x4))
end
def sha_Prime.f (k : Nat) (a0 : Int) : Option (Int) := if a0 < 0 then (sha_Prime.j0 k a0 true) else (sha_Prime.j0 k a0 (decide (a0 > 99)))
theorem sha_Prime.mono_l : ∀ k, (∀ y0 y1, LeO (sha_Prime.j0 k y0 y1) (sha_Prime.j0 (k + 1) y0 y1)) ∧ (∀ y0 y1 y2, LeO (sha_Prime.l0 k y0 y1 y2) (sha_Prime.l0 (k + 1) y0 y1 y2)) ∧ (∀ y0 y1 y2 y3 y4, LeO (sha_Prime.l1 k y0 y1 y2 y3 y4) (sha_Prime.l1 (k + 1) y0 y1 y2 y3 y4))
 | 0 => ⟨fun _ _ r h => by simp [sha_Prime.j0] at h, fun _ _ _ r h => by simp [sha_Prime.l0] at h, fun _ _ _ _ _ r h => by simp [sha_Prime.l1] at h⟩
 | k + 1 => by
  obtain ⟨ih0, ih1, ih2⟩ := sha_Prime.mono_l k
  refine ⟨?_, ?_, ?_⟩
  ·intro y0 y1
   unfold sha_Prime.j0
   repeat' first
   | (with_reducible exact ih0 _ _)
   | (with_reducible exact ih1 _ _ _)
   | (with_reducible exact ih2 _ _ _ _ _)
   | (with_reducible exact LeO.refl _)
   | (with_reducible exact LeO.none _)
   | (with_reducible refine LeO.ite ?_ ?_)
   | (with_reducible refine LeO.bind ?_ (fun _ => ?_))
   | exact ih0 _ _
   | exact ih1 _ _ _
   | exact ih2 _ _ _ _ _
   | exact LeO.none _
   | refine LeO.ite ?_ ?_
   | refine LeO.bind ?_ (fun _ => ?_)
  ·intro y0 y1 y2
   unfold sha_Prime.l0
   repeat' first
   | (with_reducible exact ih0 _ _)
   | (with_reducible exact ih1 _ _ _)
   | (with_reducible exact ih2 _ _ _ _ _)
   | (with_reducible exact LeO.refl _)
   | (with_reducible exact LeO.none _)
   | (with_reducible refine LeO.ite ?_ ?_)
   | (with_reducible refine LeO.bind ?_ (fun _ => ?_))
   | exact ih0 _ _
   | exact ih1 _ _ _
   | exact ih2 _ _ _ _ _
   | exact LeO.none _
   | refine LeO.ite ?_ ?_
   | refine LeO.bind ?_ (fun _ => ?_)
  ·intro y0 y1 y2 y3 y4
   unfold sha_Prime.l1
   repeat' first
   | (with_reducible exact ih0 _ _)
   | (with_reducible exact ih1 _ _ _)
   | (with_reducible exact ih2 _ _ _ _ _)
   | (with_reducible exact LeO.refl _)
   | (with_reducible exact LeO.none _)
   | (with_reducible refine LeO.ite ?_ ?_)
   | (with_reducible refine LeO.bind ?_ (fun _ => ?_))
   | exact ih0 _ _
   | exact ih1 _ _ _
   | exact ih2 _ _ _ _ _
   | exact LeO.none _
   | refine LeO.ite ?_ ?_
   | refine LeO.bind ?_ (fun _ => ?_)
theorem sha_Prime.mono : ∀ a0 k, LeO (sha_Prime.f k a0) (sha_Prime.f (k + 1) a0) := by
 intro a0 k
 obtain ⟨ih0, ih1, ih2⟩ := sha_Prime.mono_l k
 unfold sha_Prime.f
 repeat' first
   | (with_reducible exact ih0 _ _)
   | (with_reducible exact ih1 _ _ _)
   | (with_reducible exact ih2 _ _ _ _ _)
   | (with_reducible exact LeO.refl _)
   | (with_reducible exact LeO.none _)
   | (with_reducible refine LeO.ite ?_ ?_)
   | (with_reducible refine LeO.bind ?_ (fun _ => ?_))
   | exact ih0 _ _
   | exact ih1 _ _ _
   | exact ih2 _ _ _ _ _
   | exact LeO.none _
   | refine LeO.ite ?_ ?_
   | refine LeO.bind ?_ (fun _ => ?_)
set_option maxHeartbeats 8000000 in
set_option maxRecDepth 100000 in
theorem sha_Prime.calls (k : Nat) (a0 : Int) (r : Int) (w : World) (h : sha_Prime.f k a0 = some r) :
  Calls Try.prog 27 #[.int .i64 a0] w fun e w' => e = .returned (.int .u32 r) ∧ Drawn0 w w' := by
 have H : (if a0 < 0 then (sha_Prime.j0 k a0 true) else (sha_Prime.j0 k a0 (decide (a0 > 99)))) = some r := h
 clear h
 have HC2 := Aside0.mk H
 clear H
 go_enter Try.func27, Try.ntmps27
 go_upto_region 1 with (fail)
 go_cut [12] (fun v12 wc => ∃ (kq : Nat) (x12_1 : Bool), v12 = .bool x12_1 ∧ Aside0 (sha_Prime.j0 kq a0 x12_1 = some r) ∧ Aside0 (kq ≤ k) ∧ Drawn0 w wc)
 case first =>
  have H := HC2.out
  clear HC2
  by_cases c3 : a0 < 0
  ·rw [if_pos c3] at H
   have c3b0 : decide (a0 < 0) = true := decide_eq_true c3
   clear c3
   (first | rw [c3b0] | (simp only [i64_w, i32_w]; rw [c3b0]) | skip)
   have H' := Aside0.mk H
   clear H
   go_wp2
   go_meet
   case rel => exact ⟨_, (true), (by first | rfl | (simp; done) | (simp [*]; done)), H', ⟨by first | omega | exact Nat.le_refl _⟩, by repeat (first | exact Drawn0.refl _ | apply Drawn0.step)⟩
  ·rw [if_neg c3] at H
   have c3b0 : decide (a0 < 0) = false := decide_eq_false c3
   clear c3
   (first | rw [c3b0] | (simp only [i64_w, i32_w]; rw [c3b0]) | skip)
   have H' := Aside0.mk H
   clear H
   go_wp2
   go_meet
   case rel => exact ⟨_, (decide (a0 > 99)), (by first | rfl | (simp; done) | (simp [*]; done)), H', ⟨by first | omega | exact Nat.le_refl _⟩, by repeat (first | exact Drawn0.refl _ | apply Drawn0.step)⟩
 case rest =>
  clear HC2
  try clear c2
  try clear p2
  try clear c3
  try clear c3b0
  obtain ⟨kq, x12_1, rfl, HA, HJ1, ⟨mc1, rfl⟩⟩ := hcut
  cases kq with
  | zero => exact absurd HA.out (by simp [sha_Prime.j0])
  | succ kj1 =>
   have H := HA.out
   clear HA
   simp only [sha_Prime.j0] at H
   by_cases c4 : x12_1 = true
   ·subst c4
    have H1 : (some 0) = some r := by rw [if_pos rfl] at H; exact H
    clear H
    have H := H1
    clear H1
    obtain rfl := Option.some.inj H
    go_wp2
    go_ret
    exact ⟨by first | rfl | (simp; done) | (simp [*]; done), by repeat (first | exact Drawn0.refl _ | apply Drawn0.step)⟩
   ·replace c4 := Bool.eq_false_iff.mpr c4
    subst c4
    have H1 : (sha_Prime.l0 kj1 a0 2 0) = some r := by rw [if_neg (show ¬ (false = true) by decide)] at H; exact H
    clear H
    have H := H1
    clear H1
    have H' := Aside0.mk H
    clear H
    go_wp2
    go_loopg [3, 4] kj1 (fun kq v3 v4 w' => ∃ (x3_2 : Int) (x4_2 : Int), v3 = .int .u32 x3_2 ∧ v4 = .int .i64 x4_2 ∧ Aside0 (sha_Prime.l0 kq a0 x3_2 x4_2 = some r) ∧ Aside0 (kq ≤ kj1) ∧ Drawn0 w w')
    case atStart => exact ⟨(2), (0), (by first | rfl | (simp; done) | (simp [*]; done)), (by first | rfl | (simp; done) | (simp [*]; done)), H', ⟨Nat.le_refl _⟩, by repeat (first | exact Drawn0.refl _ | apply Drawn0.step)⟩
    case round =>
     clear H'
     try clear c1
     try clear c2
     try clear p2
     try clear c3
     try clear c3b0
     try clear c4
     try clear p2
     obtain ⟨x3_2, x4_2, rfl, rfl, HA, HK2, ⟨m2, rfl⟩⟩ := hrel
     cases gk with
     | zero => exact absurd HA.out (by simp [sha_Prime.l0])
     | succ k2 =>
      have H := HA.out
      clear HA
      simp only [sha_Prime.l0] at H
      have H' := Aside0.mk H
      clear H
      go_wp2
      go_loopg [5, 6] k2 (fun kq v5 v6 w' => ∃ (x5_3 : Bool) (x6_3 : Int), v5 = .bool x5_3 ∧ v6 = .int .u32 x6_3 ∧ Aside0 (sha_Prime.l1 kq a0 x3_2 x4_2 x5_3 x6_3 = some r) ∧ Aside0 (kq ≤ k2) ∧ Drawn0 w w')
      case atStart => exact ⟨(true), (2), (by first | rfl | (simp; done) | (simp [*]; done)), (by first | rfl | (simp; done) | (simp [*]; done)), H', ⟨Nat.le_refl _⟩, by repeat (first | exact Drawn0.refl _ | apply Drawn0.step)⟩
      case round =>
       clear H'
       try clear c1
       try clear c2
       try clear p2
       try clear c3
       try clear c3b0
       try clear c4
       try clear p2
       obtain ⟨x5_3, x6_3, rfl, rfl, HA, HK3, ⟨m3, rfl⟩⟩ := hrel
       cases gk with
       | zero => exact absurd HA.out (by simp [sha_Prime.l1])
       | succ k3 =>
        have H := HA.out
        clear HA
        simp only [sha_Prime.l1] at H
        by_cases c5 : ((x6_3 * x6_3) % 4294967296) ≤ x3_2
        ·rw [if_pos c5] at H
         have c5b0 : decide (((x6_3 * x6_3) % 4294967296) ≤ x3_2) = true := decide_eq_true c5
         clear c5
         by_cases c6 : x5_3 = true
         ·subst c6
          have H1 : (if x6_3 = 0 then (none) else (sha_Prime.l1 k3 a0 x3_2 x4_2 ((Int.tmod x3_2 x6_3) != 0) ((x6_3 + 1) % 4294967296))) = some r := by rw [if_pos rfl] at H; exact H
          clear H
          have H := H1
          clear H1
          by_cases c7 : x6_3 = 0
          ·rw [if_pos c7] at H
           exact absurd H (by simp)
          ·rw [if_neg c7] at H
           have c7b0 : (x6_3 == 0) = false := beq_eq_false_iff_ne.mpr c7
           have c7b1 : (x6_3 != 0) = true := bne_iff_ne.mpr c7
           have H' := Aside0.mk H
           clear H
           go_wp2
           go_roundg k3
           case measure => have := HJ1.out; have := HK2.out; have := HK3.out; omega
           case rel => exact ⟨(((Int.tmod x3_2 x6_3) != 0)), ((x6_3 + 1) % 4294967296), (by first | rfl | (simp; done) | (simp [*]; done)), (by first | rfl | (simp; done) | (simp [*]; done)), H', ⟨by have := HJ1.out; have := HK2.out; have := HK3.out; omega⟩, by repeat (first | exact Drawn0.refl _ | apply Drawn0.step)⟩
         ·replace c6 := Bool.eq_false_iff.mpr c6
          subst c6
          have H1 : (sha_Prime.l1 k3 a0 x3_2 x4_2 false ((x6_3 + 1) % 4294967296)) = some r := by rw [if_neg (show ¬ (false = true) by decide)] at H; exact H
          clear H
          have H := H1
          clear H1
          have H' := Aside0.mk H
          clear H
          go_wp2
          go_roundg k3
          case measure => have := HJ1.out; have := HK2.out; have := HK3.out; omega
          case rel => exact ⟨(false), ((x6_3 + 1) % 4294967296), (by first | rfl | (simp; done) | (simp [*]; done)), (by first | rfl | (simp; done) | (simp [*]; done)), H', ⟨by have := HJ1.out; have := HK2.out; have := HK3.out; omega⟩, by repeat (first | exact Drawn0.refl _ | apply Drawn0.step)⟩
        ·rw [if_neg c5] at H
         have c5b0 : decide (((x6_3 * x6_3) % 4294967296) ≤ x3_2) = false := decide_eq_false c5
         clear c5
         by_cases c8 : x5_3 = true
         ·subst c8
          have H1 : (if x4_2 = a0 then (some x3_2) else (sha_Prime.l0 k3 a0 ((x3_2 + 1) % 4294967296) (wrap64 (x4_2 + 1)))) = some r := by rw [if_pos rfl] at H; exact H
          clear H
          have H := H1
          clear H1
          by_cases c9 : x4_2 = a0
          ·rw [if_pos c9] at H
           have c9b0 : (x4_2 == a0) = true := beq_iff_eq.mpr c9
           have c9b1 : (x4_2 != a0) = false := bne_eq_false_iff_eq.mpr c9
           clear c9
           obtain rfl := Option.some.inj H
           go_wp2
           go_ret
           exact ⟨by first | rfl | (simp; done) | (simp [*]; done), by repeat (first | exact Drawn0.refl _ | apply Drawn0.step)⟩
          ·rw [if_neg c9] at H
           have c9b0 : (x4_2 == a0) = false := beq_eq_false_iff_ne.mpr c9
           have c9b1 : (x4_2 != a0) = true := bne_iff_ne.mpr c9
           have H' := Aside0.mk H
           clear H
           go_wp2
           go_roundg k3
           case measure => have := HJ1.out; have := HK2.out; have := HK3.out; omega
           case rel => exact ⟨((x3_2 + 1) % 4294967296), (wrap64 (x4_2 + 1)), (by first | rfl | (simp; done) | (simp [*]; done)), (by first | rfl | (simp; done) | (simp [*]; done)), H', ⟨by have := HJ1.out; have := HK2.out; have := HK3.out; omega⟩, by repeat (first | exact Drawn0.refl _ | apply Drawn0.step)⟩
         ·replace c8 := Bool.eq_false_iff.mpr c8
          subst c8
          have H1 : (sha_Prime.l0 k3 a0 ((x3_2 + 1) % 4294967296) x4_2) = some r := by rw [if_neg (show ¬ (false = true) by decide)] at H; exact H
          clear H
          have H := H1
          clear H1
          have H' := Aside0.mk H
          clear H
          go_wp2
          go_roundg k3
          case measure => have := HJ1.out; have := HK2.out; have := HK3.out; omega
          case rel => exact ⟨((x3_2 + 1) % 4294967296), (x4_2), (by first | rfl | (simp; done) | (simp [*]; done)), (by first | rfl | (simp; done) | (simp [*]; done)), H', ⟨by have := HJ1.out; have := HK2.out; have := HK3.out; omega⟩, by repeat (first | exact Drawn0.refl _ | apply Drawn0.step)⟩
end Go.Proofs.Ytcdnmlfnfhoieaa.A

/- sha.New, walked. No condition. -/
namespace Go.Proofs.Ytcdnmlfnfhoieaa.A
open Go.RowKit Go.Proofs.YtcdnmlfnfhoieaaW.PrintWords Go.Proofs.YtcdnmlfnfhoieaaW.PrintLast Go.Proofs.YtcdnmlfnfhoieaaW.PrintMore Go.Proofs.Ytcdnmlfnfhoieaa.Bs
set_option linter.unusedVariables false
set_option linter.unusedSimpArgs false
/-- A Hash's cells. -/
def hashC (K S : List Int) (v : Value) (n : Int) : Array Value := (K.map (Value.int .u32) ++ (S.map (Value.int .u32) ++ [v, .int .i64 n])).toArray
theorem hashC_getK (K S : List Int) (v : Value) (n : Int) (i : Nat) (h : i < K.length) : (hashC K S v n)[i]? = some (.int .u32 (K.getD i 0)) := by
 unfold hashC
 rw [List.getElem?_toArray, List.getElem?_append_left (by simpa using h), List.getElem?_map, List.getElem?_eq_getElem h]
 simp [List.getD_eq_getElem?_getD, h]
theorem hashC_getS (K S : List Int) (v : Value) (n : Int) (i : Nat) (hK : K.length = 64) (h : i < S.length) : (hashC K S v n)[64 + i]? = some (.int .u32 (S.getD i 0)) := by
 unfold hashC
 rw [List.getElem?_toArray, List.getElem?_append_right (by simp [hK]), List.length_map, hK, Nat.add_sub_cancel_left, List.getElem?_append_left (by simpa using h), List.getElem?_map, List.getElem?_eq_getElem h]
 simp [List.getD_eq_getElem?_getD, h]
theorem hashC_setS (K S : List Int) (v : Value) (n : Int) (i : Nat) (r : Int) (hK : K.length = 64) (h : i < S.length) : (hashC K S v n).setIfInBounds (64 + i) (.int .u32 r) = hashC K (S.set i r) v n := by
 unfold hashC
 rw [List.setIfInBounds_toArray, List.set_append_right _ _ (by simp [hK]), List.length_map, hK, Nat.add_sub_cancel_left, List.set_append_left _ _ (by simpa using h), List.map_set]
theorem hashC_size (K S : List Int) (v : Value) (n : Int) (hK : K.length = 64) (hS : S.length = 8) : (hashC K S v n).size = 74 := by
 simp [hashC, hK, hS]
theorem hashC_getV (K S : List Int) (v : Value) (n : Int) (hK : K.length = 64) (hS : S.length = 8) : (hashC K S v n)[72]? = some v ∧ (hashC K S v n)[73]? = some (.int .i64 n) := by
 unfold hashC
 refine ⟨?_, ?_⟩
 ·rw [List.getElem?_toArray, List.getElem?_append_right (by simp [hK]), List.getElem?_append_right (by simp [hK, hS])]
  simp [hK, hS]
 ·rw [List.getElem?_toArray, List.getElem?_append_right (by simp [hK]), List.getElem?_append_right (by simp [hK, hS])]
  simp [hK, hS]
theorem hashC_setV (K S : List Int) (v u : Value) (n : Int) (hK : K.length = 64) (hS : S.length = 8) : (hashC K S v n).setIfInBounds 72 u = hashC K S u n := by
 unfold hashC
 rw [List.setIfInBounds_toArray, List.set_append_right _ _ (by simp [hK]), List.set_append_right _ _ (by simp [hK, hS])]
 simp [hK, hS]
theorem hashC_setN (K S : List Int) (v : Value) (n m : Int) (hK : K.length = 64) (hS : S.length = 8) : (hashC K S v n).setIfInBounds 73 (.int .i64 m) = hashC K S v m := by
 unfold hashC
 rw [List.setIfInBounds_toArray, List.set_append_right _ _ (by simp [hK]), List.set_append_right _ _ (by simp [hK, hS])]
 simp [hK, hS]
def H8 : List Int := [1779033703, 3144134277, 1013904242, 2773480762, 1359893119, 2600822924, 528734635, 1541459225]
def primesP : List Int := [2, 3, 5, 7, 11, 13, 17, 19]
theorem prime_some (i : Nat) (hi : i < 8) : sha_Prime.f 200 (i : Int) = some (primesP.getD i 0) := by
 rcases (show i = 0 ∨ i = 1 ∨ i = 2 ∨ i = 3 ∨ i = 4 ∨ i = 5 ∨ i = 6 ∨ i = 7 by omega) with rfl | rfl | rfl | rfl | rfl | rfl | rfl | rfl <;> (clear hi; kernel_rfl)
theorem root_some (i : Nat) (hi : i < 8) : sha_Root.f 60 (primesP.getD i 0) false = some (H8.getD i 0) := by
 rcases (show i = 0 ∨ i = 1 ∨ i = 2 ∨ i = 3 ∨ i = 4 ∨ i = 5 ∨ i = 6 ∨ i = 7 by omega) with rfl | rfl | rfl | rfl | rfl | rfl | rfl | rfl <;> (clear hi; kernel_rfl)
theorem h8_step (i : Nat) (hi : i < 8) : (H8.take i ++ List.replicate (8 - i) 0).set i (H8.getD i 0) = H8.take (i + 1) ++ List.replicate (8 - (i + 1)) 0 ∧ (H8.take i ++ List.replicate (8 - i) 0).length = 8 ∧ (H8.take i ++ List.replicate (8 - i) 0).getD i 0 = 0 := by
 rcases (show i = 0 ∨ i = 1 ∨ i = 2 ∨ i = 3 ∨ i = 4 ∨ i = 5 ∨ i = 6 ∨ i = 7 by omega) with rfl | rfl | rfl | rfl | rfl | rfl | rfl | rfl <;> exact ⟨rfl, rfl, rfl⟩
theorem K64_length : K64.length = 64 := by kernel_rfl
theorem fold146 : Array.foldl (fun (cs : Array Value) (x : Value × Nat) => cs.setIfInBounds x.2 x.1) Try.zeroCells146 (cs32 K64).zipIdx 0 64 = hashC K64 (List.replicate 8 0) (.slice none 0 0) 0 := by kernel_rfl
set_option maxHeartbeats 4000000 in
set_option maxRecDepth 100000 in
theorem sha_new (w : World) : Calls Try.prog 72 #[] w fun e w' => ∃ g, e = .returned (.pointer (some ⟨g, 0, none⟩)) ∧ w.heap.size ≤ g ∧ w'.heap[g]? = some (.cells (hashC K64 H8 (.slice none 0 0) 0) 146 (0, 0)) ∧ Below w.heap.size w w' := by
 have hfold := fold146
 have hsz : (cs32 K64).size = 64 := by kernel_rfl
 go_enter Try.func72, Try.ntmps72
 go_wp2_with fail
 refine (sha_roots.calls w).mono ?_
 rintro e w1 ⟨rfl, hb1⟩
 have HB1 := Aside0.mk hb1
 clear hb1
 go_upto_region 2 with (fail)
 have hb := blk_new w1 (.cells (hashC K64 [0, 0, 0, 0, 0, 0, 0, 0] (.slice none 0 0) 0) 146 (0, 0))
 have hl : Below w.heap.size w (w1.alloc (.cells (hashC K64 [0, 0, 0, 0, 0, 0, 0, 0] (.slice none 0 0) 0) 146 (0, 0))) := below_alloc HB1.out _
 have hg : w.heap.size ≤ w1.heap.size := below_size HB1.out
 generalize w1.alloc (.cells (hashC K64 [0, 0, 0, 0, 0, 0, 0, 0] (.slice none 0 0) 0) 146 (0, 0)) = w2 at hb hl ⊢
 generalize w1.heap.size = g at hb hg ⊢
 have HBK := Aside0.mk hb
 have HL := Aside0.mk hl
 have HG := Aside0.mk hg
 clear hb hl hg hfold hsz HB1
 go_wp2
 go_loopg [6] 8 (fun kq v w' => ∃ i : Nat, v = .int .i64 i ∧ Aside0 (i + kq = 8) ∧ Aside0 (w'.heap[g]? = some (.cells (hashC K64 (H8.take i ++ List.replicate (8 - i) 0) (.slice none 0 0) 0) 146 (0, 0))) ∧ Aside0 (Below w.heap.size w w'))
 case atStart => exact ⟨0, rfl, ⟨rfl⟩, HBK, HL⟩
 case round =>
  clear HBK HL
  obtain ⟨i, rfl, HI, HBK, HL⟩ := hrel
  by_cases hi : i < 8
  ·have d1 : decide ((i : Int) < 8) = true := decide_eq_true (by omega)
   have p1 := eq_true (show (0 : Int) ≤ (i : Int) by omega)
   have p2 := eq_true (show (i : Int) < 8 by omega)
   have f1 : wr.frozen? ⟨g, 64 + i, none⟩ = false := blk_frozen HBK.out _
   have c1 : wr.cell? ⟨g, 64 + i, none⟩ = some (.int .u32 0) := by rw [blk_cell HBK.out (64 + i), hashC_getS _ _ _ _ i K64_length (by rw [(h8_step i hi).2.1]; exact hi), (h8_step i hi).2.2]
   obtain ⟨p, hp⟩ : ∃ p, primesP.getD i 0 = p := ⟨_, rfl⟩
   obtain ⟨r, hr⟩ : ∃ p, H8.getD i 0 = p := ⟨_, rfl⟩
   have HP : Aside0 (sha_Prime.f 200 (i : Int) = some p) := ⟨by rw [← hp]; exact prime_some i hi⟩
   have HR : Aside0 (sha_Root.f 60 p false = some r) := ⟨by rw [← hp, ← hr]; exact root_some i hi⟩
   have HRR := Aside0.mk hr
   have HI8 := Aside0.mk hi
   clear hp hr hi
   go_wp2
   refine start_ (n := 9) (S := fun w' => True) (ds := []) #[false, false, false, false, false, false, false, false, false] (by kernel_rfl) rfl rfl trivial (fun hHeld => ?_)
   refine pure_ (i := 0) (N := some 9) (v := ?_) (a' := ?_) #[true, false, false, false, false, false, false, false, false] rfl rfl (by kernel_rfl) (fun _ _ _ h => h) (Or.inl ⟨by rfl, ?_⟩) ?_ ?_
   rotate_left
   ·intro w'
    go_simp
    with_reducible rfl
   rotate_left
   ·simp only [Act.put, List.setIfInBounds_toArray, List.set_cons_zero, List.set_cons_succ, i64_w, i32_w]
    rfl
   refine pure_ (i := 1) (N := some 10) (v := ?_) (a' := ?_) #[true, true, false, false, false, false, false, false, false] rfl rfl (by kernel_rfl) (fun _ _ _ h => h) (Or.inl ⟨by rfl, ?_⟩) ?_ ?_
   rotate_left
   ·intro w'
    go_simp
    with_reducible rfl
   rotate_left
   ·simp only [Act.put, List.setIfInBounds_toArray, List.set_cons_zero, List.set_cons_succ, i64_w, i32_w]
    rfl
   refine pure_ (i := 2) (N := some 11) (v := ?_) (a' := ?_) #[true, true, true, false, false, false, false, false, false] rfl rfl (by kernel_rfl) (fun _ _ _ h => h) (Or.inl ⟨by rfl, ?_⟩) ?_ ?_
   rotate_left
   ·intro w'
    go_simp
    with_reducible rfl
   rotate_left
   ·simp only [Act.put, List.setIfInBounds_toArray, List.set_cons_zero, List.set_cons_succ, i64_w, i32_w]
    rfl
   refine pure_ (i := 5) (N := some 14) (v := ?_) (a' := ?_) #[true, true, true, false, false, true, false, false, false] rfl rfl (by kernel_rfl) (fun _ _ _ h => h) (Or.inl ⟨by rfl, ?_⟩) ?_ ?_
   rotate_left
   ·intro w'
    go_simp
    with_reducible rfl
   rotate_left
   ·simp only [Act.put, List.setIfInBounds_toArray, List.set_cons_zero, List.set_cons_succ, i64_w, i32_w]
    rfl
   refine pure_ (i := 6) (N := some 15) (v := ?_) (a' := ?_) #[true, true, true, false, false, true, true, false, false] rfl rfl (by kernel_rfl) (fun _ _ _ h => h) (Or.inl ⟨by rfl, ?_⟩) ?_ ?_
   rotate_left
   ·intro w'
    go_simp
    with_reducible rfl
   rotate_left
   ·simp only [Act.put, List.setIfInBounds_toArray, List.set_cons_zero, List.set_cons_succ, i64_w, i32_w]
    rfl
   refine one_ (i := 3) (N := some 12) #[true, true, true, true, false, true, true, false, false] rfl rfl (by kernel_rfl) (by decide) (fun K hK => ?_)
   refine goes_ Try.func27 (by kernel_rfl) rfl #[.int .i64 (i : Int)] (by rfl) rfl rfl (by simp only [List.map_toArray, List.map_cons, List.map_nil]; rfl) ?_
   with_reducible refine (sha_Prime.calls 200 i p _ HP.out).mono ?_
   rintro e w3 ⟨rfl, ⟨n3, rfl⟩⟩
   refine ⟨_, rfl, ?_⟩
   refine hK.out _ _ trivial (fun hHeld => ?_)
   clear hK K
   refine norm_ (a' := ?_) ?_ ?_
   rotate_left
   ·show Act.put _ (some 12) _ = _
    simp only [Act.put, List.setIfInBounds_toArray, List.set_cons_zero, List.set_cons_succ, i64_w, i32_w]
    rfl
   refine one_ (i := 4) (N := some 13) #[true, true, true, true, true, true, true, false, false] rfl rfl (by kernel_rfl) (by decide) (fun K hK => ?_)
   refine goes_ Try.func26 (by kernel_rfl) rfl #[.int .u32 p, .bool false] (by rfl) rfl rfl (by simp only [List.map_toArray, List.map_cons, List.map_nil]; rfl) ?_
   with_reducible refine (sha_Root.calls 60 p false r _ HR.out).mono ?_
   rintro e w4 ⟨rfl, ⟨n4, rfl⟩⟩
   refine ⟨_, rfl, ?_⟩
   refine hK.out _ _ trivial (fun hHeld => ?_)
   clear hK K
   refine norm_ (a' := ?_) ?_ ?_
   rotate_left
   ·show Act.put _ (some 13) _ = _
    simp only [Act.put, List.setIfInBounds_toArray, List.set_cons_zero, List.set_cons_succ, i64_w, i32_w]
    rfl
   refine pure_ (i := 7) (N := some 16) (v := ?_) (a' := ?_) #[true, true, true, true, true, true, true, true, false] rfl rfl (by kernel_rfl) (fun _ _ _ h => h) (Or.inl ⟨by rfl, ?_⟩) ?_ ?_
   rotate_left
   ·intro w'
    go_simp
    with_reducible rfl
   rotate_left
   ·simp only [Act.put, List.setIfInBounds_toArray, List.set_cons_zero, List.set_cons_succ, i64_w, i32_w]
    rfl
   refine one_ (i := 8) (N := none) #[true, true, true, true, true, true, true, true, true] rfl rfl (by kernel_rfl) (by decide) (fun K hK => ?_)
   refine skip_ (w1 := ?_) (by rfl) rfl ?_ ?_
   rotate_left
   ·go_simp
    rfl
   refine hK.out _ _ trivial (fun hHeld => ?_)
   clear hK K
   refine done_ (by kernel_rfl) ?_
   go_wp2
   go_roundg (7 - i)
   case measure => have := HI.out; have := HI8.out; omega
   case rel =>
    refine ⟨i + 1, inc64 i (by have := HI8.out; omega), ⟨by have := HI8.out; omega⟩, ⟨?_⟩, ⟨?_⟩⟩
    ·have h := blk_set (blk_drewN HBK.out (1 + n3 + n4)) (64 + i) (.int .u32 r)
     have h8 := h8_step i HI8.out
     rw [hashC_setS _ _ _ _ i r K64_length (by rw [h8.2.1]; exact HI8.out), ← HRR.out, h8.1] at h
     rw [← HRR.out]
     exact h
    ·exact below_set (pw_below_drewN HL.out _) HG.out
  ·have hi8 : i = 8 := by have := HI.out; omega
   subst hi8
   go_wp2
   go_ret
   exact ⟨g, rfl, HG.out, HBK.out, HL.out⟩
end Go.Proofs.Ytcdnmlfnfhoieaa.A

/- What a Hash has taken in, plainly. No condition. -/
namespace Go.Proofs.Ytcdnmlfnfhoieaa.A
/-- All whole blocks are mixed in; the rest stays. -/
def absorb (K : List Int) : Nat → List Int → List Int → List Int × List Int
 | 0, S, L => (S, L)
 | m + 1, S, L => if L.length < 64 then (S, L) else absorb K m (mixP K S (L.take 64)) (L.drop 64)
theorem absorb_short (K : List Int) (m : Nat) (S L : List Int) (h : L.length < 64) : absorb K m S L = (S, L) := by
 cases m with
 | zero => rfl
 | succ m => rw [absorb, if_pos h]
theorem absorb_more (K : List Int) : ∀ (m : Nat) (S L : List Int), L.length ≤ m → ∀ j, absorb K (m + j) S L = absorb K m S L := by
 intro m
 induction m with
 | zero =>
  intro S L h j
  have : L = [] := List.eq_nil_of_length_eq_zero (by omega)
  subst this
  rw [absorb_short K _ S [] (by simp), absorb_short K _ S [] (by simp)]
 | succ m ih =>
  intro S L h j
  rw [show m + 1 + j = (m + j) + 1 by omega, absorb, absorb]
  split
  ·rfl
  ·exact ih _ _ (by rw [List.length_drop]; omega) j
theorem absorb_len (K : List Int) : ∀ (m : Nat) (S L : List Int), L.length ≤ m → (absorb K m S L).2.length < 64 := by
 intro m
 induction m with
 | zero =>
  intro S L h
  show L.length < 64
  omega
 | succ m ih =>
  intro S L h
  rw [absorb]
  split
  ·assumption
  ·exact ih _ _ (by rw [List.length_drop]; omega)
theorem absorb_state (K : List Int) : ∀ (m : Nat) (S L : List Int), (absorb K m S L).1.length = S.length := by
 intro m
 induction m with
 | zero => intro S L; rfl
 | succ m ih =>
  intro S L
  rw [absorb]
  split
  ·rfl
  ·rw [ih, mixP_length]
/-- One block. -/
theorem absorb_block (K S a b : List Int) (m : Nat) (h : a.length = 64) (hm : b.length ≤ m) : absorb K (m + 64) S (a ++ b) = absorb K m (mixP K S a) b := by
 rw [show m + 64 = (m + 63) + 1 by omega, absorb, if_neg (by simp; omega), List.take_left' h, List.drop_left' h, absorb_more K m _ b hm 63]
/-- All that came, and then more: as_ all at once. -/
theorem absorb_append (K : List Int) : ∀ (m : Nat) (S L M : List Int), L.length ≤ m → absorb K ((absorb K m S L).2.length + M.length) (absorb K m S L).1 ((absorb K m S L).2 ++ M) = absorb K (L.length + M.length) S (L ++ M) := by
 intro m
 induction m with
 | zero =>
  intro S L M h
  rfl
 | succ m ih =>
  intro S L M h
  rw [absorb]
  split
  ·rfl
  ·rename_i h64
   rw [ih _ _ _ (by rw [List.length_drop]; omega)]
   have e : L ++ M = L.take 64 ++ (L.drop 64 ++ M) := by rw [← List.append_assoc, List.take_append_drop]
   have e2 : L.length + M.length = ((L.drop 64).length + M.length) + 64 := by rw [List.length_drop]; omega
   rw [e, e2, absorb_block K S (L.take 64) (L.drop 64 ++ M) _ (by rw [List.length_take]; omega) (by rw [List.length_append]; omega)]
end Go.Proofs.Ytcdnmlfnfhoieaa.A

/- More on frames: what is read of a row of whole numbers stays. No condition. -/
namespace Go.Proofs.Ytcdnmlfnfhoieaa.Bs
open Go.RowKit Go.Proofs.YtcdnmlfnfhoieaaW.PrintWords Go.Proofs.YtcdnmlfnfhoieaaW.PrintLast Go.Proofs.YtcdnmlfnfhoieaaW.PrintMore
/-- What is read lies in no block of S. -/
def Out (S : Nat → Prop) (A : Option Addr) (n : Nat) : Prop := ∀ ad, A = some ad → 0 < n → ¬ S ad.block
theorem Out.mono {S S' : Nat → Prop} {A : Option Addr} {n : Nat} (h : Out S A n) (hs : ∀ k, S' k → S k) : Out S' A n := fun ad e hn hk => h ad e hn (hs _ hk)
theorem Out.len {S : Nat → Prop} {A : Option Addr} {n m : Nat} (h : Out S A n) (hm : m ≤ n) : Out S A m := fun ad e hn hk => h ad e (by omega) hk
theorem Out.cut {S : Nat → Prop} {A : Option Addr} {n m i j c : Nat} (h : Out S A n) (hm : m ≤ n) : Out S (if c = i then A else A.map (·.add j)) m := by
 intro ad e hn hk
 split at e
 ·exact h ad e (by omega) hk
 ·cases A with
  | none => cases e
  | some a =>
   injection e with e
   subst e
   exact h a rfl (by omega) (by rwa [add_block] at hk)
theorem C_frame {k : IntKind} {w w1 : World} {S : Nat → Prop} {A : Option Addr} {n : Nat} {xs : List Int} (h : (Kd.int k).C w A n xs) (hf : Fr w w1 S) (ho : Out S A n) : (Kd.int k).C w1 A n xs := by
 have hr : ReadsOf (Value.int k) (0 : Int) w A n xs := Kd.reads_of_C (d := (0 : Int)) h
 refine Kd.C_of_reads (d := (0 : Int)) ⟨hr.1, hr.2.1, fun hn => ?_⟩
 obtain ⟨ad, e, hc⟩ := hr.2.2 hn
 exact ⟨ad, e, fun j hj => hf.cell (hc j hj) (by rw [add_block]; exact ho ad e hn)⟩
end Go.Proofs.Ytcdnmlfnfhoieaa.Bs

/- (*sha.Hash).Write, walked. Conditions: those of its callers (fewer than 64 bytes stand over, what is written lies apart, sizes). -/
namespace Go.Proofs.Ytcdnmlfnfhoieaa.A
open Go.RowKit Go.Proofs.YtcdnmlfnfhoieaaW.PrintWords Go.Proofs.YtcdnmlfnfhoieaaW.PrintLast Go.Proofs.YtcdnmlfnfhoieaaW.PrintMore Go.Proofs.Ytcdnmlfnfhoieaa.Bs
attribute [local go_sem] max2_int min2_int max_two min_two max_three min_three max_four min_four
set_option linter.unusedVariables false
set_option linter.unusedSimpArgs false
/-- A Hash: its roots, its state, what stands over, how many bytes came. -/
def Hsh (w : World) (g : Nat) (P : Nat → Prop) (K S R : List Int) (n : Int) : Prop :=
 ∃ v, w.heap[g]? = some (.cells (hashC K S v n) 146 (0, 0)) ∧ (Kd.int .u8).R 5 w 0 P v R
theorem eight {S : List Int} (h : S.length = 8) : ∃ s0 s1 s2 s3 s4 s5 s6 s7, S = [s0, s1, s2, s3, s4, s5, s6, s7] := by
 match S, h with
 | [a, b, c, d, e, f, g, h], _ => exact ⟨a, b, c, d, e, f, g, h, rfl⟩
theorem hash_setCells {w : World} {g : Nat} {K S S2 : List Int} {v : Value} {n : Int} (hK : K.length = 64) (hS : S.length = 8) (hS2 : S2.length = 8) (h : w.heap[g]? = some (.cells (hashC K S v n) 146 (0, 0))) :
  (w.setCells g 64 (S2.map (Value.int .u32))).heap[g]? = some (.cells (hashC K S2 v n) 146 (0, 0)) := by
 obtain ⟨cur, h3, _, h5⟩ := setCells_row (S2.map (Value.int .u32)) 64 w (hashC K S v n) h (by rw [List.length_map, hS2, hashC_size _ _ _ _ hK hS]; decide)
 rw [h3]
 congr 2
 apply Array.ext'
 rw [h5]
 simp [hashC, List.take_append, List.drop_append, hK, hS, hS2]
theorem Fr.setCells {w w1 : World} {S : Nat → Prop} {g i : Nat} {vs : List Value} (h : Fr w w1 S) (hg : S g) : Fr w (w1.setCells g i vs) S := by
 obtain ⟨s1, s2, s3, s4⟩ := setCells_same g vs i w1
 exact h.trans (S2 := fun k => k = g) ⟨s1, s2, s3, by rw [s4]; exact Nat.le_refl _, fun k _ hk => setCells_far vs i k hk⟩ (fun k hk => by rw [hk]; exact .inl hg)
set_option maxHeartbeats 8000000 in
set_option maxRecDepth 100000 in
theorem sha_write {w : World} {g c : Nat} {P : Nat → Prop} {KW S R B : List Int} {n : Int} {A : Option Addr} (h : Hsh w g P KW S R n) (hg : ¬ P g) (hK : KW.length = 64) (hS : S.length = 8) (hR : R.length < 64) (hB : (Kd.int .u8).C w A B.length B) (hc : B.length ≤ c) (ho : Out (fun k => k = g ∨ P k) A B.length) (hn : 0 ≤ n) (hn2 : n + B.length < 4611686018427387904) (hb2 : B.length ≤ 70368744177664) :
  Calls Try.prog 73 #[.pointer (some ⟨g, 0, none⟩), .slice A B.length c] w fun e w' => e = .returned (.tuple #[]) ∧ Hsh w' g (fun k => P k ∨ w.heap.size ≤ k) KW (absorb KW (R.length + B.length) S (R ++ B)).1 (absorb KW (R.length + B.length) S (R ++ B)).2 (n + B.length) ∧ Fr w w' (fun k => k = g ∨ P k) := by
 obtain ⟨v, hb, hr⟩ := h
 have hV := hashC_getV KW S v n hK hS
 have c73 : w.cell? ⟨g, 73, none⟩ = some (.int .i64 n) := (blk_cell hb 73).trans hV.2
 have f73 : w.frozen? ⟨g, 73, none⟩ = false := blk_frozen hb 73
 obtain ⟨nn, hnn⟩ : ∃ m, n + (B.length : Int) = m := ⟨_, rfl⟩
 have hw : wrap64 (n + (B.length : Int)) = nn := by rw [wrap64_id _ (by omega) (by omega)]; exact hnn
 rw [hnn]
 obtain ⟨res, hres⟩ : ∃ r, absorb KW (R.length + B.length) S (R ++ B) = r := ⟨_, rfl⟩
 rw [hres]
 have HBB := Aside0.mk hB
 have HO := Aside0.mk ho
 have HRES := Aside0.mk hres
 have HK := Aside0.mk hK
 have HGP := Aside0.mk hg
 have HGL := Aside0.mk (blk_lt hb)
 have HB0 : Aside0 ((w.setCell ⟨g, 73, none⟩ (.int .i64 nn)).heap[g]? = some (.cells (hashC KW S v nn) 146 (0, 0))) := ⟨by rw [← hashC_setN KW S v n nn hK hS]; exact blk_set hb 73 _⟩
 have HR0 : Aside0 ((Kd.int .u8).R 5 (w.setCell ⟨g, 73, none⟩ (.int .i64 nn)) 0 P v R) := ⟨Kd.R_set hr hb (by decide) 73 _⟩
 have HF0 : Aside0 (Fr w (w.setCell ⟨g, 73, none⟩ (.int .i64 nn)) (fun k => k = g ∨ P k)) := ⟨(Fr.refl w _).setCell (.inl (.inl rfl)) _⟩
 have HH0 : Aside0 (Hsh (w.setCell ⟨g, 73, none⟩ (.int .i64 nn)) g (fun k => P k ∨ w.heap.size ≤ k) KW S R nn) := ⟨⟨v, HB0.out, Kd.R_mono HR0.out (fun k hk => .inl hk)⟩⟩
 have HS := Aside0.mk hS
 have HR := Aside0.mk hR
 have HC := Aside0.mk hc
 have HB2 := Aside0.mk hb2
 clear hb hr hV hB ho hres hK hg HB0 HR0 hS hR hc hb2 hn2 hn hnn
 have hu146 := Try.underlying146
 have hu23 := Try.underlying23
 have hu38 := Try.underlying38
 go_enter Try.func73, Try.ntmps73
 go_wp2
 clear c73 f73 hw
 go_loopg [1] B.length (fun kq v1 w' => ∃ (A' : Option Addr) (c' : Nat) (L S' R' : List Int), v1 = .slice A' L.length c' ∧ Aside0 (L.length = kq) ∧ Aside0 (L.length ≤ c' ∧ L.length ≤ 70368744177664) ∧ Aside0 ((Kd.int .u8).C w A' L.length L) ∧ Aside0 (Out (fun k => k = g ∨ P k) A' L.length) ∧ Aside0 (S'.length = 8) ∧ Aside0 (R'.length < 64) ∧ Aside0 (absorb KW (R'.length + L.length) S' (R' ++ L) = res) ∧ Aside0 (Hsh w' g (fun k => P k ∨ w.heap.size ≤ k) KW S' R' nn) ∧ Aside0 (Fr w w' (fun k => k = g ∨ P k)))
 case atStart => exact ⟨A, c, B, S, R, rfl, ⟨rfl⟩, ⟨HC.out, HB2.out⟩, HBB, HO, HS, HR, HRES, HH0, HF0⟩
 case round =>
  clear HBB HO HS HR HRES HH0 HF0 HC HB2
  obtain ⟨A', c', L, S', R', rfl, HI, HC, HBB, HO, HS, HR, HRES, HH, HF⟩ := hrel
  by_cases hl : 0 < L.length
  ·have d1 : decide (0 < L.length) = true := decide_eq_true hl
   obtain ⟨v, hb, hr⟩ := HH.out
   have hV := hashC_getV KW S' v nn HK.out HS.out
   obtain ⟨A1, n1, k1, rfl⟩ := R_shape hr
   have hn1 : n1 = R'.length := (Kd.R_reads' hr).1
   have hr64 : n1 < 64 := by rw [hn1]; exact HR.out
   have c72 : wr.cell? ⟨g, 72, none⟩ = some (.slice A1 n1 k1) := (blk_cell hb 72).trans hV.1
   have w64 : wrap64 (64 - (n1 : Int)) = ((64 - n1 : Nat) : Int) := by rw [wrap64_id _ (by omega) (by omega)]; omega
   obtain ⟨q, hq⟩ : ∃ q, 64 - n1 = q := ⟨_, rfl⟩
   rw [hq] at w64
   obtain ⟨m, hm⟩ : ∃ m, min q L.length = m := ⟨_, rfl⟩
   have hmn : (if L.length < q then (L.length : Int) else (q : Int)) = (m : Int) := by split <;> omega
   have hmn2 : (if q < L.length then (q : Int) else (L.length : Int)) = (m : Int) := by split <;> omega
   have hmL : m ≤ L.length := by omega
   have hcL : L.length ≤ c' := HC.out.1
   have hmc : m ≤ c' := by omega
   have HN1 := Aside0.mk hn1
   have HL0 := Aside0.mk hl
   have HQM : Aside0 (64 - n1 = q ∧ min q L.length = m) := ⟨⟨hq, hm⟩⟩
   have HBW := Aside0.mk (blk_drew hb)
   have HR4 : Aside0 ((Kd.int .u8).R 5 wr.drew 0 (fun k => P k ∨ w.heap.size ≤ k) (.slice A1 n1 k1) R') := ⟨Kd.R_drew hr⟩
   have HNE : Aside0 (some g ≠ (Value.slice A1 n1 k1).ownBlock) := ⟨Kd.R_ne hr hb (by decide)⟩
   have HV72 := Aside0.mk hV.1
   have hltk : (L.take m).length = m := by rw [List.length_take]; omega
   have HB4 : Aside0 ((Kd.int .u8).C wr.drew A' m (L.take m)) := ⟨by have := Kd.C_take (C_frame HBB.out (HF.out.drew) HO.out) hmL; rwa [hltk] at this⟩
   have HF4 : Aside0 (∀ k, wr.drew.heap.size ≤ k → P k ∨ w.heap.size ≤ k) := ⟨fun k hk => .inr (Nat.le_trans HF.out.size hk)⟩
   have HL4 : Aside0 ((R'.length + m) * 1 ≤ 140737488355328) := ⟨by have := HC.out.2; omega⟩
   clear hn1 hq hm hb hr hV hltk hr64 hl
   go_wp2
   refine start_ (n := 12) (S := fun w' => w'.cell? ⟨g, 72, none⟩ = some (.slice A1 n1 k1)) (ds := [11]) #[false, false, false, false, false, false, false, false, false, false, false, false] (by kernel_rfl) rfl rfl (c72) (fun hHeld => ?_)
   refine pure_ (i := 0) (N := some 28) (v := ?_) (a' := ?_) #[true, false, false, false, false, false, false, false, false, false, false, false] rfl rfl (by kernel_rfl) (fun _ _ _ h => h) (Or.inl ⟨by rfl, ?_⟩) ?_ ?_
   rotate_left
   ·intro w'
    go_simp
    with_reducible rfl
   rotate_left
   ·simp only [Act.put, List.setIfInBounds_toArray, List.set_cons_zero, List.set_cons_succ, i64_w, i32_w]
    rfl
   refine pure_ (i := 1) (N := some 29) (v := ?_) (a' := ?_) #[true, true, false, false, false, false, false, false, false, false, false, false] rfl rfl (by kernel_rfl) (fun _ _ _ h => h) (Or.inl ⟨by rfl, ?_⟩) ?_ ?_
   rotate_left
   ·intro w'
    go_simp
    with_reducible rfl
   rotate_left
   ·simp only [Act.put, List.setIfInBounds_toArray, List.set_cons_zero, List.set_cons_succ, i64_w, i32_w]
    rfl
   refine pure_ (i := 2) (N := some 30) (v := ?_) (a' := ?_) #[true, true, true, false, false, false, false, false, false, false, false, false] rfl rfl (by kernel_rfl) (fun _ _ _ h => h) (Or.inl ⟨by rfl, ?_⟩) ?_ ?_
   rotate_left
   ·intro w'
    go_simp
    with_reducible rfl
   rotate_left
   ·simp only [Act.put, List.setIfInBounds_toArray, List.set_cons_zero, List.set_cons_succ, i64_w, i32_w]
    rfl
   refine pure_ (i := 3) (N := some 31) (v := ?_) (a' := ?_) #[true, true, true, true, false, false, false, false, false, false, false, false] rfl rfl (by kernel_rfl) (fun _ _ _ h => h) (Or.inl ⟨by rfl, ?_⟩) ?_ ?_
   rotate_left
   ·intro w'
    go_simp
    with_reducible rfl
   rotate_left
   ·simp only [Act.put, List.setIfInBounds_toArray, List.set_cons_zero, List.set_cons_succ, i64_w, i32_w]
    rfl
   refine pure_ (i := 5) (N := some 33) (v := ?_) (a' := ?_) #[true, true, true, true, false, true, false, false, false, false, false, false] rfl rfl (by kernel_rfl) (fun _ _ _ h => h) (Or.inl ⟨by rfl, ?_⟩) ?_ ?_
   rotate_left
   ·intro w'
    go_simp
    with_reducible rfl
   rotate_left
   ·simp only [Act.put, List.setIfInBounds_toArray, List.set_cons_zero, List.set_cons_succ, i64_w, i32_w]
    rfl
   refine pure_ (i := 6) (N := some 34) (v := ?_) (a' := ?_) #[true, true, true, true, false, true, true, false, false, false, false, false] rfl rfl (by kernel_rfl) (fun _ _ _ h => h) (Or.inl ⟨by rfl, ?_⟩) ?_ ?_
   rotate_left
   ·intro w'
    go_simp
    with_reducible rfl
   rotate_left
   ·simp only [Act.put, List.setIfInBounds_toArray, List.set_cons_zero, List.set_cons_succ, i64_w, i32_w]
    rfl
   refine pure_ (i := 7) (N := some 35) (v := ?_) (a' := ?_) #[true, true, true, true, false, true, true, true, false, false, false, false] rfl rfl (by kernel_rfl) (fun _ _ _ h => h) (Or.inl ⟨by rfl, ?_⟩) ?_ ?_
   rotate_left
   ·intro w'
    go_simp
    with_reducible rfl
   rotate_left
   ·simp only [Act.put, List.setIfInBounds_toArray, List.set_cons_zero, List.set_cons_succ, i64_w, i32_w]
    rfl
   refine take_ (i := 4) (N := some 32) (v := ?_) (a' := ?_) #[true, true, true, true, true, true, true, true, false, false, false, false] rfl rfl (by kernel_rfl) (fun _ _ _ h => h) (Or.inl ⟨by rfl, ?_⟩) hHeld ?_ ?_
   rotate_left
   ·intro w' s0
    go_simp
    with_reducible rfl
   rotate_left
   ·simp only [Act.put, List.setIfInBounds_toArray, List.set_cons_zero, List.set_cons_succ, i64_w, i32_w]
    rfl
   refine one_ (i := 8) (N := some 36) #[true, true, true, true, true, true, true, true, true, false, false, false] rfl rfl (by kernel_rfl) (by decide) (fun K hK => ?_)
   refine Kd.R_append_rows_step (Kd.int .u8) (w0 := wr.drew) 0 (by rfl) (.tmp 32) (.tmp 35) 23 5 _ 1 (by rfl) Try.underlying23 info5 (by rfl) (by decide) (by decide) (.slice A1 n1 k1) R' (L.take m) A' m c' (fun k => P k ∨ w.heap.size ≤ k) (fun _ => False) rfl rfl HR4.out HB4.out (fun _ _ h => h) (fun _ h => h.elim) HF4.out (Below.refl _ _) (Nat.zero_le _) HL4.out ?_
   intro v1 w4 hr4 hb4 hg4 hat4
   clear hat4 hb4
   have HQ4 := Aside0.mk hr4
   have HG4 := Aside0.mk hg4
   have HB5 := Aside0.mk (blk_grown HBW.out hg4 HNE.out)
   clear hr4 hg4
   obtain ⟨A2, n2, k2, rfl⟩ := R_shape HQ4.out
   have c72b : w4.cell? ⟨g, 72, none⟩ = some (.slice A1 n1 k1) := (blk_cell HB5.out 72).trans HV72.out
   have f72b : w4.frozen? ⟨g, 72, none⟩ = false := blk_frozen HB5.out 72
   refine hK.out _ _ (c72b) (fun hHeld => ?_)
   clear hK K
   refine norm_ (a' := ?_) ?_ ?_
   rotate_left
   ·show Act.put _ (some 36) _ = _
    simp only [Act.put, List.setIfInBounds_toArray, List.set_cons_zero, List.set_cons_succ, i64_w, i32_w]
    rfl
   refine pure_ (i := 9) (N := some 37) (v := ?_) (a' := ?_) #[true, true, true, true, true, true, true, true, true, true, false, false] rfl rfl (by kernel_rfl) (fun _ _ _ h => h) (Or.inl ⟨by rfl, ?_⟩) ?_ ?_
   rotate_left
   ·intro w'
    go_simp
    with_reducible rfl
   rotate_left
   ·simp only [Act.put, List.setIfInBounds_toArray, List.set_cons_zero, List.set_cons_succ, i64_w, i32_w]
    rfl
   refine pure_ (i := 10) (N := some 38) (v := ?_) (a' := ?_) #[true, true, true, true, true, true, true, true, true, true, true, false] rfl rfl (by kernel_rfl) (fun _ _ _ h => h) (Or.inl ⟨by rfl, ?_⟩) ?_ ?_
   rotate_left
   ·intro w'
    go_simp
    with_reducible rfl
   rotate_left
   ·simp only [Act.put, List.setIfInBounds_toArray, List.set_cons_zero, List.set_cons_succ, i64_w, i32_w]
    rfl
   refine last_ (i := 11) (N := none) #[true, true, true, true, true, true, true, true, true, true, true, true] rfl rfl (by kernel_rfl) (by decide) (fun K hK => ?_)
   refine skip_ (w1 := ?_) (by rfl) rfl ?_ ?_
   rotate_left
   ·go_simp
    rfl
   refine hK.out _ _ ?_
   clear hK K
   refine done_ (by kernel_rfl) ?_
   have hx := HQM.out
   have hn1 := HN1.out
   have hn2 : n2 = (R' ++ L.take m).length := (Kd.R_reads' HQ4.out).1
   have hn2b : n2 = n1 + m := by rw [hn2, List.length_append, List.length_take, hn1]; omega
   have HH5 : Aside0 ((w4.setCell ⟨g, 72, none⟩ (.slice A2 n2 k2)).heap[g]? = some (.cells (hashC KW S' (.slice A2 n2 k2) nn) 146 (0, 0))) := ⟨by have := blk_set HB5.out 72 (.slice A2 n2 k2); rwa [hashC_setV _ _ _ _ _ HK.out HS.out] at this⟩
   have HR5 : Aside0 ((Kd.int .u8).R 5 (w4.setCell ⟨g, 72, none⟩ (.slice A2 n2 k2)) 0 (fun k => P k ∨ w.heap.size ≤ k) (.slice A2 n2 k2) (R' ++ L.take m)) := ⟨Kd.R_set HQ4.out HB5.out (by decide) 72 _⟩
   have HF5 : Aside0 (Fr w (w4.setCell ⟨g, 72, none⟩ (.slice A2 n2 k2)) (fun k => k = g ∨ P k)) := ⟨((HF.out.drew).grown HG4.out (fun k hk => (HR4.out.1 k hk).elim (fun h => .inl (.inr h)) .inr)).setCell (.inl (.inl rfl)) _⟩
   clear HG4 HB5 HQ4 HR4 HB4 HF4 HL4 HNE HBW HV72 HH HF c72 c72b f72b
   generalize w4.setCell ⟨g, 72, none⟩ (.slice A2 n2 k2) = w5 at HH5 HR5 HF5 ⊢
   have hV := hashC_getV KW S' (.slice A2 n2 k2) nn HK.out HS.out
   have c72 : w5.cell? ⟨g, 72, none⟩ = some (.slice A2 n2 k2) := (blk_cell HH5.out 72).trans hV.1
   have f72 : w5.frozen? ⟨g, 72, none⟩ = false := blk_frozen HH5.out 72
   have HBL : Aside0 ((Kd.int .u8).C w (if c' = m then A' else A'.map (·.add (m * 1))) (L.drop m).length (L.drop m)) := ⟨Kd.C_drop HBB.out hmL HC.out.1⟩
   have HOL : Aside0 (Out (fun k => k = g ∨ P k) (if c' = m then A' else A'.map (·.add (m * 1))) (L.drop m).length) := ⟨Out.cut (m := (L.drop m).length) HO.out (by rw [List.length_drop]; omega)⟩
   obtain ⟨AA, hAA⟩ : ∃ AA, (if c' = m then A' else A'.map (·.add (m * 1))) = AA := ⟨_, rfl⟩
   obtain ⟨LL, hLL⟩ : ∃ LL, L.drop m = LL := ⟨_, rfl⟩
   obtain ⟨cc, hcc⟩ : ∃ cc, c' - m = cc := ⟨_, rfl⟩
   rw [hAA, hLL] at HBL HOL
   have HLL := Aside0.mk hLL
   have HCC : Aside0 (LL.length ≤ cc ∧ LL.length ≤ 70368744177664) := ⟨by rw [← hLL, ← hcc, List.length_drop]; have := HC.out; omega⟩
   obtain ⟨i5, hi5, hs5⟩ : ∃ i, Try.prog.info? 5 = some i ∧ i.size = 1 := by
    obtain ⟨i, h1, h2⟩ := Option.map_eq_some_iff.1 info5
    exact ⟨i, h1, by simp only [Prod.mk.injEq] at h2; exact h2.2.1⟩
   have hcut : ∀ W : World, (Instr.slice 23 (.slice A' L.length c') (some (.int .i64 (m : Int))) none none).run Try.prog W = .ok (.slice AA LL.length cc) W := by
    intro W
    have := cut_from (P := Try.prog) 23 5 .i64 Try.underlying23 hi5 1 hs5 A' L.length c' (m : Int) (by omega) (by omega) W
    rw [Int.toNat_natCast] at this
    rw [this, hAA, ← hLL, List.length_drop, hcc]
   clear hAA hLL hcc hi5 hs5
   have HN2 := Aside0.mk hn2
   have HN2B := Aside0.mk hn2b
   have HML := Aside0.mk hmL
   clear hV hx hn2
   by_cases h64 : n2 = 64
   ·have d64 : ((n2 : Int) == 64) = true := beq_iff_eq.mpr (by omega)
    clear hn2b hn1
    subst h64
    obtain ⟨b, o, rfl, hblt, hcells⟩ := C_int_lit (k := .u8) (Kd.R_reads' (Kd.R_drew HR5.out)).2.2 (by rw [← HN2.out]; decide)
    have HMX : Aside0 (Calls Try.prog 71 #[.pointer (some ⟨g, 0, none⟩), .agg (cs32 S'), .slice (some ⟨b, o, none⟩) 64 k2] w5.drew fun e w' => e = .returned (.agg (cs32 (mixP KW S' (R' ++ L.take m)))) ∧ Below w5.drew.heap.size w5.drew w') :=
     ⟨mix_walk (fun i hi => ((blk_cell (blk_drew HH5.out) i).trans (hashC_getK KW S' _ nn i (by rw [HK.out]; exact hi)))) (fun i hi => hcells i (by rw [← HN2.out]; exact hi)) HS.out (Kd.R_reads' HR5.out).2.1⟩
    obtain ⟨s0, s1, s2, s3, s4, s5, s6, s7, rfl⟩ := eight HS.out
    replace HMX : Aside0 (Calls Try.prog 71 #[.pointer (some ⟨g, 0, none⟩), .agg #[.int .u32 s0, .int .u32 s1, .int .u32 s2, .int .u32 s3, .int .u32 s4, .int .u32 s5, .int .u32 s6, .int .u32 s7], .slice (some ⟨b, o, none⟩) 64 k2] w5.drew fun e w' => e = .returned (.agg (cs32 (mixP KW [s0, s1, s2, s3, s4, s5, s6, s7] (R' ++ L.take m)))) ∧ Below w5.drew.heap.size w5.drew w') := HMX
    obtain ⟨S2, hS2⟩ : ∃ S2, mixP KW [s0, s1, s2, s3, s4, s5, s6, s7] (R' ++ L.take m) = S2 := ⟨_, rfl⟩
    rw [hS2] at HMX
    have hS2l : S2.length = 8 := by rw [← hS2, mixP_length]; exact HS.out
    have HST : Aside0 (∀ W : World, W.heap[g]? = some (.cells (hashC KW [s0, s1, s2, s3, s4, s5, s6, s7] (.slice (some ⟨b, o, none⟩) 64 k2) nn) 146 (0, 0)) → (storeCells ⟨g, 64, none⟩ (cs32 S2).toList).run Try.prog W = .ok () (W.setCells g 64 (S2.map (Value.int .u32)))) :=
     ⟨fun W hW => by
      have e : (cs32 S2).toList = S2.map (Value.int .u32) := by simp [cs32]
      have hst := run_storeCells_cells (P := Try.prog) g 64 (S2.map (Value.int .u32)) 0 W (fun j hj => by rw [List.length_map, hS2l] at hj; rw [cell_of_row W g _ _ 146 (0, 0) hW]; simp [hashC_size _ _ _ _ HK.out HS.out]; omega) (fun j _ => blk_frozen hW _) (by simp [Value.oneCell'])
      rw [e]
      exact hst⟩
    have HSZ : Aside0 ((cs32 S2).size = 8) := ⟨by rw [cs32_size, hS2l]⟩
    have HS2 := Aside0.mk hS2
    have HS2L := Aside0.mk hS2l
    clear hS2 hS2l hcells hblt
    go_wp2
    refine start_ (n := 16) (S := fun w' => w'.cell? ⟨g, 72, none⟩ = some (.slice (some ⟨b, o, none⟩) 64 k2) ∧ w'.cell? ⟨g, 64, none⟩ = some (.int .u32 s0) ∧ w'.cell? ⟨g, 65, none⟩ = some (.int .u32 s1) ∧ w'.cell? ⟨g, 66, none⟩ = some (.int .u32 s2) ∧ w'.cell? ⟨g, 67, none⟩ = some (.int .u32 s3) ∧ w'.cell? ⟨g, 68, none⟩ = some (.int .u32 s4) ∧ w'.cell? ⟨g, 69, none⟩ = some (.int .u32 s5) ∧ w'.cell? ⟨g, 70, none⟩ = some (.int .u32 s6) ∧ w'.cell? ⟨g, 71, none⟩ = some (.int .u32 s7)) (ds := [15]) #[false, false, false, false, false, false, false, false, false, false, false, false, false, false, false, false] (by kernel_rfl) rfl rfl ⟨c72, (blk_cell (blk_drew HH5.out) 64).trans (hashC_getS KW [s0, s1, s2, s3, s4, s5, s6, s7] _ nn 0 HK.out (by simp)), (blk_cell (blk_drew HH5.out) 65).trans (hashC_getS KW [s0, s1, s2, s3, s4, s5, s6, s7] _ nn 1 HK.out (by simp)), (blk_cell (blk_drew HH5.out) 66).trans (hashC_getS KW [s0, s1, s2, s3, s4, s5, s6, s7] _ nn 2 HK.out (by simp)), (blk_cell (blk_drew HH5.out) 67).trans (hashC_getS KW [s0, s1, s2, s3, s4, s5, s6, s7] _ nn 3 HK.out (by simp)), (blk_cell (blk_drew HH5.out) 68).trans (hashC_getS KW [s0, s1, s2, s3, s4, s5, s6, s7] _ nn 4 HK.out (by simp)), (blk_cell (blk_drew HH5.out) 69).trans (hashC_getS KW [s0, s1, s2, s3, s4, s5, s6, s7] _ nn 5 HK.out (by simp)), (blk_cell (blk_drew HH5.out) 70).trans (hashC_getS KW [s0, s1, s2, s3, s4, s5, s6, s7] _ nn 6 HK.out (by simp)), (blk_cell (blk_drew HH5.out) 71).trans (hashC_getS KW [s0, s1, s2, s3, s4, s5, s6, s7] _ nn 7 HK.out (by simp))⟩ (fun hHeld => ?_)
    refine pure_ (i := 0) (N := some 48) (v := ?_) (a' := ?_) #[true, false, false, false, false, false, false, false, false, false, false, false, false, false, false, false] rfl rfl (by kernel_rfl) (fun _ _ _ h => h) (Or.inl ⟨by rfl, ?_⟩) ?_ ?_
    rotate_left
    ·intro w'
     go_simp
     with_reducible rfl
    rotate_left
    ·simp only [Act.put, List.setIfInBounds_toArray, List.set_cons_zero, List.set_cons_succ, i64_w, i32_w]
     rfl
    refine pure_ (i := 1) (N := some 49) (v := ?_) (a' := ?_) #[true, true, false, false, false, false, false, false, false, false, false, false, false, false, false, false] rfl rfl (by kernel_rfl) (fun _ _ _ h => h) (Or.inl ⟨by rfl, ?_⟩) ?_ ?_
    rotate_left
    ·intro w'
     go_simp
     with_reducible rfl
    rotate_left
    ·simp only [Act.put, List.setIfInBounds_toArray, List.set_cons_zero, List.set_cons_succ, i64_w, i32_w]
     rfl
    refine pure_ (i := 2) (N := some 50) (v := ?_) (a' := ?_) #[true, true, true, false, false, false, false, false, false, false, false, false, false, false, false, false] rfl rfl (by kernel_rfl) (fun _ _ _ h => h) (Or.inl ⟨by rfl, ?_⟩) ?_ ?_
    rotate_left
    ·intro w'
     go_simp
     with_reducible rfl
    rotate_left
    ·simp only [Act.put, List.setIfInBounds_toArray, List.set_cons_zero, List.set_cons_succ, i64_w, i32_w]
     rfl
    refine pure_ (i := 3) (N := some 51) (v := ?_) (a' := ?_) #[true, true, true, true, false, false, false, false, false, false, false, false, false, false, false, false] rfl rfl (by kernel_rfl) (fun _ _ _ h => h) (Or.inl ⟨by rfl, ?_⟩) ?_ ?_
    rotate_left
    ·intro w'
     go_simp
     with_reducible rfl
    rotate_left
    ·simp only [Act.put, List.setIfInBounds_toArray, List.set_cons_zero, List.set_cons_succ, i64_w, i32_w]
     rfl
    refine pure_ (i := 4) (N := some 52) (v := ?_) (a' := ?_) #[true, true, true, true, true, false, false, false, false, false, false, false, false, false, false, false] rfl rfl (by kernel_rfl) (fun _ _ _ h => h) (Or.inl ⟨by rfl, ?_⟩) ?_ ?_
    rotate_left
    ·intro w'
     go_simp
     with_reducible rfl
    rotate_left
    ·simp only [Act.put, List.setIfInBounds_toArray, List.set_cons_zero, List.set_cons_succ, i64_w, i32_w]
     rfl
    refine pure_ (i := 5) (N := some 53) (v := ?_) (a' := ?_) #[true, true, true, true, true, true, false, false, false, false, false, false, false, false, false, false] rfl rfl (by kernel_rfl) (fun _ _ _ h => h) (Or.inl ⟨by rfl, ?_⟩) ?_ ?_
    rotate_left
    ·intro w'
     go_simp
     with_reducible rfl
    rotate_left
    ·simp only [Act.put, List.setIfInBounds_toArray, List.set_cons_zero, List.set_cons_succ, i64_w, i32_w]
     rfl
    refine pure_ (i := 6) (N := some 54) (v := ?_) (a' := ?_) #[true, true, true, true, true, true, true, false, false, false, false, false, false, false, false, false] rfl rfl (by kernel_rfl) (fun _ _ _ h => h) (Or.inl ⟨by rfl, ?_⟩) ?_ ?_
    rotate_left
    ·intro w'
     go_simp
     with_reducible rfl
    rotate_left
    ·simp only [Act.put, List.setIfInBounds_toArray, List.set_cons_zero, List.set_cons_succ, i64_w, i32_w]
     rfl
    refine pure_ (i := 8) (N := some 56) (v := ?_) (a' := ?_) #[true, true, true, true, true, true, true, false, true, false, false, false, false, false, false, false] rfl rfl (by kernel_rfl) (fun _ _ _ h => h) (Or.inl ⟨by rfl, ?_⟩) ?_ ?_
    rotate_left
    ·intro w'
     go_simp
     with_reducible rfl
    rotate_left
    ·simp only [Act.put, List.setIfInBounds_toArray, List.set_cons_zero, List.set_cons_succ, i64_w, i32_w]
     rfl
    refine pure_ (i := 9) (N := some 57) (v := ?_) (a' := ?_) #[true, true, true, true, true, true, true, false, true, true, false, false, false, false, false, false] rfl rfl (by kernel_rfl) (fun _ _ _ h => h) (Or.inl ⟨by rfl, ?_⟩) ?_ ?_
    rotate_left
    ·intro w'
     go_simp
     with_reducible rfl
    rotate_left
    ·simp only [Act.put, List.setIfInBounds_toArray, List.set_cons_zero, List.set_cons_succ, i64_w, i32_w]
     rfl
    refine pure_ (i := 10) (N := some 58) (v := ?_) (a' := ?_) #[true, true, true, true, true, true, true, false, true, true, true, false, false, false, false, false] rfl rfl (by kernel_rfl) (fun _ _ _ h => h) (Or.inl ⟨by rfl, ?_⟩) ?_ ?_
    rotate_left
    ·intro w'
     go_simp
     with_reducible rfl
    rotate_left
    ·simp only [Act.put, List.setIfInBounds_toArray, List.set_cons_zero, List.set_cons_succ, i64_w, i32_w]
     rfl
    refine take_ (i := 7) (N := some 55) (v := ?_) (a' := ?_) #[true, true, true, true, true, true, true, true, true, true, true, false, false, false, false, false] rfl rfl (by kernel_rfl) (fun _ _ _ h => h) (Or.inl ⟨by rfl, ?_⟩) hHeld ?_ ?_
    rotate_left
    ·rintro w' ⟨s0, s1, s2, s3, s4, s5, s6, s7, s8⟩
     go_simp
     with_reducible rfl
    rotate_left
    ·simp only [Act.put, List.setIfInBounds_toArray, List.set_cons_zero, List.set_cons_succ, i64_w, i32_w]
     rfl
    refine take_ (i := 11) (N := some 59) (v := ?_) (a' := ?_) #[true, true, true, true, true, true, true, true, true, true, true, true, false, false, false, false] rfl rfl (by kernel_rfl) (fun _ _ _ h => h) (Or.inl ⟨by rfl, ?_⟩) hHeld ?_ ?_
    rotate_left
    ·rintro w' ⟨s0, s1, s2, s3, s4, s5, s6, s7, s8⟩
     go_simp
     with_reducible rfl
    rotate_left
    ·simp only [Act.put, List.setIfInBounds_toArray, List.set_cons_zero, List.set_cons_succ, i64_w, i32_w]
     rfl
    refine one_ (i := 12) (N := some 60) #[true, true, true, true, true, true, true, true, true, true, true, true, true, false, false, false] rfl rfl (by kernel_rfl) (by decide) (fun K hK => ?_)
    refine goes_ Try.func71 (by kernel_rfl) rfl #[.pointer (some ⟨g, 0, none⟩), .agg #[.int .u32 s0, .int .u32 s1, .int .u32 s2, .int .u32 s3, .int .u32 s4, .int .u32 s5, .int .u32 s6, .int .u32 s7], .slice (some ⟨b, o, none⟩) 64 k2] (by rfl) rfl rfl (by simp only [List.map_toArray, List.map_cons, List.map_nil]; rfl) ?_
    with_reducible refine (HMX.out).mono ?_
    rintro e w6 ⟨rfl, hb6⟩
    refine ⟨_, rfl, ?_⟩
    have HL6 := Aside0.mk hb6
    have HH6 := Aside0.mk (blk_below (blk_drew HH5.out) hb6)
    clear hb6
    have c72c : w6.cell? ⟨g, 72, none⟩ = some (.slice (some ⟨b, o, none⟩) 64 k2) := pw_cell_below HL6.out c72
    refine hK.out _ _ ⟨c72c, (blk_cell HH6.out 64).trans (hashC_getS KW [s0, s1, s2, s3, s4, s5, s6, s7] _ nn 0 HK.out (by simp)), (blk_cell HH6.out 65).trans (hashC_getS KW [s0, s1, s2, s3, s4, s5, s6, s7] _ nn 1 HK.out (by simp)), (blk_cell HH6.out 66).trans (hashC_getS KW [s0, s1, s2, s3, s4, s5, s6, s7] _ nn 2 HK.out (by simp)), (blk_cell HH6.out 67).trans (hashC_getS KW [s0, s1, s2, s3, s4, s5, s6, s7] _ nn 3 HK.out (by simp)), (blk_cell HH6.out 68).trans (hashC_getS KW [s0, s1, s2, s3, s4, s5, s6, s7] _ nn 4 HK.out (by simp)), (blk_cell HH6.out 69).trans (hashC_getS KW [s0, s1, s2, s3, s4, s5, s6, s7] _ nn 5 HK.out (by simp)), (blk_cell HH6.out 70).trans (hashC_getS KW [s0, s1, s2, s3, s4, s5, s6, s7] _ nn 6 HK.out (by simp)), (blk_cell HH6.out 71).trans (hashC_getS KW [s0, s1, s2, s3, s4, s5, s6, s7] _ nn 7 HK.out (by simp))⟩ (fun hHeld => ?_)
    clear hK K
    refine norm_ (a' := ?_) ?_ ?_
    rotate_left
    ·show Act.put _ (some 60) _ = _
     simp only [Act.put, List.setIfInBounds_toArray, List.set_cons_zero, List.set_cons_succ, i64_w, i32_w]
     rfl
    refine pure_ (i := 13) (N := some 61) (v := ?_) (a' := ?_) #[true, true, true, true, true, true, true, true, true, true, true, true, true, true, false, false] rfl rfl (by kernel_rfl) (fun _ _ _ h => h) (Or.inl ⟨by rfl, ?_⟩) ?_ ?_
    rotate_left
    ·intro w'
     go_simp
     with_reducible rfl
    rotate_left
    ·simp only [Act.put, List.setIfInBounds_toArray, List.set_cons_zero, List.set_cons_succ, i64_w, i32_w]
     rfl
    refine pure_ (i := 14) (N := some 62) (v := ?_) (a' := ?_) #[true, true, true, true, true, true, true, true, true, true, true, true, true, true, true, false] rfl rfl (by kernel_rfl) (fun _ _ _ h => h) (Or.inl ⟨by rfl, ?_⟩) ?_ ?_
    rotate_left
    ·intro w'
     go_simp
     with_reducible rfl
    rotate_left
    ·simp only [Act.put, List.setIfInBounds_toArray, List.set_cons_zero, List.set_cons_succ, i64_w, i32_w]
     rfl
    refine last_ (i := 15) (N := none) #[true, true, true, true, true, true, true, true, true, true, true, true, true, true, true, true] rfl rfl (by kernel_rfl) (by decide) (fun K hK => ?_)
    have hst := HST.out w6 HH6.out
    have hsz := HSZ.out
    refine skip_ (w1 := ?_) (by rfl) rfl ?_ ?_
    rotate_left
    ·go_simp
     rfl
    refine hK.out _ _ ?_
    clear hK K
    refine done_ (by kernel_rfl) ?_
    have HH7 : Aside0 ((w6.setCells g 64 (S2.map (Value.int .u32))).heap[g]? = some (.cells (hashC KW S2 (.slice (some ⟨b, o, none⟩) 64 k2) nn) 146 (0, 0))) := ⟨hash_setCells HK.out HS.out HS2L.out HH6.out⟩
    have HR7 : Aside0 ((Kd.int .u8).R 5 (w6.setCells g 64 (S2.map (Value.int .u32))) 0 (fun k => P k ∨ w.heap.size ≤ k) (.slice (some ⟨b, o, none⟩) 64 k2) (R' ++ L.take m)) := ⟨Kd.R_move (Kd.R_below (Kd.R_drew HR5.out) HL6.out) (fun k hk => setCells_far _ _ k (fun e => by subst e; rcases hk with hk | hk; exact HGP.out hk; exact absurd HGL.out (by omega)))⟩
    have HF7 : Aside0 (Fr w (w6.setCells g 64 (S2.map (Value.int .u32))) (fun k => k = g ∨ P k)) := ⟨Fr.setCells ((HF5.out.drew).below HL6.out) (.inl rfl)⟩
    clear hHeld c72c hst hsz HL6 HH6 HST HSZ HMX HH5 HR5 HF5 c72 f72
    generalize w6.setCells g 64 (S2.map (Value.int .u32)) = w7 at HH7 HR7 HF7 ⊢
    have c72 : w7.cell? ⟨g, 72, none⟩ = some (.slice (some ⟨b, o, none⟩) 64 k2) := (blk_cell HH7.out 72).trans (hashC_getV KW S2 _ nn HK.out HS2L.out).1
    have f72 : w7.frozen? ⟨g, 72, none⟩ = false := blk_frozen HH7.out 72
    go_wp2
    go_roundg LL.length
    case measure => have := HI.out; have h := congrArg List.length HLL.out; rw [List.length_drop] at h; have := HN2B.out; have := HN1.out; have := HR.out; have := HL0.out; omega
    case rel =>
     have e : R' ++ L = (R' ++ L.take m) ++ LL := by rw [List.append_assoc, ← HLL.out, List.take_append_drop]
     have el : R'.length + L.length = LL.length + 64 := by rw [← List.length_append, e, List.length_append, ← HN2.out]; omega
     have hab : absorb KW (([] : List Int).length + LL.length) S2 ([] ++ LL) = res := by
      have := HRES.out
      rw [el, e, absorb_block KW _ (R' ++ L.take m) LL _ HN2.out.symm (Nat.le_refl _), HS2.out] at this
      simpa using this
     have h1 := blk_set HH7.out 72 (.slice (some ⟨b, o, none⟩) 0 k2)
     rw [hashC_setV _ _ _ _ _ HK.out HS2L.out] at h1
     have h2 := Kd.R_set (Kd.R_take (m := 0) HR7.out (by omega)) HH7.out (by decide) 72 (.slice (some ⟨b, o, none⟩) 0 k2)
     exact ⟨AA, cc, LL, S2, [], rfl, ⟨rfl⟩, HCC, HBL, HOL, HS2L, ⟨by decide⟩, ⟨hab⟩, ⟨⟨_, h1, h2⟩⟩, ⟨HF7.out.setCell (.inl (.inl rfl)) _⟩⟩
   ·have d64 : ((n2 : Int) == 64) = false := beq_eq_false_iff_ne.mpr (by omega)
    clear hn2b hn1
    go_wp2
    go_roundg LL.length
    case measure => have := HI.out; have := HLL.out; have := HQM.out; have h := congrArg List.length HLL.out; rw [List.length_drop] at h; have := HN2B.out; have := HN1.out; have := HR.out; have := HL0.out; omega
    case rel =>
     have e : R' ++ L.take m ++ LL = R' ++ L := by rw [List.append_assoc, ← HLL.out, List.take_append_drop]
     have el : (R' ++ L.take m).length + LL.length = R'.length + L.length := by rw [← List.length_append, e, List.length_append]
     refine ⟨AA, cc, LL, S', R' ++ L.take m, rfl, ⟨rfl⟩, HCC, HBL, HOL, HS, ⟨by rw [← HN2.out]; have := HQM.out; have := HN2B.out; have := HN1.out; have := HR.out; omega⟩, ⟨by rw [el, e]; exact HRES.out⟩, ⟨⟨_, HH5.out, HR5.out⟩⟩, HF5⟩
  ·have hl0 : L.length = 0 := by omega
   obtain rfl := List.eq_nil_of_length_eq_zero hl0
   have d1 : decide (0 < ([] : List Int).length) = false := by simp
   clear hl hl0
   go_wp2
   go_end0
   have := HRES.out
   rw [List.append_nil, absorb_short KW _ _ _ HR.out] at this
   rw [← this]
   exact ⟨rfl, HH.out, HF.out⟩
end Go.Proofs.Ytcdnmlfnfhoieaa.A

namespace Go.Proofs.Ytcdnmlfnfhoieaa.A
open Go.RowKit Go.Proofs.YtcdnmlfnfhoieaaW.PrintWords Go.Proofs.YtcdnmlfnfhoieaaW.PrintLast Go.Proofs.YtcdnmlfnfhoieaaW.PrintMore
attribute [local go_sem] max2_int min2_int max_two min_two max_three min_three max_four min_four
set_option linter.unusedVariables false
set_option linter.unusedSimpArgs false
/-! ### sha_Pad: function 25 -/
mutual
def sha_Pad.l0 : Nat → Int → List Int → Option (List Int)
 | 0, _, _ => none
 | k + 1, x0, x3 => if (Int.tmod (wrap64 ((wrap64 ((Int.tmod x0 64) + (x3.length : Int))) + 8)) 64) = 0 then (sha_Pad.l1 k x3 (IntKind.u64.wrap ((IntKind.u64.wrap (x0)) * 8)) 0) else (if x3.length < 140737488355328 then (sha_Pad.l0 k x0 (x3 ++ [0])) else (none))
def sha_Pad.l1 : Nat → List Int → Int → Int → Option (List Int)
 | 0, _, _, _ => none
 | k + 1, x3, x4, x23 => if x23 < 8 then (if 0 ≤ (wrap64 (56 - (wrap64 (8 * x23)))) then (if x3.length < 140737488355328 then (sha_Pad.l1 k (x3 ++ [(shr .u64 x4 (wrap64 (56 - (wrap64 (8 * x23))))) % 256]) x4 (wrap64 (x23 + 1))) else (none)) else (none)) else (some x3)
end
def sha_Pad.f (k : Nat) (a0 : Int) : Option (List Int) := if a0 < 0 then (some ([] : List Int)) else (sha_Pad.l0 k a0 (([128] : List Int)))
theorem sha_Pad.mono_l : ∀ k, (∀ y0 y1, LeO (sha_Pad.l0 k y0 y1) (sha_Pad.l0 (k + 1) y0 y1)) ∧ (∀ y0 y1 y2, LeO (sha_Pad.l1 k y0 y1 y2) (sha_Pad.l1 (k + 1) y0 y1 y2))
 | 0 => ⟨fun _ _ r h => by simp [sha_Pad.l0] at h, fun _ _ _ r h => by simp [sha_Pad.l1] at h⟩
 | k + 1 => by
  obtain ⟨ih0, ih1⟩ := sha_Pad.mono_l k
  refine ⟨?_, ?_⟩
  ·intro y0 y1
   unfold sha_Pad.l0
   repeat' first
   | (with_reducible exact ih0 _ _)
   | (with_reducible exact ih1 _ _ _)
   | (with_reducible exact LeO.refl _)
   | (with_reducible exact LeO.none _)
   | (with_reducible refine LeO.ite ?_ ?_)
   | (with_reducible refine LeO.bind ?_ (fun _ => ?_))
   | exact ih0 _ _
   | exact ih1 _ _ _
   | exact LeO.none _
   | refine LeO.ite ?_ ?_
   | refine LeO.bind ?_ (fun _ => ?_)
  ·intro y0 y1 y2
   unfold sha_Pad.l1
   repeat' first
   | (with_reducible exact ih0 _ _)
   | (with_reducible exact ih1 _ _ _)
   | (with_reducible exact LeO.refl _)
   | (with_reducible exact LeO.none _)
   | (with_reducible refine LeO.ite ?_ ?_)
   | (with_reducible refine LeO.bind ?_ (fun _ => ?_))
   | exact ih0 _ _
   | exact ih1 _ _ _
   | exact LeO.none _
   | refine LeO.ite ?_ ?_
   | refine LeO.bind ?_ (fun _ => ?_)
theorem sha_Pad.mono : ∀ a0 k, LeO (sha_Pad.f k a0) (sha_Pad.f (k + 1) a0) := by
 intro a0 k
 obtain ⟨ih0, ih1⟩ := sha_Pad.mono_l k
 unfold sha_Pad.f
 repeat' first
   | (with_reducible exact ih0 _ _)
   | (with_reducible exact ih1 _ _ _)
   | (with_reducible exact LeO.refl _)
   | (with_reducible exact LeO.none _)
   | (with_reducible refine LeO.ite ?_ ?_)
   | (with_reducible refine LeO.bind ?_ (fun _ => ?_))
   | exact ih0 _ _
   | exact ih1 _ _ _
   | exact LeO.none _
   | refine LeO.ite ?_ ?_
   | refine LeO.bind ?_ (fun _ => ?_)
set_option maxHeartbeats 8000000 in
set_option maxRecDepth 100000 in
theorem sha_Pad.calls (k : Nat) (a0 : Int) (r : List Int) (w : World) (h : sha_Pad.f k a0 = some r) :
  Calls Try.prog 25 #[.int .i64 a0] w fun e w' => ∃ v0_ : Value, e = .returned (v0_) ∧ Kd.R (Kd.int .u8) 5 w' w.heap.size (fun _ => True) v0_ r ∧ Below w.heap.size w w' := by
 have HB := Aside0.mk (Below.refl w.heap.size w)
 have H : (if a0 < 0 then (some ([] : List Int)) else (sha_Pad.l0 k a0 (([128] : List Int)))) = some r := h
 clear h
 by_cases c2 : a0 < 0
 ·rw [if_pos c2] at H
  have c2b0 : decide (a0 < 0) = true := decide_eq_true c2
  clear c2
  obtain rfl := Option.some.inj H
  go_enter Try.func25, Try.ntmps25
  go_wp2
  go_ret
  exact ⟨_, by first | rfl | (simp [errW_none, errW_some] <;> rfl) | (simp [*, errW_none, errW_some] <;> rfl), by first | exact Kd.R_nil _ _ _ _ _ | exact Kd.N_nil _ _ _ _ _ | exact Kd.V_nil _ _ _ _ _ | exact Kd.Q_nil _ _ _ _ _ | exact Kd.S_nil _ _ _ _ _, by repeat (first | (with_reducible first | exact HB.out | apply below_alloc | apply pw_below_drewN | apply below_drew1) | exact HB.out)⟩
 ·rw [if_neg c2] at H
  have c2b0 : decide (a0 < 0) = false := decide_eq_false c2
  clear c2
  obtain ⟨y113, hy113⟩ : ∃ y_ : List Int, y_ = (([128] : List Int)) := ⟨_, rfl⟩
  replace H : (sha_Pad.l0 k a0 y113) = some r := by first | (rw [hy113]; with_reducible exact H) | (have H2_ := (Option.bind_some _ _).symm.trans H; rw [hy113]; with_reducible exact H2_) | (have H2_ := (Option.bind_some _ _).symm.trans H; with_reducible exact H2_) | with_reducible exact H | (rw [hy113]; exact H) | exact H
  have Ny113 := Aside0.mk hy113
  clear hy113
  have H' := Aside0.mk H
  clear H
  go_enter Try.func25, Try.ntmps25
  go_wp2_with (first | ((with_reducible refine gate_dst (N := 8) rfl ?_); refine Kd.R_lit (Kd.int .u8) _ 5 ?hg (N := 8) ?hd (xs := ([128] : List Int)) (inner := [.int .u8 128]) (ok := fun _ => True) (okp := fun _ => True) ?hr ?hp (fun _ hk => hk) trivial (Below.refl _ _) (Nat.le_refl _) (by simp) ?_; (case hd => rfl); (case hg => rfl); (case hr => first | (go_simp; done) | (go_simp; rfl)); (case hp => exact (Reps.one (show Kd.M (Kd.int .u8) _ _ _ 128 [.int .u8 128] from rfl) (Reps.none _ _))); intro v114 w3 ho4 hb hg_ hnew_; clear hg_ hnew_; (first | rw [← Ny113.out] at ho4 | (simp only [Int.reduceToNat] at ho4; rw [← Ny113.out] at ho4)); have n0_ := Aside0.mk (Kd.R_lower ho4 (below_size (by repeat (first | (with_reducible first | exact HB.out | apply below_alloc | apply pw_below_drewN | apply below_drew1) | exact HB.out)))); have n1_ := Aside0.mk (below_step (by repeat (first | (with_reducible first | exact HB.out | apply below_alloc | apply pw_below_drewN | apply below_drew1) | exact HB.out)) hb); clear HB; have HO115 := n0_; have HB := n1_; clear n0_ n1_; clear hb ho4))
  go_loopg [3] k (fun kq v3 w' => ∃ (x3_1 : List Int), Aside0 (sha_Pad.l0 kq a0 x3_1 = some r) ∧ Aside0 (kq ≤ k) ∧ Aside0 (Kd.R (Kd.int .u8) 5 w' w.heap.size (fun _ => True) v3 x3_1) ∧ Aside0 (Below w.heap.size w w'))
  case atStart => exact ⟨(y113), H', ⟨Nat.le_refl _⟩, ⟨by (with_reducible repeat (first | apply Kd.R_alloc | apply Kd.R_drewN | apply Kd.R_drew)); exact HO115.out⟩, ⟨by repeat (first | (with_reducible first | exact HB.out | apply below_alloc | apply pw_below_drewN | apply below_drew1) | exact HB.out)⟩⟩
  case round =>
   clear H'
   try clear c2
   try clear c2b0
   try clear p2
   obtain ⟨x3_1, HA, HK1, HO_3, HB⟩ := hrel
   cases gk with
   | zero => exact absurd HA.out (by simp [sha_Pad.l0])
   | succ k1 =>
    have H := HA.out
    clear HA
    simp only [sha_Pad.l0] at H
    by_cases c5 : (Int.tmod (wrap64 ((wrap64 ((Int.tmod a0 64) + (x3_1.length : Int))) + 8)) 64) = 0
    ·rw [if_pos c5] at H
     have c5b0 : ((Int.tmod (wrap64 ((wrap64 ((Int.tmod a0 64) + (x3_1.length : Int))) + 8)) 64) == 0) = true := beq_iff_eq.mpr c5
     have c5b1 : ((Int.tmod (wrap64 ((wrap64 ((Int.tmod a0 64) + (x3_1.length : Int))) + 8)) 64) != 0) = false := bne_eq_false_iff_eq.mpr c5
     clear c5
     have H' := Aside0.mk H
     clear H
     obtain ⟨Ao6, co6, eo6⟩ := Kd.R_slice HO_3.out
     subst eo6
     go_wp2
     go_loopg [3, 23] k1 (fun kq v3 v23 w' => ∃ (x3_2 : List Int) (x23_2 : Int), v23 = .int .i64 x23_2 ∧ Aside0 (sha_Pad.l1 kq x3_2 (IntKind.u64.wrap ((IntKind.u64.wrap (a0)) * 8)) x23_2 = some r) ∧ Aside0 (kq ≤ k1) ∧ Aside0 (Kd.R (Kd.int .u8) 5 w' w.heap.size (fun _ => True) v3 x3_2) ∧ Aside0 (Below w.heap.size w w'))
     case atStart => exact ⟨(x3_1), (0), (by first | rfl | (simp; done) | (simp [*]; done)), H', ⟨Nat.le_refl _⟩, ⟨by (with_reducible repeat (first | apply Kd.R_alloc | apply Kd.R_drewN | apply Kd.R_drew)); exact HO_3.out⟩, ⟨by repeat (first | (with_reducible first | exact HB.out | apply below_alloc | apply pw_below_drewN | apply below_drew1) | exact HB.out)⟩⟩
     case round =>
      clear H'
      try clear c2
      try clear c2b0
      try clear p2
      try clear c5
      try clear c5b0
      try clear c5b1
      try clear p6
      try clear p2
      obtain ⟨x3_2, x23_2, rfl, HA, HK2, HO_3, HB⟩ := hrel
      cases gk with
      | zero => exact absurd HA.out (by simp [sha_Pad.l1])
      | succ k2 =>
       have H := HA.out
       clear HA
       simp only [sha_Pad.l1] at H
       by_cases c7 : x23_2 < 8
       ·rw [if_pos c7] at H
        have c7b0 : decide (x23_2 < 8) = true := decide_eq_true c7
        clear c7
        obtain ⟨ji8, hji8⟩ : ∃ j_ : Int, (wrap64 (56 - (wrap64 (8 * x23_2)))) = j_ := ⟨_, rfl⟩
        replace H : (if 0 ≤ (ji8) then (if x3_2.length < 140737488355328 then (sha_Pad.l1 k2 (x3_2 ++ [(shr .u64 (IntKind.u64.wrap ((IntKind.u64.wrap (a0)) * 8)) (ji8)) % 256]) (IntKind.u64.wrap ((IntKind.u64.wrap (a0)) * 8)) (wrap64 (x23_2 + 1))) else (none)) else (none)) = some r := by first | (rw [hji8] at H; exact H) | (simp only [hji8] at H ⊢; exact H)
        have hji8w : (IntKind.i64.wrap (56 - (wrap64 (8 * x23_2)))) = ji8 := (i64_w _).trans hji8
        by_cases c9 : 0 ≤ (ji8)
        ·rw [if_pos c9] at H
         have c9b0 := eq_true c9
         have c9b1 : decide (0 ≤ (ji8)) = true := decide_eq_true c9
         clear c9
         obtain ⟨ji10, hji10⟩ : ∃ j_ : Int, (shr .u64 (IntKind.u64.wrap ((IntKind.u64.wrap (a0)) * 8)) (ji8)) = j_ := ⟨_, rfl⟩
         replace H : (if x3_2.length < 140737488355328 then (sha_Pad.l1 k2 (x3_2 ++ [(ji10) % 256]) (IntKind.u64.wrap ((IntKind.u64.wrap (a0)) * 8)) (wrap64 (x23_2 + 1))) else (none)) = some r := by first | (rw [hji10] at H; exact H) | (simp only [hji10] at H ⊢; exact H)
         have hji10_ : ((IntKind.u64.wrap ((IntKind.u64.wrap (a0)) * 8)) / 2 ^ min (ji8).toNat 64) = ji10 := hji10
         have hji10z : (ji8) ≤ 64 → ((IntKind.u64.wrap ((IntKind.u64.wrap (a0)) * 8)) / 2 ^ (ji8).toNat) = ji10 := shr_small hji10
         by_cases c11 : x3_2.length < 140737488355328
         ·rw [if_pos c11] at H
          have LMc11 := Aside0.mk c11
          clear c11
          obtain ⟨y119, hy119⟩ : ∃ y_ : List Int, y_ = (x3_2 ++ [(ji10) % 256]) := ⟨_, rfl⟩
          replace H : (sha_Pad.l1 k2 y119 (IntKind.u64.wrap ((IntKind.u64.wrap (a0)) * 8)) (wrap64 (x23_2 + 1))) = some r := by first | (rw [hy119]; with_reducible exact H) | (have H2_ := (Option.bind_some _ _).symm.trans H; rw [hy119]; with_reducible exact H2_) | (have H2_ := (Option.bind_some _ _).symm.trans H; with_reducible exact H2_) | with_reducible exact H | (rw [hy119]; exact H) | exact H
          have Ny119 := Aside0.mk hy119
          clear hy119
          have H' := Aside0.mk H
          clear H
          go_wp2_with (first | ((with_reducible refine gate_builtin (b := .append) (xs := #[.tmp 26, .tmp 33]) rfl ?_); at_builtin; refine Kd.R_append (Kd.int .u8) (w0 := w) w.heap.size rfl (.tmp 26) (.tmp 33) 23 5 (.int .u8 0) 1 rfl Try.underlying23 info5 rfl (by decide) (by omega) u3 x3_2 ((ji10) % 256) [.int .u8 ((ji10) % 256)] (fun _ => True) (fun _ => False) rfl rfl ?aP (fun _ hk => hk.elim) ?aF ?aO ?aB ?aS ?aL ?_; (case aP => exact rfl); (case aB => exact (by repeat (first | (with_reducible first | exact HB.out | apply below_alloc | apply pw_below_drewN | apply below_drew1) | exact HB.out))); (case aF => exact (fun _ _ => trivial)); (case aO => exact (by (with_reducible repeat (first | apply Kd.R_alloc | apply Kd.R_drewN | apply Kd.R_drew)); exact HO_3.out)); (case aS => exact (below_size (by repeat (first | (with_reducible first | exact HB.out | apply below_alloc | apply pw_below_drewN | apply below_drew1) | exact HB.out)))); (case aL => have := LMc11.out; omega); intro v120 w12 ho hb hg hat; rw [← Ny119.out] at ho; have n0_ := Aside0.mk (hb); have n1_ := Aside0.mk (ho); clear HB; clear HO_3; have HB := n0_; have HO121 := n1_; clear n0_ n1_; clear ho hb hg hat))
          go_roundg k2
          case measure => have := HK1.out; have := HK2.out; omega
          case rel => exact ⟨(y119), (wrap64 (x23_2 + 1)), (by first | rfl | (simp; done) | (simp [*]; done)), H', ⟨by have := HK1.out; have := HK2.out; omega⟩, ⟨by (with_reducible repeat (first | apply Kd.R_alloc | apply Kd.R_drewN | apply Kd.R_drew)); exact HO121.out⟩, ⟨by repeat (first | (with_reducible first | exact HB.out | apply below_alloc | apply pw_below_drewN | apply below_drew1) | exact HB.out)⟩⟩
         ·rw [if_neg c11] at H
          exact absurd H (by simp)
        ·rw [if_neg c9] at H
         exact absurd H (by simp)
       ·rw [if_neg c7] at H
        have c7b0 : decide (x23_2 < 8) = false := decide_eq_false c7
        clear c7
        obtain rfl := Option.some.inj H
        go_wp2
        go_ret
        exact ⟨_, by first | rfl | (simp [errW_none, errW_some] <;> rfl) | (simp [*, errW_none, errW_some] <;> rfl), by (with_reducible repeat (first | apply Kd.R_alloc | apply Kd.R_drewN | apply Kd.R_drew)); exact HO_3.out, by repeat (first | (with_reducible first | exact HB.out | apply below_alloc | apply pw_below_drewN | apply below_drew1) | exact HB.out)⟩
    ·rw [if_neg c5] at H
     have c5b0 : ((Int.tmod (wrap64 ((wrap64 ((Int.tmod a0 64) + (x3_1.length : Int))) + 8)) 64) == 0) = false := beq_eq_false_iff_ne.mpr c5
     have c5b1 : ((Int.tmod (wrap64 ((wrap64 ((Int.tmod a0 64) + (x3_1.length : Int))) + 8)) 64) != 0) = true := bne_iff_ne.mpr c5
     by_cases c13 : x3_1.length < 140737488355328
     ·rw [if_pos c13] at H
      have LMc13 := Aside0.mk c13
      clear c13
      obtain ⟨y116, hy116⟩ : ∃ y_ : List Int, y_ = (x3_1 ++ [0]) := ⟨_, rfl⟩
      replace H : (sha_Pad.l0 k1 a0 y116) = some r := by first | (rw [hy116]; with_reducible exact H) | (have H2_ := (Option.bind_some _ _).symm.trans H; rw [hy116]; with_reducible exact H2_) | (have H2_ := (Option.bind_some _ _).symm.trans H; with_reducible exact H2_) | with_reducible exact H | (rw [hy116]; exact H) | exact H
      have Ny116 := Aside0.mk hy116
      clear hy116
      have H' := Aside0.mk H
      clear H
      obtain ⟨Ao14, co14, eo14⟩ := Kd.R_slice HO_3.out
      subst eo14
      go_wp2_with (first | ((with_reducible refine gate_builtin (b := .append) (xs := #[.tmp 17, .tmp 18]) rfl ?_); at_builtin; refine Kd.R_append (Kd.int .u8) (w0 := w) w.heap.size rfl (.tmp 17) (.tmp 18) 23 5 (.int .u8 0) 1 rfl Try.underlying23 info5 rfl (by decide) (by omega) (.slice Ao14 x3_1.length co14) x3_1 0 [.int .u8 0] (fun _ => True) (fun _ => False) rfl rfl ?aP (fun _ hk => hk.elim) ?aF ?aO ?aB ?aS ?aL ?_; (case aP => exact rfl); (case aB => exact (by repeat (first | (with_reducible first | exact HB.out | apply below_alloc | apply pw_below_drewN | apply below_drew1) | exact HB.out))); (case aF => exact (fun _ _ => trivial)); (case aO => exact (by (with_reducible repeat (first | apply Kd.R_alloc | apply Kd.R_drewN | apply Kd.R_drew)); exact HO_3.out)); (case aS => exact (below_size (by repeat (first | (with_reducible first | exact HB.out | apply below_alloc | apply pw_below_drewN | apply below_drew1) | exact HB.out)))); (case aL => have := LMc13.out; omega); intro v117 w15 ho hb hg hat; rw [← Ny116.out] at ho; have n0_ := Aside0.mk (hb); have n1_ := Aside0.mk (ho); clear HB; clear HO_3; have HB := n0_; have HO118 := n1_; clear n0_ n1_; clear ho hb hg hat))
      go_roundg k1
      case measure => have := HK1.out; omega
      case rel => exact ⟨(y116), H', ⟨by have := HK1.out; omega⟩, ⟨by (with_reducible repeat (first | apply Kd.R_alloc | apply Kd.R_drewN | apply Kd.R_drew)); exact HO118.out⟩, ⟨by repeat (first | (with_reducible first | exact HB.out | apply below_alloc | apply pw_below_drewN | apply below_drew1) | exact HB.out)⟩⟩
     ·rw [if_neg c13] at H
      exact absurd H (by simp)
end Go.Proofs.Ytcdnmlfnfhoieaa.A

/- What sha.Pad makes, plainly. Condition: fewer than 2^60 bytes. -/
namespace Go.Proofs.Ytcdnmlfnfhoieaa.A
open Go.RowKit Go.Proofs.YtcdnmlfnfhoieaaW.PrintWords Go.Proofs.YtcdnmlfnfhoieaaW.PrintLast Go.Proofs.YtcdnmlfnfhoieaaW.PrintMore Go.Proofs.Ytcdnmlfnfhoieaa.Bs
def byteAt (x : Int) (i : Nat) : Int := (shr .u64 x (56 - 8 * (i : Int))) % 256
def be8 (x : Int) : List Int := [byteAt x 0, byteAt x 1, byteAt x 2, byteAt x 3, byteAt x 4, byteAt x 5, byteAt x 6, byteAt x 7]
def padL (n : Nat) : List Int := 128 :: (List.replicate ((119 - n % 64) % 64) 0 ++ be8 (8 * (n : Int)))
theorem padL_length (n : Nat) : (padL n).length = 9 + (119 - n % 64) % 64 := by
 simp [padL, be8]
 omega
theorem pad_l1 (k : Nat) (acc : List Int) (x : Int) (i : Nat) (hi : i < 8) (hl : acc.length < 140737488355328) : sha_Pad.l1 (k + 1) acc x (i : Int) = sha_Pad.l1 k (acc ++ [byteAt x i]) x ((i + 1 : Nat) : Int) := by
 have e1 : wrap64 (8 * (i : Int)) = 8 * (i : Int) := wrap64_id _ (by omega) (by omega)
 have e2 : wrap64 (56 - 8 * (i : Int)) = 56 - 8 * (i : Int) := wrap64_id _ (by omega) (by omega)
 have e3 : wrap64 ((i : Int) + 1) = ((i + 1 : Nat) : Int) := by rw [wrap64_id _ (by omega) (by omega)]; rfl
 rw [sha_Pad.l1, if_pos (by omega), e1, e2, if_pos (by omega), if_pos hl, e3]
 rfl
theorem pad_end (k : Nat) (acc : List Int) (x : Int) (hl : acc.length < 140737488355320) (hk : 9 ≤ k) : sha_Pad.l1 k acc x 0 = some (acc ++ be8 x) := by
 obtain ⟨j, rfl⟩ : ∃ j, k = j + 1 + 1 + 1 + 1 + 1 + 1 + 1 + 1 + 1 := ⟨k - 9, by omega⟩
 have h0 := pad_l1 (j + 1 + 1 + 1 + 1 + 1 + 1 + 1 + 1) acc x 0 (by omega) (by omega)
 rw [show ((0 : Nat) : Int) = 0 from rfl] at h0
 rw [h0, pad_l1 _ _ x 1 (by omega) (by simp; omega), pad_l1 _ _ x 2 (by omega) (by simp; omega), pad_l1 _ _ x 3 (by omega) (by simp; omega), pad_l1 _ _ x 4 (by omega) (by simp; omega), pad_l1 _ _ x 5 (by omega) (by simp; omega), pad_l1 _ _ x 6 (by omega) (by simp; omega), pad_l1 _ _ x 7 (by omega) (by simp; omega)]
 rw [sha_Pad.l1, if_neg (by omega)]
 simp [be8]
theorem pad_l0 (n : Nat) (hn : n < 1152921504606846976) : ∀ (z k : Nat) (acc : List Int), acc.length + z ≤ 64 → (n % 64 + acc.length + z + 8) % 64 = 0 → z < 64 → z + 10 ≤ k → sha_Pad.l0 k (n : Int) acc = some (acc ++ (List.replicate z 0 ++ be8 (8 * (n : Int)))) := by
 intro z
 induction z with
 | zero =>
  intro k acc h1 h2 hz hk
  obtain ⟨j, rfl⟩ : ∃ j, k = j + 1 := ⟨k - 1, by omega⟩
  have e0 : Int.tmod (n : Int) 64 = ((n % 64 : Nat) : Int) := by rw [Int.tmod_eq_emod_of_nonneg (by omega)]; omega
  have e1 : wrap64 (((n % 64 : Nat) : Int) + (acc.length : Int)) = ((n % 64 + acc.length : Nat) : Int) := by rw [wrap64_id _ (by omega) (by omega)]; omega
  have e2 : wrap64 (((n % 64 + acc.length : Nat) : Int) + 8) = ((n % 64 + acc.length + 8 : Nat) : Int) := by rw [wrap64_id _ (by omega) (by omega)]; omega
  have e3 : Int.tmod ((n % 64 + acc.length + 8 : Nat) : Int) 64 = 0 := by rw [Int.tmod_eq_emod_of_nonneg (by omega)]; omega
  have e4 : IntKind.u64.wrap (IntKind.u64.wrap (n : Int) * 8) = 8 * (n : Int) := by rw [wrap_u64 (n : Int) (by omega) (by omega), wrap_u64 _ (by omega) (by omega)]; omega
  rw [sha_Pad.l0, e0, e1, e2, if_pos e3, e4, pad_end j acc _ (by omega) (by omega)]
  rfl
 | succ z ih =>
  intro k acc h1 h2 hz hk
  obtain ⟨j, rfl⟩ : ∃ j, k = j + 1 := ⟨k - 1, by omega⟩
  have e0 : Int.tmod (n : Int) 64 = ((n % 64 : Nat) : Int) := by rw [Int.tmod_eq_emod_of_nonneg (by omega)]; omega
  have e1 : wrap64 (((n % 64 : Nat) : Int) + (acc.length : Int)) = ((n % 64 + acc.length : Nat) : Int) := by rw [wrap64_id _ (by omega) (by omega)]; omega
  have e2 : wrap64 (((n % 64 + acc.length : Nat) : Int) + 8) = ((n % 64 + acc.length + 8 : Nat) : Int) := by rw [wrap64_id _ (by omega) (by omega)]; omega
  have e3 : ¬ Int.tmod ((n % 64 + acc.length + 8 : Nat) : Int) 64 = 0 := by rw [Int.tmod_eq_emod_of_nonneg (by omega)]; omega
  rw [sha_Pad.l0, e0, e1, e2, if_neg e3, if_pos (by omega), ih j (acc ++ [0]) (by simp; omega) (by simp; omega) (by omega) (by omega)]
  simp [List.replicate_succ]
theorem pad_some (n : Nat) (hn : n < 1152921504606846976) : sha_Pad.f 80 (n : Int) = some (padL n) := by
 unfold sha_Pad.f
 rw [if_neg (by omega), pad_l0 n hn ((119 - n % 64) % 64) 80 [128] (by simp; omega) (by simp; omega) (by omega) (by omega)]
 rfl
end Go.Proofs.Ytcdnmlfnfhoieaa.A

/- (*sha.Hash).Sum, walked. Conditions: the bytes that stand over are as many as the count says. -/
namespace Go.Proofs.Ytcdnmlfnfhoieaa.A
open Go.RowKit Go.Proofs.YtcdnmlfnfhoieaaW.PrintWords Go.Proofs.YtcdnmlfnfhoieaaW.PrintLast Go.Proofs.YtcdnmlfnfhoieaaW.PrintMore Go.Proofs.Ytcdnmlfnfhoieaa.Bs
attribute [local go_sem] max2_int min2_int max_two min_two max_three min_three max_four min_four
set_option linter.unusedVariables false
set_option linter.unusedSimpArgs false
/-- A word's four bytes. -/
def b4 (x : Int) : List Int := [x / 16777216 % 256, x / 65536 % 256, x / 256 % 256, x % 256]
def b32 (S : List Int) : Nat → List Int
 | 0 => []
 | i + 1 => b32 S i ++ b4 (S.getD i 0)
theorem b32_length (S : List Int) : ∀ i, (b32 S i).length = 4 * i
 | 0 => rfl
 | i + 1 => by rw [b32, List.length_append, b32_length S i]; simp [b4]; omega
/-- A state's digest. -/
def digestP (S : List Int) : List Int := b32 S 8
theorem Fr.setRow {w w1 : World} {S : Nat → Prop} {g : Nat} {cs : Array Value} (h : Fr w w1 S) (hg : S g) : Fr w (w1.setRow g cs) S :=
 h.trans (S2 := fun k => k = g) ⟨rfl, rfl, rfl, by rw [size_setRow]; exact Nat.le_refl _, fun k _ hk => setRow_other w1 g k cs hk⟩ (fun k hk => by rw [hk]; exact .inl hg)
theorem hash_range {W : World} {g : Nat} {K S : List Int} {v : Value} {n : Int} (hK : K.length = 64) (h : W.heap[g]? = some (.cells (hashC K S v n) 146 (0, 0))) : W.rangeAt g 64 (S.map (Value.int .u32)) := by
 intro j u hj
 have hj8 : j < S.length := by
  rcases Nat.lt_or_ge j S.length with h | h
  ·exact h
  ·rw [List.getElem?_eq_none (by simpa using h)] at hj
   cases hj
 rw [blk_cell h (64 + j), hashC_getS K S v n j hK hj8, ← hj, List.getElem?_map, List.getElem?_eq_getElem hj8]
 simp [List.getD_eq_getElem?_getD, hj8]
set_option maxHeartbeats 8000000 in
set_option maxRecDepth 100000 in
theorem sha_hsum {w : World} {g n : Nat} {P : Nat → Prop} {KW S R : List Int} (h : Hsh w g P KW S R (n : Int)) (hK : KW.length = 64) (hS : S.length = 8) (hR : R.length = n % 64) (hn : n < 70368744177664) :
  Calls Try.prog 74 #[.pointer (some ⟨g, 0, none⟩)] w fun e w' => e = .returned (.string (strOfNums (digestP (absorb KW (R.length + (padL n).length) S (R ++ padL n)).1))) ∧ Below w.heap.size w w' := by
 obtain ⟨v, hb, hr⟩ := h
 have hV := hashC_getV KW S v (n : Int) hK hS
 obtain ⟨A1, n1, k1, rfl⟩ := R_shape hr
 have hn1 : n1 = R.length := (Kd.R_reads' hr).1
 have c72 : w.cell? ⟨g, 72, none⟩ = some (.slice A1 n1 k1) := (blk_cell hb 72).trans hV.1
 have c73 : w.cell? ⟨g, 73, none⟩ = some (.int .i64 (n : Int)) := (blk_cell hb 73).trans hV.2
 have HC0 : Aside0 ((Kd.int .u8).C w A1 n1 R) := ⟨by have := (Kd.R_reads' hr).2.2; rwa [← hn1] at this⟩
 have HN1 : Aside0 (((([] : List Int)).length + n1) * 1 ≤ 140737488355328) := ⟨by rw [hn1]; simp; omega⟩
 have HPAD : Aside0 (sha_Pad.f 80 (n : Int) = some (padL n)) := ⟨pad_some n (by omega)⟩
 have hpl := padL_length n
 have HMOD : Aside0 ((R ++ padL n).length % 64 = 0 ∧ (R ++ padL n).length ≤ 200 ∧ 0 < (R ++ padL n).length) := ⟨by rw [List.length_append, hpl, hR]; omega⟩
 have HB := Aside0.mk hb
 have HK := Aside0.mk hK
 have HS := Aside0.mk hS
 rw [← List.length_append]
 obtain ⟨L, hL⟩ : ∃ L, R ++ padL n = L := ⟨_, rfl⟩
 have HLIM : ∀ m, Aside0 (m = (padL n).length → (R.length + m) * 1 ≤ 140737488355328) := fun m => ⟨fun e => by have := HMOD.out.2.1; rw [List.length_append] at this; omega⟩
 rw [hL] at HMOD ⊢
 have HLE := Aside0.mk hL
 clear hb hr hV hn1 hpl hR hn hK hS hL
 obtain ⟨s0, s1, s2, s3, s4, s5, s6, s7, rfl⟩ := eight HS.out
 have hu146 := Try.underlying146
 have hu23 := Try.underlying23
 have hu38 := Try.underlying38
 go_enter Try.func74, Try.ntmps74
 go_wp2
 refine start_ (n := 13) (S := fun w' => w'.cell? ⟨g, 72, none⟩ = some (.slice A1 n1 k1) ∧ w'.cell? ⟨g, 73, none⟩ = some (.int .i64 (n : Int))) (ds := []) #[false, false, false, false, false, false, false, false, false, false, false, false, false] (by kernel_rfl) rfl rfl ⟨c72, c73⟩ (fun hHeld => ?_)
 refine pure_ (i := 1) (N := some 12) (v := ?_) (a' := ?_) #[false, true, false, false, false, false, false, false, false, false, false, false, false] rfl rfl (by kernel_rfl) (fun _ _ _ h => h) (Or.inl ⟨by rfl, ?_⟩) ?_ ?_
 rotate_left
 ·intro w'
  go_simp
  with_reducible rfl
 rotate_left
 ·simp only [Act.put, List.setIfInBounds_toArray, List.set_cons_zero, List.set_cons_succ, i64_w, i32_w]
  rfl
 refine pure_ (i := 2) (N := some 13) (v := ?_) (a' := ?_) #[false, true, true, false, false, false, false, false, false, false, false, false, false] rfl rfl (by kernel_rfl) (fun _ _ _ h => h) (Or.inl ⟨by rfl, ?_⟩) ?_ ?_
 rotate_left
 ·intro w'
  go_simp
  with_reducible rfl
 rotate_left
 ·simp only [Act.put, List.setIfInBounds_toArray, List.set_cons_zero, List.set_cons_succ, i64_w, i32_w]
  rfl
 refine pure_ (i := 3) (N := some 14) (v := ?_) (a' := ?_) #[false, true, true, true, false, false, false, false, false, false, false, false, false] rfl rfl (by kernel_rfl) (fun _ _ _ h => h) (Or.inl ⟨by rfl, ?_⟩) ?_ ?_
 rotate_left
 ·intro w'
  go_simp
  with_reducible rfl
 rotate_left
 ·simp only [Act.put, List.setIfInBounds_toArray, List.set_cons_zero, List.set_cons_succ, i64_w, i32_w]
  rfl
 refine pure_ (i := 6) (N := some 17) (v := ?_) (a' := ?_) #[false, true, true, true, false, false, true, false, false, false, false, false, false] rfl rfl (by kernel_rfl) (fun _ _ _ h => h) (Or.inl ⟨by rfl, ?_⟩) ?_ ?_
 rotate_left
 ·intro w'
  go_simp
  with_reducible rfl
 rotate_left
 ·simp only [Act.put, List.setIfInBounds_toArray, List.set_cons_zero, List.set_cons_succ, i64_w, i32_w]
  rfl
 refine pure_ (i := 7) (N := some 18) (v := ?_) (a' := ?_) #[false, true, true, true, false, false, true, true, false, false, false, false, false] rfl rfl (by kernel_rfl) (fun _ _ _ h => h) (Or.inl ⟨by rfl, ?_⟩) ?_ ?_
 rotate_left
 ·intro w'
  go_simp
  with_reducible rfl
 rotate_left
 ·simp only [Act.put, List.setIfInBounds_toArray, List.set_cons_zero, List.set_cons_succ, i64_w, i32_w]
  rfl
 refine pure_ (i := 8) (N := some 19) (v := ?_) (a' := ?_) #[false, true, true, true, false, false, true, true, true, false, false, false, false] rfl rfl (by kernel_rfl) (fun _ _ _ h => h) (Or.inl ⟨by rfl, ?_⟩) ?_ ?_
 rotate_left
 ·intro w'
  go_simp
  with_reducible rfl
 rotate_left
 ·simp only [Act.put, List.setIfInBounds_toArray, List.set_cons_zero, List.set_cons_succ, i64_w, i32_w]
  rfl
 refine take_ (i := 4) (N := some 15) (v := ?_) (a' := ?_) #[false, true, true, true, true, false, true, true, true, false, false, false, false] rfl rfl (by kernel_rfl) (fun _ _ _ h => h) (Or.inl ⟨by rfl, ?_⟩) hHeld ?_ ?_
 rotate_left
 ·rintro w' ⟨s0, s1⟩
  go_simp
  with_reducible rfl
 rotate_left
 ·simp only [Act.put, List.setIfInBounds_toArray, List.set_cons_zero, List.set_cons_succ, i64_w, i32_w]
  rfl
 refine take_ (i := 9) (N := some 20) (v := ?_) (a' := ?_) #[false, true, true, true, true, false, true, true, true, true, false, false, false] rfl rfl (by kernel_rfl) (fun _ _ _ h => h) (Or.inl ⟨by rfl, ?_⟩) hHeld ?_ ?_
 rotate_left
 ·rintro w' ⟨s0, s1⟩
  go_simp
  with_reducible rfl
 rotate_left
 ·simp only [Act.put, List.setIfInBounds_toArray, List.set_cons_zero, List.set_cons_succ, i64_w, i32_w]
  rfl
 refine one_ (i := 0) (N := some 11) #[true, true, true, true, true, false, true, true, true, true, false, false, false] rfl rfl (by kernel_rfl) (by decide) (fun K hK => ?_)
 refine Kd.R_lit_step (Kd.int .u8) (w0 := w) w.heap.size 5 (by rfl) (N := 11) rfl (xs := ([] : List Int)) (inner := []) (ok := fun _ => True) (okp := fun _ => True) ?hr ?hp (fun _ hk => hk) trivial (by exact (below_drew (Below.refl _ _))) (Nat.le_refl _) (by simp) ?_
 case hr => first | (go_simp; done) | (go_simp; rfl)
 case hp => exact (Reps.none _ _)
 intro v3 w3 hr3 hb3 hg3 hx3
 clear hx3
 have HR3 := Aside0.mk hr3
 have HL3 := Aside0.mk hb3
 have c72a : w3.cell? ⟨g, 72, none⟩ = some (.slice A1 n1 k1) := pw_cell_below hb3 c72
 have c73a : w3.cell? ⟨g, 73, none⟩ = some (.int .i64 (n : Int)) := pw_cell_below hb3 c73
 have HC3 : Aside0 ((Kd.int .u8).C w3 A1 n1 R) := ⟨Kd.C_below HC0.out hb3⟩
 clear hr3 hb3 hg3
 refine hK.out _ _ ⟨c72a, c73a⟩ (fun hHeld => ?_)
 clear hK K
 refine norm_ (a' := ?_) ?_ ?_
 rotate_left
 ·show Act.put _ (some 11) _ = _
  simp only [Act.put, List.setIfInBounds_toArray, List.set_cons_zero, List.set_cons_succ, i64_w, i32_w]
  rfl
 refine one_ (i := 5) (N := some 16) #[true, true, true, true, true, true, true, true, true, true, false, false, false] rfl rfl (by kernel_rfl) (by decide) (fun K hK => ?_)
 refine Kd.R_append_rows_step (Kd.int .u8) (w0 := w) w.heap.size (by rfl) (.tmp 11) (.tmp 15) 23 5 _ 1 (by rfl) Try.underlying23 info5 (by rfl) (by decide) (by decide) v3 [] R A1 n1 k1 (fun _ => True) (fun _ => False) rfl rfl HR3.out HC3.out (fun _ _ h => h) (fun _ h => h.elim) (fun _ _ => trivial) HL3.out (below_size HL3.out) HN1.out ?_
 intro v4 w4 hr4 hb4 hg4 hat4
 clear hat4
 have HR4 := Aside0.mk hr4
 have HL4 := Aside0.mk hb4
 have c72b : w4.cell? ⟨g, 72, none⟩ = some (.slice A1 n1 k1) := pw_cell_below hb4 c72
 have c73b : w4.cell? ⟨g, 73, none⟩ = some (.int .i64 (n : Int)) := pw_cell_below hb4 c73
 clear hr4 hb4 hg4
 refine hK.out _ _ ⟨c72b, c73b⟩ (fun hHeld => ?_)
 clear hK K
 refine norm_ (a' := ?_) ?_ ?_
 rotate_left
 ·show Act.put _ (some 16) _ = _
  simp only [Act.put, List.setIfInBounds_toArray, List.set_cons_zero, List.set_cons_succ, i64_w, i32_w]
  rfl
 refine one_ (i := 10) (N := some 21) #[true, true, true, true, true, true, true, true, true, true, true, false, false] rfl rfl (by kernel_rfl) (by decide) (fun K hK => ?_)
 refine goes_ Try.func25 (by kernel_rfl) rfl #[.int .i64 (n : Int)] (by rfl) rfl rfl (by simp only [List.map_toArray, List.map_cons, List.map_nil]; rfl) ?_
 with_reducible refine (sha_Pad.calls 80 (n : Int) (padL n) _ HPAD.out).mono ?_
 rintro e w5 ⟨v5, rfl, hr5, hb5⟩
 refine ⟨_, rfl, ?_⟩
 obtain ⟨A5, n5, k5, rfl⟩ := R_shape hr5
 have HN5 : Aside0 (n5 = (padL n).length) := ⟨(Kd.R_reads' hr5).1⟩
 have HC5 : Aside0 ((Kd.int .u8).C w5 A5 n5 (padL n)) := ⟨by have := (Kd.R_reads' hr5).2.2; rwa [← HN5.out] at this⟩
 have HR5 : Aside0 ((Kd.int .u8).R 5 w5 w.heap.size (fun _ => True) v4 R) := ⟨Kd.R_below HR4.out hb5⟩
 have HL5 := Aside0.mk (below_step HL4.out hb5)
 have c72c : w5.cell? ⟨g, 72, none⟩ = some (.slice A1 n1 k1) := pw_cell_below hb5 c72b
 have c73c : w5.cell? ⟨g, 73, none⟩ = some (.int .i64 (n : Int)) := pw_cell_below hb5 c73b
 clear hr5 hb5
 refine hK.out _ _ ⟨c72c, c73c⟩ (fun hHeld => ?_)
 clear hK K
 refine norm_ (a' := ?_) ?_ ?_
 rotate_left
 ·show Act.put _ (some 21) _ = _
  simp only [Act.put, List.setIfInBounds_toArray, List.set_cons_zero, List.set_cons_succ, i64_w, i32_w]
  rfl
 refine one_ (i := 11) (N := some 22) #[true, true, true, true, true, true, true, true, true, true, true, true, false] rfl rfl (by kernel_rfl) (by decide) (fun K hK => ?_)
 refine Kd.R_append_rows_step (Kd.int .u8) (w0 := w) w.heap.size (by rfl) (.tmp 16) (.tmp 21) 23 5 _ 1 (by rfl) Try.underlying23 info5 (by rfl) (by decide) (by decide) v4 R (padL n) A5 n5 k5 (fun _ => True) (fun _ => False) rfl rfl HR5.out HC5.out (fun _ _ h => h) (fun _ h => h.elim) (fun _ _ => trivial) HL5.out (below_size HL5.out) ((HLIM n5).out HN5.out) ?_
 intro v6 w6 hr6 hb6 hg6 hat6
 clear hat6
 have HR6 := Aside0.mk hr6
 have HL6 := Aside0.mk hb6
 have c72d : w6.cell? ⟨g, 72, none⟩ = some (.slice A1 n1 k1) := pw_cell_below hb6 c72
 have c73d : w6.cell? ⟨g, 73, none⟩ = some (.int .i64 (n : Int)) := pw_cell_below hb6 c73
 clear hr6 hb6 hg6
 refine hK.out _ _ ⟨c72d, c73d⟩ (fun hHeld => ?_)
 clear hK K
 refine norm_ (a' := ?_) ?_ ?_
 rotate_left
 ·show Act.put _ (some 22) _ = _
  simp only [Act.put, List.setIfInBounds_toArray, List.set_cons_zero, List.set_cons_succ, i64_w, i32_w]
  rfl
 refine pure_ (i := 12) (N := some 3) (v := ?_) (a' := ?_) #[true, true, true, true, true, true, true, true, true, true, true, true, true] rfl rfl (by kernel_rfl) (fun _ _ _ h => h) (Or.inl ⟨by rfl, ?_⟩) ?_ ?_
 rotate_left
 ·intro w'
  go_simp
  with_reducible rfl
 rotate_left
 ·simp only [Act.put, List.setIfInBounds_toArray, List.set_cons_zero, List.set_cons_succ, i64_w, i32_w]
  rfl
 refine done_ (by kernel_rfl) ?_
 clear c72a c73a c72b c73b c72c c73c HC3 HR3 HL3 HR4 HL4 HC5 HR5 HL5 HN5 hHeld
 rw [HLE.out] at HR6
 have HB6 : Aside0 (w6.heap[g]? = some (.cells (hashC KW [s0, s1, s2, s3, s4, s5, s6, s7] (.slice A1 n1 k1) (n : Int)) 146 (0, 0))) := ⟨blk_below HB.out HL6.out⟩
 clear HB HLE
 have HRG : Aside0 (w6.rangeAt g 64 [.int .u32 s0, .int .u32 s1, .int .u32 s2, .int .u32 s3, .int .u32 s4, .int .u32 s5, .int .u32 s6, .int .u32 s7]) := ⟨hash_range HK.out HB6.out⟩
 go_upto_region 5 with (first | ((with_reducible refine gate_dst (N := 26) rfl ?_); refine wpList_load_mid rfl 38 (.tmp 25) rfl g 64 rfl [.int .u32 s0, .int .u32 s1, .int .u32 s2, .int .u32 s3, .int .u32 s4, .int .u32 s5, .int .u32 s6, .int .u32 s7] _ HRG.out hu38 rfl (by kernel_rfl) ?_) | ((with_reducible refine gate_dst (N := 4) rfl ?_); refine box_event ?hg (N := 4) ?hd (cs := cs32 (List.replicate 8 0)) (t := 38) ?hr ?_; (case hd => rfl); (case hg => rfl); (case hr => first | (go_simp; done) | (go_simp; rfl)); intro g4 hg4 w7 hb7 hbel7; have HG4 := Aside0.mk hg4; have HB7 := Aside0.mk hb7; have HL7 := Aside0.mk hbel7; clear hg4 hb7 hbel7) | (refine gate_ (.store 38 (.tmp 4) (.tmp 26)) rfl ?_; refine wpList_store_row rfl 38 (.tmp 4) (.tmp 26) rfl g4 (cs32 [s0, s1, s2, s3, s4, s5, s6, s7]) rfl rfl 38 _ HB7.out (by kernel_rfl) rfl (cs32_all _) ?_))
 obtain ⟨A6, n6, k6, rfl⟩ := R_shape HR6.out
 have hn6 : n6 = L.length := (Kd.R_reads' HR6.out).1
 subst hn6
 have HG6 : Aside0 (g4 = w7.heap.size - 1 ∨ True) := ⟨.inr trivial⟩
 have hg4 : w6.heap.size ≤ g4 := by rw [HG4.out]; exact Nat.le_refl _
 have hg4w : w.heap.size ≤ g4 := Nat.le_trans (below_size HL6.out) hg4
 have HL8 : Aside0 (Below w6.heap.size w6 (w7.setRow g4 (cs32 [s0, s1, s2, s3, s4, s5, s6, s7]))) := ⟨HL7.out.trans (below_setRow hg4)⟩
 have HB8 : Aside0 ((w7.setRow g4 (cs32 [s0, s1, s2, s3, s4, s5, s6, s7])).heap[g4]? = some (.cells (cs32 [s0, s1, s2, s3, s4, s5, s6, s7]) 38 (0, 0))) := ⟨setRow_heap _ _ _ _ _ _ HB7.out⟩
 have HN4 := Aside0.mk hg4
 clear HB7 HL7 HG4 HG6 HRG hg4 c72 c73 c72d c73d HC0 HN1 HPAD HLIM
 generalize w7.setRow g4 (cs32 [s0, s1, s2, s3, s4, s5, s6, s7]) = w8 at HL8 HB8 ⊢
 obtain ⟨b, o, rfl, hblt, hcells⟩ := C_int_lit (k := .u8) (Kd.R_reads' HR6.out).2.2 HMOD.out.2.2
 have hk6 : L.length ≤ k6 := (Kd.R_reads' HR6.out).2.1
 have HK6 := Aside0.mk hk6
 have HCE := Aside0.mk hcells
 have HBL := Aside0.mk hblt
 clear hk6 hcells hblt
 have HF8 : Aside0 (Fr w8 w8 (fun k => k = g4)) := ⟨Fr.refl _ _⟩
 go_wp2
 go_loopg [5] L.length (fun kq v w' => ∃ (i : Nat) (Z : List Int), v = .int .i64 i ∧ Aside0 (i % 64 = 0 ∧ i ≤ L.length ∧ L.length - i = kq) ∧ Aside0 (Z.length = 8) ∧ Aside0 (absorb KW L.length [s0, s1, s2, s3, s4, s5, s6, s7] L = absorb KW (L.length - i) Z (L.drop i)) ∧ Aside0 (w'.heap[g4]? = some (.cells (cs32 Z) 38 (0, 0))) ∧ Aside0 (Fr w8 w' (fun k => k = g4)))
 case atStart => exact ⟨0, [s0, s1, s2, s3, s4, s5, s6, s7], rfl, ⟨by simp⟩, ⟨rfl⟩, ⟨rfl⟩, HB8, HF8⟩
 case round =>
  clear HB8 HF8
  obtain ⟨i, Z, rfl, HI, HZ, HAB, HB4, HF⟩ := hrel
  by_cases hi : i < L.length
  ·have d1 : decide (i < L.length) = true := decide_eq_true hi
   obtain ⟨z0, z1, z2, z3, z4, z5, z6, z7, rfl⟩ := eight HZ.out
   obtain ⟨r, hr⟩ : ∃ r, i + 64 = r := ⟨_, rfl⟩
   have hrL : r ≤ L.length := by have := HI.out; have := HMOD.out; omega
   have w1 : wrap64 ((i : Int) + 64) = (r : Int) := by have := HMOD.out; rw [wrap64_id _ (by omega) (by omega)]; omega
   have hir : i ≤ r := by omega
   have hrk : r ≤ k6 := by have := HK6.out; omega
   have hki : ¬ k6 = i := by have := HK6.out; omega
   have hri : r - i = 64 := by omega
   have hgg : wr.heap[g]? = some (.cells (hashC KW [s0, s1, s2, s3, s4, s5, s6, s7] (.slice A1 n1 k1) (n : Int)) 146 (0, 0)) := HF.out.blk (blk_below HB6.out HL8.out) (by have := HN4.out; have := blk_lt HB6.out; omega)
   have hbb : ∀ j, j < 64 → wr.cell? ⟨b, o + i + j, none⟩ = some (.int .u8 (((L.drop i).take 64).getD j 0)) := by
    intro j hj
    have h1 := pw_cell_below HL8.out (HCE.out (i + j) (by omega))
    have h2 := HF.out.cell h1 (by have := HN4.out; have := HBL.out; show ¬ b = g4; omega)
    rw [Nat.add_assoc, h2]
    simp [List.getD_eq_getElem?_getD, List.getElem?_take, hj]
   have HMX : Aside0 (Calls Try.prog 71 #[.pointer (some ⟨g, 0, none⟩), .agg #[.int .u32 z0, .int .u32 z1, .int .u32 z2, .int .u32 z3, .int .u32 z4, .int .u32 z5, .int .u32 z6, .int .u32 z7], .slice (some ⟨b, o + i, none⟩) 64 (k6 - i)] wr.drew fun e w' => e = .returned (.agg (cs32 (mixP KW [z0, z1, z2, z3, z4, z5, z6, z7] ((L.drop i).take 64)))) ∧ Below wr.drew.heap.size wr.drew w') :=
    ⟨mix_walk (S := [z0, z1, z2, z3, z4, z5, z6, z7]) (fun i hi => ((blk_cell (blk_drew hgg) i).trans (hashC_getK KW _ _ _ i (by rw [HK.out]; exact hi)))) hbb rfl (by omega)⟩
   obtain ⟨S2, hS2⟩ : ∃ S2, mixP KW [z0, z1, z2, z3, z4, z5, z6, z7] ((L.drop i).take 64) = S2 := ⟨_, rfl⟩
   have hS2l : S2.length = 8 := by rw [← hS2, mixP_length]; rfl
   rw [hS2] at HMX
   have HST : Aside0 (∀ W : World, W.heap[g4]? = some (.cells (cs32 [z0, z1, z2, z3, z4, z5, z6, z7]) 38 (0, 0)) → (storeCells ⟨g4, 0, none⟩ (cs32 S2).toList).run Try.prog W = .ok () (W.setRow g4 (cs32 S2))) := ⟨fun W hW => by
    have hst := run_storeCells_from (P := Try.prog) g4 38 (cs32 S2).toList 0 (cs32 [z0, z1, z2, z3, z4, z5, z6, z7]) W hW (by simp [cs32_size, hS2l]) (by simp [cs32, Value.oneCell'])
    simpa using hst⟩
   have HSZ : Aside0 ((cs32 S2).size = 8) := ⟨by rw [cs32_size, hS2l]⟩
   have HS2L := Aside0.mk hS2l
   have HST2 : Aside0 (absorb KW (L.length - i) [z0, z1, z2, z3, z4, z5, z6, z7] (L.drop i) = absorb KW (L.length - r) S2 (L.drop r)) := ⟨by
    have e : L.length - i = (L.length - r) + 64 := by omega
    have e2 : L.drop i = (L.drop i).take 64 ++ L.drop r := by rw [← hr, ← List.drop_drop, List.take_append_drop]
    rw [e]
    conv => lhs; rw [e2]
    rw [absorb_block KW _ _ _ _ (by rw [List.length_take, List.length_drop]; omega) (by rw [List.length_drop]; omega), hS2]⟩
   have HIR := Aside0.mk hr
   have HRL := Aside0.mk hrL
   clear hS2 hS2l hgg hbb hr hrL hi
   go_wp2
   refine start_ (n := 11) (S := fun w' => w'.cell? ⟨g4, 0, none⟩ = some (.int .u32 z0) ∧ w'.cell? ⟨g4, 1, none⟩ = some (.int .u32 z1) ∧ w'.cell? ⟨g4, 2, none⟩ = some (.int .u32 z2) ∧ w'.cell? ⟨g4, 3, none⟩ = some (.int .u32 z3) ∧ w'.cell? ⟨g4, 4, none⟩ = some (.int .u32 z4) ∧ w'.cell? ⟨g4, 5, none⟩ = some (.int .u32 z5) ∧ w'.cell? ⟨g4, 6, none⟩ = some (.int .u32 z6) ∧ w'.cell? ⟨g4, 7, none⟩ = some (.int .u32 z7)) (ds := [10]) #[false, false, false, false, false, false, false, false, false, false, false] (by kernel_rfl) rfl rfl ⟨(blk_cell (blk_drew HB4.out) 0).trans (cs32_get [z0, z1, z2, z3, z4, z5, z6, z7] 0 (by simp)), (blk_cell (blk_drew HB4.out) 1).trans (cs32_get [z0, z1, z2, z3, z4, z5, z6, z7] 1 (by simp)), (blk_cell (blk_drew HB4.out) 2).trans (cs32_get [z0, z1, z2, z3, z4, z5, z6, z7] 2 (by simp)), (blk_cell (blk_drew HB4.out) 3).trans (cs32_get [z0, z1, z2, z3, z4, z5, z6, z7] 3 (by simp)), (blk_cell (blk_drew HB4.out) 4).trans (cs32_get [z0, z1, z2, z3, z4, z5, z6, z7] 4 (by simp)), (blk_cell (blk_drew HB4.out) 5).trans (cs32_get [z0, z1, z2, z3, z4, z5, z6, z7] 5 (by simp)), (blk_cell (blk_drew HB4.out) 6).trans (cs32_get [z0, z1, z2, z3, z4, z5, z6, z7] 6 (by simp)), (blk_cell (blk_drew HB4.out) 7).trans (cs32_get [z0, z1, z2, z3, z4, z5, z6, z7] 7 (by simp))⟩ (fun hHeld => ?_)
   refine pure_ (i := 0) (N := some 33) (v := ?_) (a' := ?_) #[true, false, false, false, false, false, false, false, false, false, false] rfl rfl (by kernel_rfl) (fun _ _ _ h => h) (Or.inl ⟨by rfl, ?_⟩) ?_ ?_
   rotate_left
   ·intro w'
    go_simp
    with_reducible rfl
   rotate_left
   ·simp only [Act.put, List.setIfInBounds_toArray, List.set_cons_zero, List.set_cons_succ, i64_w, i32_w]
    rfl
   refine pure_ (i := 1) (N := some 34) (v := ?_) (a' := ?_) #[true, true, false, false, false, false, false, false, false, false, false] rfl rfl (by kernel_rfl) (fun _ _ _ h => h) (Or.inl ⟨by rfl, ?_⟩) ?_ ?_
   rotate_left
   ·intro w'
    go_simp
    with_reducible rfl
   rotate_left
   ·simp only [Act.put, List.setIfInBounds_toArray, List.set_cons_zero, List.set_cons_succ, i64_w, i32_w]
    rfl
   refine pure_ (i := 2) (N := some 35) (v := ?_) (a' := ?_) #[true, true, true, false, false, false, false, false, false, false, false] rfl rfl (by kernel_rfl) (fun _ _ _ h => h) (Or.inl ⟨by rfl, ?_⟩) ?_ ?_
   rotate_left
   ·intro w'
    go_simp
    with_reducible rfl
   rotate_left
   ·simp only [Act.put, List.setIfInBounds_toArray, List.set_cons_zero, List.set_cons_succ, i64_w, i32_w]
    rfl
   refine pure_ (i := 4) (N := some 37) (v := ?_) (a' := ?_) #[true, true, true, false, true, false, false, false, false, false, false] rfl rfl (by kernel_rfl) (fun _ _ _ h => h) (Or.inl ⟨by rfl, ?_⟩) ?_ ?_
   rotate_left
   ·intro w'
    go_simp
    with_reducible rfl
   rotate_left
   ·simp only [Act.put, List.setIfInBounds_toArray, List.set_cons_zero, List.set_cons_succ, i64_w, i32_w]
    rfl
   refine pure_ (i := 5) (N := some 38) (v := ?_) (a' := ?_) #[true, true, true, false, true, true, false, false, false, false, false] rfl rfl (by kernel_rfl) (fun _ _ _ h => h) (Or.inl ⟨by rfl, ?_⟩) ?_ ?_
   rotate_left
   ·intro w'
    go_simp
    with_reducible rfl
   rotate_left
   ·simp only [Act.put, List.setIfInBounds_toArray, List.set_cons_zero, List.set_cons_succ, i64_w, i32_w]
    rfl
   refine pure_ (i := 6) (N := some 39) (v := ?_) (a' := ?_) #[true, true, true, false, true, true, true, false, false, false, false] rfl rfl (by kernel_rfl) (fun _ _ _ h => h) (Or.inl ⟨by rfl, ?_⟩) ?_ ?_
   rotate_left
   ·intro w'
    go_simp
    with_reducible rfl
   rotate_left
   ·simp only [Act.put, List.setIfInBounds_toArray, List.set_cons_zero, List.set_cons_succ, i64_w, i32_w]
    rfl
   refine pure_ (i := 7) (N := some 40) (v := ?_) (a' := ?_) #[true, true, true, false, true, true, true, true, false, false, false] rfl rfl (by kernel_rfl) (fun _ _ _ h => h) (Or.inl ⟨by rfl, ?_⟩) ?_ ?_
   rotate_left
   ·intro w'
    go_simp
    with_reducible rfl
   rotate_left
   ·simp only [Act.put, List.setIfInBounds_toArray, List.set_cons_zero, List.set_cons_succ, i64_w, i32_w]
    rfl
   refine pure_ (i := 8) (N := some 41) (v := ?_) (a' := ?_) #[true, true, true, false, true, true, true, true, true, false, false] rfl rfl (by kernel_rfl) (fun _ _ _ h => h) (Or.inl ⟨by rfl, ?_⟩) ?_ ?_
   rotate_left
   ·intro w'
    go_simp
    with_reducible rfl
   rotate_left
   ·simp only [Act.put, List.setIfInBounds_toArray, List.set_cons_zero, List.set_cons_succ, i64_w, i32_w]
    rfl
   refine take_ (i := 3) (N := some 36) (v := ?_) (a' := ?_) #[true, true, true, true, true, true, true, true, true, false, false] rfl rfl (by kernel_rfl) (fun _ _ _ h => h) (Or.inl ⟨by rfl, ?_⟩) hHeld ?_ ?_
   rotate_left
   ·rintro w' ⟨s0, s1, s2, s3, s4, s5, s6, s7⟩
    go_simp
    with_reducible rfl
   rotate_left
   ·simp only [Act.put, List.setIfInBounds_toArray, List.set_cons_zero, List.set_cons_succ, i64_w, i32_w]
    rfl
   refine one_ (i := 9) (N := some 42) #[true, true, true, true, true, true, true, true, true, true, false] rfl rfl (by kernel_rfl) (by decide) (fun K hK => ?_)
   refine goes_ Try.func71 (by kernel_rfl) rfl #[.pointer (some ⟨g, 0, none⟩), .agg #[.int .u32 z0, .int .u32 z1, .int .u32 z2, .int .u32 z3, .int .u32 z4, .int .u32 z5, .int .u32 z6, .int .u32 z7], .slice (some ⟨b, o + i, none⟩) 64 (k6 - i)] (by rfl) rfl rfl (by simp only [List.map_toArray, List.map_cons, List.map_nil]; rfl) ?_
   with_reducible refine (HMX.out).mono ?_
   rintro e w9 ⟨rfl, hb9⟩
   refine ⟨_, rfl, ?_⟩
   have HL9 := Aside0.mk hb9
   have HB9 := Aside0.mk (blk_below (blk_drew HB4.out) hb9)
   clear hb9
   refine hK.out _ _ ⟨(blk_cell HB9.out 0).trans (cs32_get [z0, z1, z2, z3, z4, z5, z6, z7] 0 (by simp)), (blk_cell HB9.out 1).trans (cs32_get [z0, z1, z2, z3, z4, z5, z6, z7] 1 (by simp)), (blk_cell HB9.out 2).trans (cs32_get [z0, z1, z2, z3, z4, z5, z6, z7] 2 (by simp)), (blk_cell HB9.out 3).trans (cs32_get [z0, z1, z2, z3, z4, z5, z6, z7] 3 (by simp)), (blk_cell HB9.out 4).trans (cs32_get [z0, z1, z2, z3, z4, z5, z6, z7] 4 (by simp)), (blk_cell HB9.out 5).trans (cs32_get [z0, z1, z2, z3, z4, z5, z6, z7] 5 (by simp)), (blk_cell HB9.out 6).trans (cs32_get [z0, z1, z2, z3, z4, z5, z6, z7] 6 (by simp)), (blk_cell HB9.out 7).trans (cs32_get [z0, z1, z2, z3, z4, z5, z6, z7] 7 (by simp))⟩ (fun hHeld => ?_)
   clear hK K
   refine norm_ (a' := ?_) ?_ ?_
   rotate_left
   ·show Act.put _ (some 42) _ = _
    simp only [Act.put, List.setIfInBounds_toArray, List.set_cons_zero, List.set_cons_succ, i64_w, i32_w]
    rfl
   refine last_ (i := 10) (N := none) #[true, true, true, true, true, true, true, true, true, true, true] rfl rfl (by kernel_rfl) (by decide) (fun K hK => ?_)
   refine skip_ (w1 := ?_) (by rfl) rfl ?_ ?_
   rotate_left
   ·have hst := HST.out _ HB9.out
    have hsz := HSZ.out
    go_simp
    rfl
   refine hK.out _ _ ?_
   clear hK K
   refine done_ (by kernel_rfl) ?_
   go_wp2
   go_roundg (L.length - r)
   case measure => have := HI.out; have := HIR.out; have := HRL.out; omega
   case rel =>
    refine ⟨r, S2, by rw [w1], ⟨by have := HI.out; have := HIR.out; have := HRL.out; omega⟩, HS2L, ⟨HAB.out.trans HST2.out⟩, ⟨setRow_heap _ _ _ _ _ _ HB9.out⟩, ⟨Fr.setRow ((HF.out.drew).below HL9.out) rfl⟩⟩
  ·have hiL : i = L.length := by have := HI.out; omega
   subst hiL
   have HFIN : Aside0 (absorb KW L.length [s0, s1, s2, s3, s4, s5, s6, s7] L = (Z, [])) := ⟨by have := HAB.out; rw [List.drop_length] at this; rw [this]; exact absorb_short KW _ _ _ (by decide)⟩
   have HLW : Aside0 (Below w.heap.size w wr) := ⟨(below_step HL6.out HL8.out).trans (HF.out.to_below (below_size (below_step HL6.out HL8.out)) (fun k hk => by rw [hk]; exact hg4w))⟩
   have d1 : decide (L.length < L.length) = false := by simp
   clear hi HAB HI
   have HI38 : Aside0 ((Try.prog.info? 38).map (·.size) = some (cs32 Z).size) := ⟨by rw [cs32_size, HZ.out]; kernel_rfl⟩
   go_wp2_with ((with_reducible refine gate_dst (N := 43) rfl ?_); refine wpList_load_row rfl 38 (.tmp 4) rfl g4 rfl 38 (cs32 Z) (0, 0) _ HB4.out hu38 rfl HI38.out ?_)
   go_loopg [6, 44] 8 (fun kq v6 v w' => ∃ (i : Nat) (v1 : Value), v1 = v6 ∧ v = .int .i64 i ∧ Aside0 (i + kq = 8) ∧ Aside0 ((Kd.int .u8).R 5 w' w.heap.size (fun _ => True) v1 (b32 Z i)) ∧ Aside0 (Below w.heap.size w w'))
   case atStart => exact ⟨0, _, rfl, rfl, ⟨rfl⟩, ⟨Kd.R_nil _ _ _ _ _⟩, HLW⟩
   case round =>
    clear HLW
    obtain ⟨i, vo, rfl, rfl, HI, HRO, HLW⟩ := hrel
    by_cases hi : i < 8
    ·have hzi := fun w => index_words (Z := Z) hu38 (by kernel_rfl) Try.underlying37 i hi (by rw [HZ.out]; exact hi) w
     obtain ⟨x, hx⟩ : ∃ x, Z.getD i 0 = x := ⟨_, rfl⟩
     rw [hx] at hzi
     have HX : Aside0 (b32 Z (i + 1) = b32 Z i ++ b4 x) := ⟨by rw [b32, hx]⟩
     have HI8 := Aside0.mk hi
     have d1 : decide ((i : Int) < 8) = true := decide_eq_true (by omega)
     have hlb := b32_length Z i
     have HLB : Aside0 (((b32 Z i).length + 4) * 1 ≤ 140737488355328) := ⟨by rw [hlb]; omega⟩
     clear hx hi hlb
     go_wp2_with (first | ((with_reducible refine gate_dst (N := 59) rfl ?_); refine Kd.R_lit (Kd.int .u8) _ 5 ?hg (N := 59) ?hd (xs := ([x / 16777216 % 256, x / 65536 % 256, x / 256 % 256, x % 256] : List Int)) (inner := [.int .u8 (x / 16777216 % 256), .int .u8 (x / 65536 % 256), .int .u8 (x / 256 % 256), .int .u8 (x % 256)]) (ok := fun _ => True) (okp := fun _ => True) ?hr ?hp (fun _ hk => hk) trivial (Below.refl _ _) (Nat.le_refl _) (by simp) ?_; (case hd => rfl); (case hg => rfl); (case hr => first | (go_simp; done) | (go_simp; rfl)); (case hp => exact Kd.reps_scalar (enc := Value.int .u8) [x / 16777216 % 256, x / 65536 % 256, x / 256 % 256, x % 256]); intro v2 w2 hr2 hb2 hg2 hx2; clear hg2 hx2; obtain ⟨A2, n2, k2, rfl⟩ := R_shape hr2; have HC2 : Aside0 ((Kd.int .u8).C w2 A2 n2 (b4 x)) := ⟨by have := (Kd.R_reads' hr2); rw [this.1]; exact this.2.2⟩; have HN2 : Aside0 (n2 = 4) := ⟨(Kd.R_reads' hr2).1⟩; have HRO2 := Aside0.mk (Kd.R_below HRO.out hb2); have HLW2 := Aside0.mk (below_step HLW.out hb2); clear hr2 hb2) | ((with_reducible refine gate_builtin (b := .append) (xs := #[.tmp 47, .tmp 59]) rfl ?_); at_builtin; refine Kd.R_append_row (Value.int .u8) (0 : Int) (w0 := w) w.heap.size rfl (.tmp 47) (.tmp 59) 23 5 _ 1 rfl Try.underlying23 info5 rfl (by decide) vo (b32 Z i) (b4 x) A2 n2 k2 (fun _ => True) rfl rfl (fun _ _ => trivial) HRO2.out HC2.out HLW2.out (below_size HLW2.out) (by rw [HN2.out]; exact HLB.out) ?_; intro v3 w3 hr3 hb3 hg3 hx3; have HR3 := Aside0.mk hr3; have HL3 := Aside0.mk hb3; clear hr3 hb3 hg3 hx3))
     go_roundg (7 - i)
     case measure => have := HI.out; have := HI8.out; omega
     case rel => exact ⟨i + 1, _, rfl, inc64 i (by have := HI8.out; omega), ⟨by have := HI8.out; omega⟩, ⟨by rw [HX.out]; exact HR3.out⟩, HL3⟩
    ·have hi8 : i = 8 := by have := HI.out; omega
     subst hi8
     have hcv := own_string (P := Try.prog) Try.underlying23 Try.underlying5 Try.underlying9 (Kd.own_of_R HRO.out)
     go_wp2
     go_ret
     refine ⟨?_, HLW.out⟩
     rw [HFIN.out]
     rfl
end Go.Proofs.Ytcdnmlfnfhoieaa.A

/- sha.Sum, walked: the digest of any bytes. Condition: fewer than 2^46 bytes. -/
namespace Go.Proofs.Ytcdnmlfnfhoieaa.A
open Go.RowKit Go.Proofs.YtcdnmlfnfhoieaaW.PrintWords Go.Proofs.YtcdnmlfnfhoieaaW.PrintLast Go.Proofs.YtcdnmlfnfhoieaaW.PrintMore Go.Proofs.Ytcdnmlfnfhoieaa.Bs
set_option linter.unusedVariables false
set_option linter.unusedSimpArgs false
theorem absorb_mod (K : List Int) : ∀ (m : Nat) (S L : List Int), L.length ≤ m → (absorb K m S L).2.length = L.length % 64 := by
 intro m
 induction m with
 | zero =>
  intro S L h
  show L.length = _
  omega
 | succ m ih =>
  intro S L h
  rw [absorb]
  split
  ·show L.length = _
   omega
  ·rw [ih _ _ (by rw [List.length_drop]; omega), List.length_drop]
   omega
/-- The digest of some bytes. -/
def sumL (B : List Int) : List Int := digestP (absorb K64 (B.length + (padL B.length).length) H8 (B ++ padL B.length)).1
def sumP (B : List Int) : ByteArray := strOfNums (sumL B)
theorem sumL_length (B : List Int) : (sumL B).length = 32 := by rw [sumL, digestP, b32_length]
theorem sumP_size (B : List Int) : (sumP B).size = 32 := by rw [sumP, strOfNums_size, sumL_length]
/-- What a Hash tells that took in B. -/
theorem sum_of (B : List Int) : digestP (absorb K64 ((absorb K64 B.length H8 B).2.length + (padL B.length).length) (absorb K64 B.length H8 B).1 ((absorb K64 B.length H8 B).2 ++ padL B.length)).1 = sumL B := by
 rw [absorb_append K64 B.length H8 B (padL B.length) (Nat.le_refl _)]
 rfl
theorem hsh_new {w : World} {g : Nat} (h : w.heap[g]? = some (.cells (hashC K64 H8 (.slice none 0 0) 0) 146 (0, 0))) : Hsh w g (fun _ => False) K64 H8 [] 0 := ⟨_, h, Kd.R_nil _ _ _ _ _⟩
theorem Hsh.below {w w' : World} {g : Nat} {P : Nat → Prop} {K S R : List Int} {n : Int} (h : Hsh w g P K S R n) (hb : Below w.heap.size w w') : Hsh w' g P K S R n := by
 obtain ⟨v, h1, h2⟩ := h
 exact ⟨v, blk_below h1 hb, Kd.R_below h2 hb⟩
theorem Hsh.bound {w : World} {g : Nat} {P : Nat → Prop} {K S R : List Int} {n : Int} (h : Hsh w g P K S R n) : Hsh w g (fun k => P k ∧ k < w.heap.size) K S R n := by
 obtain ⟨v, h1, h2⟩ := h
 exact ⟨v, h1, Kd.R_mono (Kd.R_bound h2) (fun k hk => ⟨hk.1, hk.2.2.1⟩)⟩
theorem Hsh.fr {w w' : World} {g : Nat} {P Q : Nat → Prop} {K S R : List Int} {n : Int} (h : Hsh w g P K S R n) (hf : Fr w w' Q) (hg : ¬ Q g) (hp : ∀ k, P k → k < w.heap.size → ¬ Q k) : Hsh w' g P K S R n := by
 obtain ⟨v, h1, h2⟩ := h
 exact ⟨v, hf.blk h1 hg, Kd.R_step h2 (fun k hk hl => hf.block k hl (hp k hk hl))⟩
theorem Hsh.lt {w : World} {g : Nat} {P : Nat → Prop} {K S R : List Int} {n : Int} (h : Hsh w g P K S R n) : g < w.heap.size := by
 obtain ⟨v, h1, h2⟩ := h
 exact blk_lt h1
/-- A Hash that took in X. -/
def stP (X : List Int) : List Int × List Int := absorb K64 X.length H8 X
theorem stP_append (X Y : List Int) : absorb K64 ((stP X).2.length + Y.length) (stP X).1 ((stP X).2 ++ Y) = stP (X ++ Y) := by
 unfold stP
 rw [absorb_append K64 X.length H8 X Y (Nat.le_refl _), List.length_append]
def HshX (w : World) (g : Nat) (P : Nat → Prop) (X : List Int) : Prop := Hsh w g P K64 (stP X).1 (stP X).2 (X.length : Int)
theorem hshx_new {w : World} {g : Nat} (h : w.heap[g]? = some (.cells (hashC K64 H8 (.slice none 0 0) 0) 146 (0, 0))) : HshX w g (fun _ => False) [] := hsh_new h
theorem write_x {w : World} {g n c : Nat} {P : Nat → Prop} {X B : List Int} {A : Option Addr} (h : HshX w g P X) (hg : ¬ P g) (hn : B.length = n) (hB : (Kd.int .u8).C w A n B) (hc : n ≤ c) (ho : Out (fun k => k = g ∨ P k) A n) (hl : X.length + B.length < 4611686018427387904) (hb : B.length ≤ 70368744177664) :
  Calls Try.prog 73 #[.pointer (some ⟨g, 0, none⟩), .slice A n c] w fun e w' => e = .returned (.tuple #[]) ∧ HshX w' g (fun k => P k ∨ w.heap.size ≤ k) (X ++ B) ∧ Fr w w' (fun k => k = g ∨ P k) := by
 subst hn
 refine (sha_write h hg K64_length (by unfold stP; rw [absorb_state]; rfl) (absorb_len K64 X.length H8 X (Nat.le_refl _)) hB hc ho (by omega) (by omega) hb).mono ?_
 rintro e w' ⟨rfl, h1, h2⟩
 refine ⟨rfl, ?_, h2⟩
 rw [stP_append] at h1
 unfold HshX
 rw [List.length_append]
 exact h1
theorem hsum_x {w : World} {g : Nat} {P : Nat → Prop} {X : List Int} (h : HshX w g P X) (hn : X.length < 70368744177664) :
  Calls Try.prog 74 #[.pointer (some ⟨g, 0, none⟩)] w fun e w' => e = .returned (.string (sumP X)) ∧ Below w.heap.size w w' := by
 refine (sha_hsum h K64_length (by unfold stP; rw [absorb_state]; rfl) (absorb_mod K64 X.length H8 X (Nat.le_refl _)) hn).mono ?_
 rintro e w' ⟨rfl, hb⟩
 refine ⟨?_, hb⟩
 unfold stP
 rw [sum_of]
 rfl
set_option maxHeartbeats 4000000 in
theorem sum_walk {w : World} {A : Option Addr} {c : Nat} {B : List Int} (hB : (Kd.int .u8).C w A B.length B) (hc : B.length ≤ c) (hn : B.length < 70368744177664) (hlt : ∀ ad, A = some ad → 0 < B.length → ad.block < w.heap.size) :
  Calls Try.prog 29 #[.slice A B.length c] w fun e w' => e = .returned (.string (sumP B)) ∧ Below w.heap.size w w' := by
 have HB := Aside0.mk hB
 have HN := Aside0.mk hn
 have HC := Aside0.mk hc
 have HLT := Aside0.mk hlt
 clear hB hn hc hlt
 go_enter Try.func29, Try.ntmps29
 go_wp2_with fail
 refine (sha_new w).mono ?_
 rintro e w1 ⟨g, rfl, hg, hb1, hl1⟩
 have HG := Aside0.mk hg
 have HH1 := Aside0.mk (hshx_new hb1)
 have HL1 := Aside0.mk hl1
 clear hg hb1 hl1
 go_wp2_with fail
 refine (write_x HH1.out (fun h => h) rfl (Kd.C_below HB.out HL1.out) HC.out (fun ad e h hk => by have := HLT.out ad e h; have := HG.out; rcases hk with hk | hk; omega; exact hk) (by have := HN.out; simp; omega) (by have := HN.out; omega)).mono ?_
 rintro e w2 ⟨rfl, hh2, hf2⟩
 have HF2 : Aside0 (Below w.heap.size w w2) := ⟨HL1.out.trans (hf2.to_below (below_size HL1.out) (fun k hk => by have := HG.out; rcases hk with rfl | hk; omega; exact hk.elim))⟩
 rw [List.nil_append] at hh2
 have HH2 := Aside0.mk hh2
 clear hh2 hf2
 go_wp2_with fail
 refine (hsum_x HH2.out HN.out).mono ?_
 rintro e w3 ⟨rfl, hb3⟩
 have HL3 := Aside0.mk (below_step HF2.out hb3)
 clear hb3
 go_wp2_with fail
 go_ret
 exact ⟨rfl, HL3.out⟩
end Go.Proofs.Ytcdnmlfnfhoieaa.A

/- mac.turned, walked: a key's block with a number added to each byte. Condition: the key has fewer than 2^46 bytes. -/
namespace Go.Proofs.Ytcdnmlfnfhoieaa.A
open Go.RowKit Go.Proofs.YtcdnmlfnfhoieaaW.PrintWords Go.Proofs.YtcdnmlfnfhoieaaW.PrintLast Go.Proofs.YtcdnmlfnfhoieaaW.PrintMore Go.Proofs.Ytcdnmlfnfhoieaa.Bs
set_option linter.unusedVariables false
set_option linter.unusedSimpArgs false
def cs8 (K : List Int) : Array Value := (K.map (Value.int .u8)).toArray
theorem cs8_size (K : List Int) : (cs8 K).size = K.length := by simp [cs8]
theorem cs8_get (K : List Int) (i : Nat) (h : i < K.length) : (cs8 K)[i]? = some (.int .u8 (K.getD i 0)) := by
 simp [cs8, List.getD_eq_getElem?_getD, h]
theorem cs8_set (K : List Int) (i : Nat) (n : Int) : (cs8 K).setIfInBounds i (.int .u8 n) = cs8 (K.set i n) := by
 simp [cs8]
/-- A row of bytes that lies in a block of its own. -/
theorem cs8_C {w : World} {g t : Nat} {L : List Int} (h : w.heap[g]? = some (.cells (cs8 L) t (0, 0))) (hl : L.length ≤ 9223372036854775807) : (Kd.int .u8).C w (some ⟨g, 0, none⟩) L.length L := by
 refine Kd.C_of_reads (d := (0 : Int)) (h1 := fun _ => rfl) ⟨rfl, hl, fun hn => ⟨_, rfl, fun j hj => ?_⟩⟩
 rw [add_plain, blk_cell h j]
 exact cs8_get L j hj
def keyP (key : ByteArray) : ByteArray := if 64 < key.size then sumP (bytesOf key) else key
theorem keyP_size (key : ByteArray) : (keyP key).size ≤ 64 := by
 unfold keyP
 split
 ·rw [sumP_size]
  decide
 ·omega
def blockL (k : ByteArray) : List Int := bytesOf k ++ List.replicate (64 - k.size) 0
theorem blockL_length (k : ByteArray) (h : k.size ≤ 64) : (blockL k).length = 64 := by
 rw [blockL, List.length_append, bytesOf_length, List.length_replicate]
 omega
def xorI (n : Int) (L : List Int) : Nat → List Int
 | 0 => L
 | i + 1 => (xorI n L i).set i (Go.bits .xor .u8 ((xorI n L i).getD i 0) n)
theorem xorI_length (n : Int) (L : List Int) : ∀ i, (xorI n L i).length = L.length
 | 0 => rfl
 | i + 1 => by rw [xorI, List.length_set, xorI_length n L i]
def turnedL (key : ByteArray) (n : Int) : List Int := xorI n (blockL (keyP key)) 64
theorem turnedL_length (key : ByteArray) (n : Int) : (turnedL key n).length = 64 := by rw [turnedL, xorI_length, blockL_length _ (keyP_size key)]
theorem block_set (k : ByteArray) (h : k.size ≤ 64) (w : World) (g : Nat) (hb : w.heap[g]? = some (.cells (cs8 (List.replicate 64 0)) 147 (0, 0))) :
  (w.setCells g 0 (k.data.toList.map fun x => Value.int .u8 (x.toNat : Int))).heap[g]? = some (.cells (cs8 (blockL k)) 147 (0, 0)) := by
 have hl : (k.data.toList.map fun x => Value.int .u8 (x.toNat : Int)).length = k.size := by rw [List.length_map, data_length]
 obtain ⟨cur, h3, _, h5⟩ := setCells_row (k.data.toList.map fun x => Value.int .u8 (x.toNat : Int)) 0 w (cs8 (List.replicate 64 0)) hb (by rw [hl, cs8_size, List.length_replicate]; omega)
 rw [h3]
 congr 2
 apply Array.ext'
 rw [h5, Nat.zero_add, hl, List.take_zero, List.nil_append]
 show _ ++ List.drop k.size ((List.replicate 64 (0 : Int)).map (Value.int .u8)) = (bytesOf k ++ List.replicate (64 - k.size) 0).map (Value.int .u8)
 rw [List.map_replicate, List.drop_replicate, List.map_append, List.map_replicate]
 congr 1
 rw [bytesOf, List.map_map]
 rfl
set_option maxHeartbeats 4000000 in
set_option maxRecDepth 100000 in
theorem turned_walk {w : World} (key : ByteArray) (n : Int) (hk : key.size < 70368744177664) :
  Calls Try.prog 80 #[.string key, .int .u8 n] w fun e w' => ∃ g, e = .returned (.slice (some ⟨g, 0, none⟩) 64 64) ∧ w.heap.size ≤ g ∧ w'.heap[g]? = some (.cells (cs8 (turnedL key n)) 147 (0, 0)) ∧ Below w.heap.size w w' := by
 have HB0 : Aside0 (Below w.heap.size w w) := ⟨Below.refl _ _⟩
 obtain ⟨kk, hkk⟩ : ∃ kk, keyP key = kk := ⟨_, rfl⟩
 have hks : kk.size ≤ 64 := by rw [← hkk]; exact keyP_size key
 have HKK : Aside0 (turnedL key n = xorI n (blockL kk) 64) := ⟨by rw [turnedL, hkk]⟩
 have HKS := Aside0.mk hks
 have hu147 := Try.underlying147
 have hu23 := Try.underlying23
 have hz5 : ∀ W : World, (Go.sizeOf 5).run Try.prog W = .ok 1 W := by
  intro W
  obtain ⟨i, h1, h2⟩ := Option.map_eq_some_iff.1 info5
  simp only [Prod.mk.injEq] at h2
  simp [sizeOf, typeInfo, h1, h2.2.1]
 have HZ5 := Aside0.mk hz5
 clear hz5
 by_cases h64 : 64 < key.size
 ·have d1 : decide ((64 : Int) < (key.size : Int)) = true := decide_eq_true (by omega)
  have hcv := fun W => print_bytes (P := Try.prog) 9 23 5 Try.underlying9 Try.underlying23 Try.underlying5 key W
  have HKD : Aside0 (sumP (bytesOf key) = kk) := ⟨by rw [← hkk, keyP, if_pos h64]⟩
  have HK := Aside0.mk hk
  have HBY := Aside0.mk (bytes_reads w 5 key (by omega))
  clear hkk hks h64 hk
  go_enter Try.func80, Try.ntmps80
  go_wp2_with fail
  have hsw := sum_walk (w := Lib.bytesWorld w 5 key) (A := some ⟨w.heap.size, 0, none⟩) (c := grownCap w key.size 0 5) (B := bytesOf key) (by rw [bytesOf_length]; exact Kd.C_of_reads (d := (0 : Int)) (h1 := fun _ => rfl) HBY.out) (by rw [bytesOf_length]; exact grownCap_ge w key.size 0 5) (by rw [bytesOf_length]; exact HK.out) (fun ad e _ => by cases e; rw [Lib.bytesWorld_size]; exact Nat.lt_succ_self _)
  rw [bytesOf_length] at hsw
  refine hsw.mono ?_
  rintro e w1 ⟨rfl, hb1⟩
  have HL1 := Aside0.mk (below_then (bytes_below HB0.out (Nat.le_refl _) 5 key) (by rw [Lib.bytesWorld_size]; omega) hb1)
  rw [HKD.out]
  clear hb1 hsw hcv HBY HK HKD d1 HB0
  go_upto_region 4 with ((with_reducible refine gate_dst (N := 5) rfl ?_); refine box_event ?hg (N := 5) ?hd (cs := cs8 (List.replicate 64 0)) (t := 147) ?hr ?_; (case hd => rfl); (case hg => rfl); (case hr => first | (go_simp; done) | (go_simp; rfl)); intro g5 hg5 w5 hb5 hbel5; have HG5 := Aside0.mk hg5; have HB5 := Aside0.mk hb5; have HL5 := Aside0.mk (below_step HL1.out hbel5); have HG5W : Aside0 (w.heap.size ≤ g5) := ⟨by have := below_size HL1.out; omega⟩; clear hg5 hb5 hbel5)
  have H0 := Aside0.mk (below_size HL1.out)
  clear HG5 HL1 H0
  have hcp := Go.run_copy_string (P := Try.prog) w5 23 9 3 5 g5 0 64 64 kk hu23 HZ5.out HKS.out (fun j hj => by rw [Nat.zero_add, blk_cell HB5.out j, cs8_get _ j (by rw [List.length_replicate]; have := HKS.out; omega)]; rfl) (fun j hj => blk_frozen HB5.out _)
  have HB6 := Aside0.mk (block_set kk HKS.out w5 g5 HB5.out)
  have HL6 := Aside0.mk (Go.below_setCells HG5W.out (kk.data.toList.map fun x => Value.int .u8 (x.toNat : Int)) 0 _ HL5.out)
  generalize w5.setCells g5 0 (kk.data.toList.map fun x => Value.int .u8 (x.toNat : Int)) = w6 at hcp HB6 HL6
  clear HB5 HL5
  go_wp2
  clear hcp
  go_loopg [16] 64 (fun kq v w' => ∃ i : Nat, v = .int .i64 i ∧ Aside0 (i + kq = 64) ∧ Aside0 (w'.heap[g5]? = some (.cells (cs8 (xorI n (blockL kk) i)) 147 (0, 0))) ∧ Aside0 (Below w.heap.size w w'))
  case atStart => exact ⟨0, rfl, ⟨rfl⟩, HB6, HL6⟩
  case round =>
   clear HB6 HL6
   obtain ⟨i, rfl, HI, HB6, HL6⟩ := hrel
   by_cases hi : i < 64
   ·have c5 : wr.cell? ⟨g5, i, none⟩ = some (.int .u8 ((xorI n (blockL kk) i).getD i 0)) := by rw [blk_cell HB6.out i]; exact cs8_get _ i (by rw [xorI_length, blockL_length _ HKS.out]; exact hi)
    obtain ⟨x, hx⟩ : ∃ x, (xorI n (blockL kk) i).getD i 0 = x := ⟨_, rfl⟩
    rw [hx] at c5
    have f5 : wr.frozen? ⟨g5, i, none⟩ = false := blk_frozen HB6.out i
    have HX : Aside0 (xorI n (blockL kk) (i + 1) = (xorI n (blockL kk) i).set i (Go.bits .xor .u8 x n)) := ⟨by rw [xorI, hx]⟩
    have HI8 := Aside0.mk hi
    have d1 : decide ((i : Int) < 64) = true := decide_eq_true (by omega)
    have p1 := eq_true (show (0 : Int) ≤ (i : Int) by omega)
    have p2 := eq_true (show (i : Int) < 64 by omega)
    clear hx hi
    go_wp2
    go_roundg (63 - i)
    case measure => have := HI.out; have := HI8.out; omega
    case rel => exact ⟨i + 1, inc64 i (by have := HI8.out; omega), ⟨by have := HI8.out; omega⟩, ⟨by rw [HX.out, ← cs8_set]; exact blk_set HB6.out i _⟩, ⟨below_set HL6.out HG5W.out⟩⟩
   ·have hi64 : i = 64 := by have := HI.out; omega
    subst hi64
    clear HI hi
    go_wp2
    go_ret
    exact ⟨g5, rfl, HG5W.out, by rw [HKK.out]; exact HB6.out, HL6.out⟩
 ·have d1 : decide ((64 : Int) < (key.size : Int)) = false := decide_eq_false (by omega)
  have HKD : key = kk := by rw [← hkk, keyP, if_neg h64]
  subst HKD
  clear hkk hks h64 hk
  have HL1 := HB0
  go_enter Try.func80, Try.ntmps80
  go_upto_region 4 with ((with_reducible refine gate_dst (N := 5) rfl ?_); refine box_event ?hg (N := 5) ?hd (cs := cs8 (List.replicate 64 0)) (t := 147) ?hr ?_; (case hd => rfl); (case hg => rfl); (case hr => first | (go_simp; done) | (go_simp; rfl)); intro g5 hg5 w5 hb5 hbel5; have HG5 := Aside0.mk hg5; have HB5 := Aside0.mk hb5; have HL5 := Aside0.mk (below_step HL1.out hbel5); have HG5W : Aside0 (w.heap.size ≤ g5) := ⟨by rw [hg5]; exact Nat.le_refl _⟩; clear hg5 hb5 hbel5)
  clear HG5 HL1 HB0 d1
  have hcp := Go.run_copy_string (P := Try.prog) w5 23 9 3 5 g5 0 64 64 key hu23 HZ5.out HKS.out (fun j hj => by rw [Nat.zero_add, blk_cell HB5.out j, cs8_get _ j (by rw [List.length_replicate]; have := HKS.out; omega)]; rfl) (fun j hj => blk_frozen HB5.out _)
  have HB6 := Aside0.mk (block_set key HKS.out w5 g5 HB5.out)
  have HL6 := Aside0.mk (Go.below_setCells HG5W.out (key.data.toList.map fun x => Value.int .u8 (x.toNat : Int)) 0 _ HL5.out)
  generalize w5.setCells g5 0 (key.data.toList.map fun x => Value.int .u8 (x.toNat : Int)) = w6 at hcp HB6 HL6
  clear HB5 HL5
  go_wp2
  clear hcp
  go_loopg [16] 64 (fun kq v w' => ∃ i : Nat, v = .int .i64 i ∧ Aside0 (i + kq = 64) ∧ Aside0 (w'.heap[g5]? = some (.cells (cs8 (xorI n (blockL key) i)) 147 (0, 0))) ∧ Aside0 (Below w.heap.size w w'))
  case atStart => exact ⟨0, rfl, ⟨rfl⟩, HB6, HL6⟩
  case round =>
   clear HB6 HL6
   obtain ⟨i, rfl, HI, HB6, HL6⟩ := hrel
   by_cases hi : i < 64
   ·have c5 : wr.cell? ⟨g5, i, none⟩ = some (.int .u8 ((xorI n (blockL key) i).getD i 0)) := by rw [blk_cell HB6.out i]; exact cs8_get _ i (by rw [xorI_length, blockL_length _ HKS.out]; exact hi)
    obtain ⟨x, hx⟩ : ∃ x, (xorI n (blockL key) i).getD i 0 = x := ⟨_, rfl⟩
    rw [hx] at c5
    have f5 : wr.frozen? ⟨g5, i, none⟩ = false := blk_frozen HB6.out i
    have HX : Aside0 (xorI n (blockL key) (i + 1) = (xorI n (blockL key) i).set i (Go.bits .xor .u8 x n)) := ⟨by rw [xorI, hx]⟩
    have HI8 := Aside0.mk hi
    have d1 : decide ((i : Int) < 64) = true := decide_eq_true (by omega)
    have p1 := eq_true (show (0 : Int) ≤ (i : Int) by omega)
    have p2 := eq_true (show (i : Int) < 64 by omega)
    clear hx hi
    go_wp2
    go_roundg (63 - i)
    case measure => have := HI.out; have := HI8.out; omega
    case rel => exact ⟨i + 1, inc64 i (by have := HI8.out; omega), ⟨by have := HI8.out; omega⟩, ⟨by rw [HX.out, ← cs8_set]; exact blk_set HB6.out i _⟩, ⟨below_set HL6.out HG5W.out⟩⟩
   ·have hi64 : i = 64 := by have := HI.out; omega
    subst hi64
    clear HI hi
    go_wp2
    go_ret
    exact ⟨g5, rfl, HG5W.out, by rw [HKK.out]; exact HB6.out, HL6.out⟩
end Go.Proofs.Ytcdnmlfnfhoieaa.A

/- mac.Seal, walked: the seal of any message by any key. Condition: both have fewer than 2^45 bytes. -/
namespace Go.Proofs.Ytcdnmlfnfhoieaa.A
open Go.RowKit Go.Proofs.YtcdnmlfnfhoieaaW.PrintWords Go.Proofs.YtcdnmlfnfhoieaaW.PrintLast Go.Proofs.YtcdnmlfnfhoieaaW.PrintMore Go.Proofs.Ytcdnmlfnfhoieaa.Bs
set_option linter.unusedVariables false
set_option linter.unusedSimpArgs false
/-- A message's seal. -/
def sealP (key msg : ByteArray) : ByteArray := sumP (turnedL key 92 ++ bytesOf (sumP (turnedL key 54 ++ bytesOf msg)))
theorem sealP_size (key msg : ByteArray) : (sealP key msg).size = 32 := sumP_size _
set_option maxHeartbeats 4000000 in
set_option maxRecDepth 100000 in
theorem seal_walk {w : World} (key msg : ByteArray) (hk : key.size < 35184372088832) (hm : msg.size < 35184372088832) :
  Calls Try.prog 47 #[.string key, .string msg] w fun e w' => e = .returned (.string (sealP key msg)) ∧ Below w.heap.size w w' := by
 have HK := Aside0.mk hk
 have HM := Aside0.mk hm
 clear hk hm
 have hcv := fun W => print_bytes (P := Try.prog) 9 23 5 Try.underlying9 Try.underlying23 Try.underlying5 msg W
 obtain ⟨d1, hd1⟩ : ∃ d, sumP (turnedL key 54 ++ bytesOf msg) = d := ⟨_, rfl⟩
 have hcd := fun W => print_bytes (P := Try.prog) 9 23 5 Try.underlying9 Try.underlying23 Try.underlying5 d1 W
 have HD : Aside0 (sealP key msg = sumP (turnedL key 92 ++ bytesOf d1)) := ⟨by rw [sealP, hd1]⟩
 have HD1 := Aside0.mk hd1
 have HDS : Aside0 (d1.size = 32) := ⟨by rw [← hd1, sumP_size]⟩
 clear hd1
 go_enter Try.func47, Try.ntmps47
 go_wp2_with fail
 refine (sha_new w).mono ?_
 rintro e w1 ⟨g1, rfl, hg1, hb1, hl1⟩
 have HG1 := Aside0.mk hg1
 have HX1 := Aside0.mk (hshx_new hb1)
 have HL1 := Aside0.mk hl1
 clear hg1 hb1 hl1
 go_wp2_with fail
 refine (turned_walk key 54 (by have := HK.out; omega)).mono ?_
 rintro e w2 ⟨t1, rfl, ht1, hc2, hl2⟩
 have HX2 := Aside0.mk (HX1.out.below hl2)
 have HL2 := Aside0.mk (below_step HL1.out hl2)
 have HC2 : Aside0 ((Kd.int .u8).C w2 (some ⟨t1, 0, none⟩) 64 (turnedL key 54)) := ⟨by have := cs8_C hc2 (by rw [turnedL_length]; decide); rwa [turnedL_length] at this⟩
 have HT1 : Aside0 (g1 ≠ t1) := ⟨by have := HX1.out.lt; omega⟩
 clear hc2 hl2 ht1 HX1 HL1
 go_wp2_with fail
 refine (write_x HX2.out (fun h => h) (turnedL_length key 54) HC2.out (Nat.le_refl _) (fun ad e h hk => by cases e; rcases hk with hk | hk; exact HT1.out hk.symm; exact hk) (by rw [turnedL_length]; simp) (by rw [turnedL_length]; decide)).mono ?_
 rintro e w3 ⟨rfl, hx3, hf3⟩
 rw [List.nil_append] at hx3
 have HX3 := Aside0.mk hx3.bound
 have HL3 : Aside0 (Below w.heap.size w w3) := ⟨HL2.out.trans (hf3.to_below (below_size HL2.out) (fun k hk => by have := HG1.out; rcases hk with rfl | hk; omega; exact hk.elim))⟩
 have HG3 : Aside0 (g1 < w2.heap.size) := ⟨HX2.out.lt⟩
 clear hx3 hf3 HX2 HL2 HC2 HT1
 have HBY := Aside0.mk (bytes_reads w3 5 msg (by have := HM.out; omega))
 go_wp2_with fail
 have hx4 := HX3.out.fr (Q := fun _ => False) (Fr.of_below (bytes_below (Below.refl _ w3) (Nat.le_refl _) 5 msg) _) (fun h => h) (fun _ _ _ h => h)
 have HL4 := Aside0.mk (bytes_below HL3.out (below_size HL3.out) 5 msg)
 have HS4 : Aside0 (w3.heap.size < (Lib.bytesWorld w3 5 msg).heap.size) := ⟨by rw [Lib.bytesWorld_size]; exact Nat.lt_succ_self _⟩
 have HX4 := Aside0.mk hx4
 have hgc := grownCap_ge w3 msg.size 0 5
 generalize grownCap w3 msg.size 0 5 = c4 at hgc ⊢
 have HGC := Aside0.mk hgc
 have HB3 : Aside0 (g1 < w3.heap.size) := ⟨HX3.out.lt⟩
 generalize Lib.bytesWorld w3 5 msg = w4 at HX4 HL4 HBY HS4 ⊢
 clear hx4 hgc hcv HX3 HL3
 refine (write_x HX4.out (fun h => by have := HG3.out; rcases h.1 with h1 | h1; exact h1; omega) (bytesOf_length msg) (Kd.C_of_reads (d := (0 : Int)) (h1 := fun _ => rfl) HBY.out) HGC.out (fun ad e h hk => by cases e; have := HB3.out; rcases hk with hk | hk; exact absurd hk (Nat.ne_of_gt this); exact absurd hk.2 (Nat.lt_irrefl _)) (by rw [turnedL_length, bytesOf_length]; have := HM.out; omega) (by rw [bytesOf_length]; have := HM.out; omega)).mono ?_
 rintro e w5 ⟨rfl, hx5, hf5⟩
 have HX5 := Aside0.mk hx5.bound
 have HL5 : Aside0 (Below w.heap.size w w5) := ⟨HL4.out.trans (hf5.to_below (below_size HL4.out) (fun k hk => by have := HG1.out; have := HG3.out; rcases hk with rfl | hk; omega; rcases hk.1 with h1 | h1; exact h1.elim; have := HX4.out.lt; omega))⟩
 clear hx5 hf5 HX4 HL4 HBY HGC HS4 HB3
 go_wp2_with fail
 refine (sha_new w5).mono ?_
 rintro e w6 ⟨g2, rfl, hg2, hb6, hl6⟩
 have HG2 := Aside0.mk hg2
 have HX6 := Aside0.mk (HX5.out.below hl6)
 have HY6 := Aside0.mk (hshx_new hb6)
 have HL6 := Aside0.mk (below_step HL5.out hl6)
 have HB5 : Aside0 (g1 < w5.heap.size) := ⟨HX5.out.lt⟩
 clear hg2 hb6 hl6 HX5 HL5
 go_wp2_with fail
 refine (turned_walk key 92 (by have := HK.out; omega)).mono ?_
 rintro e w7 ⟨t2, rfl, ht2, hc7, hl7⟩
 have HX7 := Aside0.mk (HX6.out.below hl7)
 have HY7 := Aside0.mk (HY6.out.below hl7)
 have HL7 := Aside0.mk (below_step HL6.out hl7)
 have HC7 : Aside0 ((Kd.int .u8).C w7 (some ⟨t2, 0, none⟩) 64 (turnedL key 92)) := ⟨by have := cs8_C hc7 (by rw [turnedL_length]; decide); rwa [turnedL_length] at this⟩
 have HT2 : Aside0 (g2 ≠ t2) := ⟨by have := HY6.out.lt; omega⟩
 clear hc7 hl7 ht2 HX6 HY6 HL6
 go_wp2_with fail
 refine (write_x HY7.out (fun h => h) (turnedL_length key 92) HC7.out (Nat.le_refl _) (fun ad e h hk => by cases e; rcases hk with hk | hk; exact HT2.out hk.symm; exact hk) (by rw [turnedL_length]; simp) (by rw [turnedL_length]; decide)).mono ?_
 rintro e w8 ⟨rfl, hy8, hf8⟩
 rw [List.nil_append] at hy8
 have HY8 := Aside0.mk hy8.bound
 have HX8 := Aside0.mk (HX7.out.fr hf8 (fun h => by have := HG2.out; have := HB5.out; rcases h with h | h; omega; exact h) (fun k hk _ h => by have := HG2.out; have := hk.2; rcases h with h | h; omega; exact h))
 have HL8 : Aside0 (Below w.heap.size w w8) := ⟨HL7.out.trans (hf8.to_below (below_size HL7.out) (fun k hk => by have := HG1.out; have := HB5.out; have := HG2.out; rcases hk with rfl | hk; omega; exact hk.elim))⟩
 have HG8 : Aside0 (g2 < w7.heap.size ∧ w.heap.size ≤ w7.heap.size) := ⟨HY7.out.lt, below_size HL7.out⟩
 clear hy8 hf8 HX7 HY7 HL7 HC7 HT2
 go_wp2_with fail
 refine (hsum_x HX8.out (by rw [List.length_append, turnedL_length, bytesOf_length]; have := HM.out; omega)).mono ?_
 rintro e w9 ⟨rfl, hl9⟩
 have HY9 := Aside0.mk (HY8.out.below hl9)
 have HL9 := Aside0.mk (below_step HL8.out hl9)
 have HS9 : Aside0 (w8.heap.size ≤ w9.heap.size) := ⟨below_size hl9⟩
 clear hl9 HY8 HL8 HX8
 rw [HD1.out]
 have HBY := Aside0.mk (bytes_reads w9 5 d1 (by have := HDS.out; omega))
 go_wp2_with fail
 have hy10 := HY9.out.fr (Q := fun _ => False) (Fr.of_below (bytes_below (Below.refl _ w9) (Nat.le_refl _) 5 d1) _) (fun h => h) (fun _ _ _ h => h)
 have HL10 := Aside0.mk (bytes_below HL9.out (below_size HL9.out) 5 d1)
 have HY10 := Aside0.mk hy10
 have hgc := grownCap_ge w9 d1.size 0 5
 generalize grownCap w9 d1.size 0 5 = c10 at hgc ⊢
 have HGC := Aside0.mk hgc
 have HB9 : Aside0 (g2 < w9.heap.size) := ⟨HY9.out.lt⟩
 generalize Lib.bytesWorld w9 5 d1 = w10 at HY10 HL10 HBY ⊢
 clear hy10 hgc hcd HY9 HL9
 refine (write_x HY10.out (fun h => by have := HG8.out; rcases h.1 with h1 | h1; exact h1; omega) (bytesOf_length d1) (Kd.C_of_reads (d := (0 : Int)) (h1 := fun _ => rfl) HBY.out) HGC.out (fun ad e h hk => by cases e; have := HB9.out; have := HS9.out; rcases hk with hk | hk; exact absurd hk (Nat.ne_of_gt HB9.out); exact absurd hk.2 (Nat.not_lt_of_le HS9.out)) (by rw [turnedL_length, bytesOf_length]; have := HDS.out; omega) (by rw [bytesOf_length]; have := HDS.out; omega)).mono ?_
 rintro e w11 ⟨rfl, hy11, hf11⟩
 have HY11 := Aside0.mk hy11
 have HL11 : Aside0 (Below w.heap.size w w11) := ⟨HL10.out.trans (hf11.to_below (below_size HL10.out) (fun k hk => by have := HG1.out; have := HB5.out; have := HG2.out; have := HG8.out; rcases hk with rfl | hk; omega; rcases hk.1 with h1 | h1; exact h1.elim; omega))⟩
 clear hy11 hf11 HY10 HL10 HBY HGC
 go_wp2_with fail
 refine (hsum_x HY11.out (by rw [List.length_append, turnedL_length, bytesOf_length]; have := HDS.out; omega)).mono ?_
 rintro e w12 ⟨rfl, hl12⟩
 have HL12 := Aside0.mk (below_step HL11.out hl12)
 clear hl12
 rw [← HD.out]
 go_wp2_with fail
 go_ret
 exact ⟨rfl, HL12.out⟩
/-- In the form in which the other texts call it. -/
def mac_Seal.f (key msg : ByteArray) : Option ByteArray := if key.size < 35184372088832 ∧ msg.size < 35184372088832 then some (sealP key msg) else none
theorem mac_Seal.some_ (key msg : ByteArray) (hk : key.size < 35184372088832) (hm : msg.size < 35184372088832) : mac_Seal.f key msg = some (sealP key msg) := if_pos ⟨hk, hm⟩
theorem mac_Seal.calls (key msg r : ByteArray) (w : World) (h : mac_Seal.f key msg = some r) : Calls Try.prog 47 #[.string key, .string msg] w fun e w' => e = .returned (.string r) ∧ Below w.heap.size w w' := by
 unfold mac_Seal.f at h
 by_cases hc : key.size < 35184372088832 ∧ msg.size < 35184372088832
 ·rw [if_pos hc] at h
  obtain rfl := Option.some.inj h
  exact seal_walk key msg hc.1 hc.2
 ·rw [if_neg hc] at h
  cases h
end Go.Proofs.Ytcdnmlfnfhoieaa.A
