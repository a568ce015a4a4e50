/- What the claim's last text reaches, in build order (part 6 of 7). No condition beyond those of the texts themselves. -/
import Derived.Test.YtcdnmlfnfhoieaaMAuditFollows0
import Derived.Test.YtcdnmlfnfhoieaaMAuditFollows1
import Derived.Test.YtcdnmlfnfhoieaaMAuditFollows2
import Derived.Test.YtcdnmlfnfhoieaaMAuditFollows3
import Derived.Test.YtcdnmlfnfhoieaaMAuditFollows4

namespace Go.Proofs.Ytcdnmlfnfhoieaa.A
open Go.RowKit Go.Proofs.YtcdnmlfnfhoieaaW.PrintWords Go.Proofs.YtcdnmlfnfhoieaaW.PrintLast Go.Proofs.YtcdnmlfnfhoieaaW.PrintMore
attribute [local go_sem] max2_int min2_int max_two min_two max_three min_three max_four min_four
set_option linter.unusedVariables false
set_option linter.unusedSimpArgs false
attribute [local go_sem high] eqA64
/-! ### strongroomref13_Follows: function 50 -/
mutual
def strongroomref13_Follows.j0 : Nat → Bool → ByteArray → Int → List (S64) → ByteArray → Int → List (S64) → Option (Bool)
 | 0, _, _, _, _, _, _, _ => none
 | k + 1, x22, x500000, x500001, x500002, x501000, x501001, x501002 => if x22 = true then (some false) else (strongroomref13_Follows.l0 k 0 x500000 x500001 x500002 x501000 x501001 x501002)
def strongroomref13_Follows.l0 : Nat → Int → ByteArray → Int → List (S64) → ByteArray → Int → List (S64) → Option (Bool)
 | 0, _, _, _, _, _, _, _ => none
 | k + 1, x5, x500000, x500001, x500002, x501000, x501001, x501002 => if x5 < (x500002.length : Int) then (strongroomref13_Follows.l1 k x5 0 x500000 x500001 x500002 x501000 x501001 x501002) else (strongroomref13_Follows.l2 k 0 x500000 x500001 x500002 x501000 x501001 x501002)
def strongroomref13_Follows.l1 : Nat → Int → Int → ByteArray → Int → List (S64) → ByteArray → Int → List (S64) → Option (Bool)
 | 0, _, _, _, _, _, _, _, _ => none
 | k + 1, x5, x6, x500000, x500001, x500002, x501000, x501001, x501002 => if x6 < (x501002.length : Int) then (if 0 ≤ x5 then (if x5 < (x500002.length : Int) then (if 0 ≤ x6 then (if ((rd_T64 x500002 x5).f0) = ((rd_T64 x501002 x6).f0) then (if (!(((rd_T64 x500002 x5).f0) == ((rd_T64 x501002 x6).f0)) || (!(((rd_T64 x500002 x5).f1) == ((rd_T64 x501002 x6).f1)) || (!(((rd_T64 x500002 x5).f2) == ((rd_T64 x501002 x6).f2)) || (!((((rd_T64 x500002 x5).f3).toList) == (((rd_T64 x501002 x6).f3).toList)) || (!(((rd_T64 x500002 x5).f4) == ((rd_T64 x501002 x6).f4))))))) = true then (some false) else (strongroomref13_Follows.l1 k x5 (wrap64 (x6 + 1)) x500000 x500001 x500002 x501000 x501001 x501002)) else (strongroomref13_Follows.l1 k x5 (wrap64 (x6 + 1)) x500000 x500001 x500002 x501000 x501001 x501002)) else (none)) else (none)) else (none)) else (strongroomref13_Follows.l0 k (wrap64 (x5 + 1)) x500000 x500001 x500002 x501000 x501001 x501002)
def strongroomref13_Follows.l2 : Nat → Int → ByteArray → Int → List (S64) → ByteArray → Int → List (S64) → Option (Bool)
 | 0, _, _, _, _, _, _, _ => none
 | k + 1, x7, x500000, x500001, x500002, x501000, x501001, x501002 => if x7 ≤ (x501002.length : Int) then (if (wrap64 ((wrap64 (x501001 - (x501002.length : Int))) + x7)) = x500001 then ((strongroomref13_Chain.f k x500000 x500002).bind fun t507 => (if 0 ≤ x7 then ((strongroomref13_Chain.f k x501000 (x501002.take (x7 : Int).toNat)).bind fun t512 => (some (t507.toList == t512.toList))) else (none))) else (strongroomref13_Follows.l2 k (wrap64 (x7 + 1)) x500000 x500001 x500002 x501000 x501001 x501002)) else (some true)
end
def strongroomref13_Follows.f (k : Nat) (a0_0 : ByteArray) (a0_1 : Int) (l0_2 : List (S64)) (a1_0 : ByteArray) (a1_1 : Int) (l1_2 : List (S64)) : Option (Bool) := (strongroomref13_May.f k a0_0 a0_1 l0_2).bind fun t501 => (if t501 = true then ((strongroomref13_May.f k a1_0 a1_1 l1_2).bind fun t502 => (if t502 = true then (strongroomref13_Follows.j0 k (decide (a0_1 > a1_1)) a0_0 a0_1 l0_2 a1_0 a1_1 l1_2) else (strongroomref13_Follows.j0 k true a0_0 a0_1 l0_2 a1_0 a1_1 l1_2))) else (strongroomref13_Follows.j0 k true a0_0 a0_1 l0_2 a1_0 a1_1 l1_2))
theorem strongroomref13_Follows.mono_l : ∀ k, (∀ y0 y1 y2 y3 y4 y5 y6, LeO (strongroomref13_Follows.j0 k y0 y1 y2 y3 y4 y5 y6) (strongroomref13_Follows.j0 (k + 1) y0 y1 y2 y3 y4 y5 y6)) ∧ (∀ y0 y1 y2 y3 y4 y5 y6, LeO (strongroomref13_Follows.l0 k y0 y1 y2 y3 y4 y5 y6) (strongroomref13_Follows.l0 (k + 1) y0 y1 y2 y3 y4 y5 y6)) ∧ (∀ y0 y1 y2 y3 y4 y5 y6 y7, LeO (strongroomref13_Follows.l1 k y0 y1 y2 y3 y4 y5 y6 y7) (strongroomref13_Follows.l1 (k + 1) y0 y1 y2 y3 y4 y5 y6 y7)) ∧ (∀ y0 y1 y2 y3 y4 y5 y6, LeO (strongroomref13_Follows.l2 k y0 y1 y2 y3 y4 y5 y6) (strongroomref13_Follows.l2 (k + 1) y0 y1 y2 y3 y4 y5 y6))
 | 0 => ⟨fun _ _ _ _ _ _ _ r h => by simp [strongroomref13_Follows.j0] at h, fun _ _ _ _ _ _ _ r h => by simp [strongroomref13_Follows.l0] at h, fun _ _ _ _ _ _ _ _ r h => by simp [strongroomref13_Follows.l1] at h, fun _ _ _ _ _ _ _ r h => by simp [strongroomref13_Follows.l2] at h⟩
 | k + 1 => by
  obtain ⟨ih0, ih1, ih2, ih3⟩ := strongroomref13_Follows.mono_l k
  refine ⟨?_, ?_, ?_, ?_⟩
  ·intro y0 y1 y2 y3 y4 y5 y6
   unfold strongroomref13_Follows.j0
   repeat' first
   | (with_reducible exact ih0 _ _ _ _ _ _ _)
   | (with_reducible exact ih1 _ _ _ _ _ _ _)
   | (with_reducible exact ih2 _ _ _ _ _ _ _ _)
   | (with_reducible exact ih3 _ _ _ _ _ _ _)
   | (with_reducible exact strongroomref13_Chain.mono _ _ _)
   | (with_reducible exact strongroomref13_May.mono _ _ _ _)
   | (with_reducible exact LeO.refl _)
   | (with_reducible exact LeO.none _)
   | (with_reducible refine LeO.ite ?_ ?_)
   | (with_reducible refine LeO.bind ?_ (fun _ => ?_))
   | exact ih0 _ _ _ _ _ _ _
   | exact ih1 _ _ _ _ _ _ _
   | exact ih2 _ _ _ _ _ _ _ _
   | exact ih3 _ _ _ _ _ _ _
   | exact strongroomref13_Chain.mono _ _ _
   | exact strongroomref13_May.mono _ _ _ _
   | exact LeO.none _
   | refine LeO.ite ?_ ?_
   | refine LeO.bind ?_ (fun _ => ?_)
  ·intro y0 y1 y2 y3 y4 y5 y6
   unfold strongroomref13_Follows.l0
   repeat' first
   | (with_reducible exact ih0 _ _ _ _ _ _ _)
   | (with_reducible exact ih1 _ _ _ _ _ _ _)
   | (with_reducible exact ih2 _ _ _ _ _ _ _ _)
   | (with_reducible exact ih3 _ _ _ _ _ _ _)
   | (with_reducible exact strongroomref13_Chain.mono _ _ _)
   | (with_reducible exact strongroomref13_May.mono _ _ _ _)
   | (with_reducible exact LeO.refl _)
   | (with_reducible exact LeO.none _)
   | (with_reducible refine LeO.ite ?_ ?_)
   | (with_reducible refine LeO.bind ?_ (fun _ => ?_))
   | exact ih0 _ _ _ _ _ _ _
   | exact ih1 _ _ _ _ _ _ _
   | exact ih2 _ _ _ _ _ _ _ _
   | exact ih3 _ _ _ _ _ _ _
   | exact strongroomref13_Chain.mono _ _ _
   | exact strongroomref13_May.mono _ _ _ _
   | exact LeO.none _
   | refine LeO.ite ?_ ?_
   | refine LeO.bind ?_ (fun _ => ?_)
  ·intro y0 y1 y2 y3 y4 y5 y6 y7
   unfold strongroomref13_Follows.l1
   repeat' first
   | (with_reducible exact ih0 _ _ _ _ _ _ _)
   | (with_reducible exact ih1 _ _ _ _ _ _ _)
   | (with_reducible exact ih2 _ _ _ _ _ _ _ _)
   | (with_reducible exact ih3 _ _ _ _ _ _ _)
   | (with_reducible exact strongroomref13_Chain.mono _ _ _)
   | (with_reducible exact strongroomref13_May.mono _ _ _ _)
   | (with_reducible exact LeO.refl _)
   | (with_reducible exact LeO.none _)
   | (with_reducible refine LeO.ite ?_ ?_)
   | (with_reducible refine LeO.bind ?_ (fun _ => ?_))
   | exact ih0 _ _ _ _ _ _ _
   | exact ih1 _ _ _ _ _ _ _
   | exact ih2 _ _ _ _ _ _ _ _
   | exact ih3 _ _ _ _ _ _ _
   | exact strongroomref13_Chain.mono _ _ _
   | exact strongroomref13_May.mono _ _ _ _
   | exact LeO.none _
   | refine LeO.ite ?_ ?_
   | refine LeO.bind ?_ (fun _ => ?_)
  ·intro y0 y1 y2 y3 y4 y5 y6
   unfold strongroomref13_Follows.l2
   repeat' first
   | (with_reducible exact ih0 _ _ _ _ _ _ _)
   | (with_reducible exact ih1 _ _ _ _ _ _ _)
   | (with_reducible exact ih2 _ _ _ _ _ _ _ _)
   | (with_reducible exact ih3 _ _ _ _ _ _ _)
   | (with_reducible exact strongroomref13_Chain.mono _ _ _)
   | (with_reducible exact strongroomref13_May.mono _ _ _ _)
   | (with_reducible exact LeO.refl _)
   | (with_reducible exact LeO.none _)
   | (with_reducible refine LeO.ite ?_ ?_)
   | (with_reducible refine LeO.bind ?_ (fun _ => ?_))
   | exact ih0 _ _ _ _ _ _ _
   | exact ih1 _ _ _ _ _ _ _
   | exact ih2 _ _ _ _ _ _ _ _
   | exact ih3 _ _ _ _ _ _ _
   | exact strongroomref13_Chain.mono _ _ _
   | exact strongroomref13_May.mono _ _ _ _
   | exact LeO.none _
   | refine LeO.ite ?_ ?_
   | refine LeO.bind ?_ (fun _ => ?_)
theorem strongroomref13_Follows.mono : ∀ a0 a1 a2 a3 a4 a5 k, LeO (strongroomref13_Follows.f k a0 a1 a2 a3 a4 a5) (strongroomref13_Follows.f (k + 1) a0 a1 a2 a3 a4 a5) := by
 intro a0 a1 a2 a3 a4 a5 k
 obtain ⟨ih0, ih1, ih2, ih3⟩ := strongroomref13_Follows.mono_l k
 unfold strongroomref13_Follows.f
 repeat' first
   | (with_reducible exact ih0 _ _ _ _ _ _ _)
   | (with_reducible exact ih1 _ _ _ _ _ _ _)
   | (with_reducible exact ih2 _ _ _ _ _ _ _ _)
   | (with_reducible exact ih3 _ _ _ _ _ _ _)
   | (with_reducible exact strongroomref13_Chain.mono _ _ _)
   | (with_reducible exact strongroomref13_May.mono _ _ _ _)
   | (with_reducible exact LeO.refl _)
   | (with_reducible exact LeO.none _)
   | (with_reducible refine LeO.ite ?_ ?_)
   | (with_reducible refine LeO.bind ?_ (fun _ => ?_))
   | exact ih0 _ _ _ _ _ _ _
   | exact ih1 _ _ _ _ _ _ _
   | exact ih2 _ _ _ _ _ _ _ _
   | exact ih3 _ _ _ _ _ _ _
   | exact strongroomref13_Chain.mono _ _ _
   | exact strongroomref13_May.mono _ _ _ _
   | exact LeO.none _
   | refine LeO.ite ?_ ?_
   | refine LeO.bind ?_ (fun _ => ?_)
def strongroomref13_Follows.T9 : Bool × List (List Nat × List Nat) := (true, [([], []), ([0], [0]), ([], []), ([1, 2], [1, 2]), ([3], [3]), ([4], [4]), ([], []), ([6], [6]), ([], []), ([7, 8], [7, 8]), ([9], [9]), ([10], [10]), ([5, 11], [5, 11]), ([12], [12]), ([13], [13]), ([14, 13], [13, 14]), ([13], [13]), ([15, 16, 13], [13, 15, 16]), ([17, 13], [13, 17]), ([13], [13]), ([19, 13], [13, 19]), ([13], [13]), ([20, 21, 13], [13, 20, 21]), ([22, 13], [13, 22]), ([18, 23, 13], [13, 18, 23]), ([13, 24], [13, 24])])
def strongroomref13_Follows.B9 : List Nat := [0, 1, 0, 7, 15, 31, 0, 64, 0, 448, 960, 1984, 4095, 8191, 16383, 32767, 16383, 131071, 262143, 16383, 540671, 16383, 3686399, 7880703, 16777215, 33554431]
theorem strongroomref13_Follows.tab9 : rtab .any (opsOf Try.f50 9) = strongroomref13_Follows.T9 := by kernel_rfl
theorem strongroomref13_Follows.bits9 : waitsOk strongroomref13_Follows.T9.2 strongroomref13_Follows.B9 = true := by kernel_rfl
def strongroomref13_Follows.T15 : Bool × List (List Nat × List Nat) := (true, [([], []), ([0], [0]), ([], []), ([2], [2]), ([1, 3], [1, 3]), ([], []), ([5], [5]), ([], []), ([7], [7]), ([], []), ([8, 9], [8, 9]), ([6, 10, 4], [6, 10]), ([4, 11], [4, 11]), ([12, 11, 0, 1, 2, 3, 4, 5, 6, 7, 8, 9, 10, 11, 12], [12])])
def strongroomref13_Follows.B15 : List Nat := [0, 1, 0, 4, 15, 0, 32, 0, 128, 0, 896, 2047, 4095, 8191]
theorem strongroomref13_Follows.tab15 : rtab .any (opsOf Try.f50 15) = strongroomref13_Follows.T15 := by kernel_rfl
theorem strongroomref13_Follows.bits15 : waitsOk strongroomref13_Follows.T15.2 strongroomref13_Follows.B15 = true := by kernel_rfl
set_option maxHeartbeats 8000000 in
set_option maxRecDepth 100000 in
theorem strongroomref13_Follows.calls (k : Nat) (a0_0 : ByteArray) (a0_1 : Int) (A0_2 : Option Addr) (c0_2 : Nat) (l0_2 : List (S64)) (a1_0 : ByteArray) (a1_1 : Int) (A1_2 : Option Addr) (c1_2 : Nat) (l1_2 : List (S64)) (r : Bool) (w : World) (hr0_2 : Kd.C k64 w A0_2 l0_2.length l0_2) (hc0_2 : l0_2.length ≤ c0_2) (hr1_2 : Kd.C k64 w A1_2 l1_2.length l1_2) (hc1_2 : l1_2.length ≤ c1_2) (h : strongroomref13_Follows.f k a0_0 a0_1 l0_2 a1_0 a1_1 l1_2 = some r) :
  Calls Try.prog 50 #[.agg #[.string a0_0, .int .i64 a0_1, .slice A0_2 l0_2.length c0_2], .agg #[.string a1_0, .int .i64 a1_1, .slice A1_2 l1_2.length c1_2]] w fun e w' => e = .returned (.bool r) ∧ Below w.heap.size w w' := by
 have hu54 := Try.underlying54
 have hu64 := Try.underlying64
 have HR0_2 := Aside0.mk hr0_2
 have HC0_2 := Aside0.mk hc0_2
 clear hr0_2 hc0_2
 have HR1_2 := Aside0.mk hr1_2
 have HC1_2 := Aside0.mk hc1_2
 clear hr1_2 hc1_2
 have HB := Aside0.mk (Below.refl w.heap.size w)
 have H : ((strongroomref13_May.f k a0_0 a0_1 l0_2).bind fun t501 => (if t501 = true then ((strongroomref13_May.f k a1_0 a1_1 l1_2).bind fun t502 => (if t502 = true then (strongroomref13_Follows.j0 k (decide (a0_1 > a1_1)) a0_0 a0_1 l0_2 a1_0 a1_1 l1_2) else (strongroomref13_Follows.j0 k true a0_0 a0_1 l0_2 a1_0 a1_1 l1_2))) else (strongroomref13_Follows.j0 k true a0_0 a0_1 l0_2 a1_0 a1_1 l1_2))) = some r := h
 clear h
 have HC3 := Aside0.mk H
 clear H
 go_enter Try.func50, Try.ntmps50
 go_upto_region 1 with (first | ((with_reducible refine gate_dst (N := 2) rfl ?_); refine box_event ?hg (N := 2) ?hd (cs := #[.string a0_0, .int .i64 a0_1, .slice A0_2 l0_2.length c0_2]) (t := 54) ?hr ?_; (case hd => rfl); (case hg => rfl); (case hr => first | (go_simp; done) | (go_simp; rfl)); intro gb499 hg w4 hbox hb; have n0_ := Aside0.mk (below_step (by repeat (first | (with_reducible first | exact HB.out | apply below_alloc | apply pw_below_drewN | apply below_drew1) | exact HB.out)) hb); have n1_ := Aside0.mk (hbox); have n2_ := Aside0.mk ((by rw [hg]; exact (below_size (by repeat (first | (with_reducible first | exact HB.out | apply below_alloc | apply pw_below_drewN | apply below_drew1) | exact HB.out))) : w.heap.size ≤ gb499)); have n3_ := Aside0.mk ((by rw [hg]; exact (below_size (by repeat (first | (with_reducible first | exact HB.out | apply below_alloc | apply pw_below_drewN | apply below_drew1) | exact HB.out))) : w.heap.size ≤ gb499)); clear HB; have HB := n0_; have BK499 := n1_; have GW499 := n2_; have GE499 := n3_; clear n0_ n1_ n2_ n3_; clear hb hbox hg) | ((with_reducible refine gate_dst (N := 3) rfl ?_); refine box_event ?hg (N := 3) ?hd (cs := #[.string a1_0, .int .i64 a1_1, .slice A1_2 l1_2.length c1_2]) (t := 54) ?hr ?_; (case hd => rfl); (case hg => rfl); (case hr => first | (go_simp; done) | (go_simp; rfl)); intro gb500 hg w5 hbox hb; have n0_ := Aside0.mk (blk_below (g := gb499) (o := .cells #[.string a0_0, .int .i64 a0_1, .slice A0_2 l0_2.length c0_2] 54 (0, 0)) (by (with_reducible repeat (first | refine blk_drewN ?_ _ | refine blk_drew ?_ | refine blk_alloc ?_ _)); exact BK499.out) hb); have n1_ := Aside0.mk (below_step (by repeat (first | (with_reducible first | exact HB.out | apply below_alloc | apply pw_below_drewN | apply below_drew1 | refine below_set ?_ GE499.out) | exact HB.out)) hb); have n2_ := Aside0.mk (hbox); have n3_ := Aside0.mk ((by rw [hg]; exact (below_size (by repeat (first | (with_reducible first | exact HB.out | apply below_alloc | apply pw_below_drewN | apply below_drew1 | refine below_set ?_ GE499.out) | exact HB.out))) : w.heap.size ≤ gb500)); have n4_ := Aside0.mk ((by rw [hg]; exact (below_size (by repeat (first | (with_reducible first | exact HB.out | apply below_alloc | apply pw_below_drewN | apply below_drew1 | refine below_set ?_ GE499.out) | exact HB.out))) : w.heap.size ≤ gb500)); have n5_ := Aside0.mk ((by rw [hg]; exact Nat.ne_of_lt (blk_lt (g := gb499) (o := .cells #[.string a0_0, .int .i64 a0_1, .slice A0_2 l0_2.length c0_2] 54 (0, 0)) (by (with_reducible repeat (first | refine blk_drewN ?_ _ | refine blk_drew ?_ | refine blk_alloc ?_ _)); exact BK499.out)) : gb499 ≠ gb500)); have n6_ := Aside0.mk ((by rw [hg]; exact Nat.ne_of_gt (blk_lt (g := gb499) (o := .cells #[.string a0_0, .int .i64 a0_1, .slice A0_2 l0_2.length c0_2] 54 (0, 0)) (by (with_reducible repeat (first | refine blk_drewN ?_ _ | refine blk_drew ?_ | refine blk_alloc ?_ _)); exact BK499.out)) : gb500 ≠ gb499)); clear BK499; clear HB; have BK499 := n0_; have HB := n1_; have BK500 := n2_; have GW500 := n3_; have GE500 := n4_; have NB499_500 := n5_; have NB500_499 := n6_; clear n0_ n1_ n2_ n3_ n4_ n5_ n6_; clear hb hbox hg))
 (try simp only [Act.put, List.setIfInBounds_toArray, List.set_cons_zero, List.set_cons_succ])
 go_cut [22] (fun v22 wc => ∃ (kq : Nat) (x22_2 : Bool), v22 = .bool x22_2 ∧ Aside0 (strongroomref13_Follows.j0 kq x22_2 a0_0 a0_1 l0_2 a1_0 a1_1 l1_2 = some r) ∧ Aside0 (kq ≤ k) ∧ Aside0 (wc.heap[gb499]? = some (.cells #[.string a0_0, .int .i64 a0_1, (.slice A0_2 l0_2.length c0_2)] 54 (0, 0))) ∧ Aside0 (wc.heap[gb500]? = some (.cells #[.string a1_0, .int .i64 a1_1, (.slice A1_2 l1_2.length c1_2)] 54 (0, 0))) ∧ Aside0 (Below w.heap.size w wc))
 case first =>
  have H := HC3.out
  clear HC3
  replace H := Option.bind_eq_some_iff.mp H
  obtain ⟨t501, A60, H⟩ := H
  replace H : (if t501 = true then ((strongroomref13_May.f k a1_0 a1_1 l1_2).bind fun t502 => (if t502 = true then (strongroomref13_Follows.j0 k (decide (a0_1 > a1_1)) a0_0 a0_1 l0_2 a1_0 a1_1 l1_2) else (strongroomref13_Follows.j0 k true a0_0 a0_1 l0_2 a1_0 a1_1 l1_2))) else (strongroomref13_Follows.j0 k true a0_0 a0_1 l0_2 a1_0 a1_1 l1_2)) = some r := H
  have A6 := Aside0.mk A60
  clear A60
  by_cases c7 : t501 = true
  ·subst c7
   have H1 : ((strongroomref13_May.f k a1_0 a1_1 l1_2).bind fun t502 => (if t502 = true then (strongroomref13_Follows.j0 k (decide (a0_1 > a1_1)) a0_0 a0_1 l0_2 a1_0 a1_1 l1_2) else (strongroomref13_Follows.j0 k true a0_0 a0_1 l0_2 a1_0 a1_1 l1_2))) = some r := by rw [if_pos rfl] at H; exact H
   clear H
   have H := H1
   clear H1
   replace H := Option.bind_eq_some_iff.mp H
   obtain ⟨t502, A80, H⟩ := H
   replace H : (if t502 = true then (strongroomref13_Follows.j0 k (decide (a0_1 > a1_1)) a0_0 a0_1 l0_2 a1_0 a1_1 l1_2) else (strongroomref13_Follows.j0 k true a0_0 a0_1 l0_2 a1_0 a1_1 l1_2)) = some r := H
   have A8 := Aside0.mk A80
   clear A80
   by_cases c9 : t502 = true
   ·subst c9
    have H1 : (strongroomref13_Follows.j0 k (decide (a0_1 > a1_1)) a0_0 a0_1 l0_2 a1_0 a1_1 l1_2) = some r := by rw [if_pos rfl] at H; exact H
    clear H
    have H := H1
    clear H1
    have H' := Aside0.mk H
    clear H
    have hnb10 := NB499_500.out
    have hnc10 := NB500_499.out
    have hcz11_0 : w5.cell? ⟨gb499, 0, none⟩ = some (.string a0_0) := (blk_cell BK499.out 0).trans rfl
    have hcz11_1 : w5.cell? ⟨gb499, 1, none⟩ = some (.int .i64 a0_1) := (blk_cell BK499.out 1).trans rfl
    have hcz11_2 : w5.cell? ⟨gb499, 2, none⟩ = some (.slice A0_2 l0_2.length c0_2) := (blk_cell BK499.out 2).trans rfl
    have hfz11_0 := blk_frozen BK499.out 0
    have hfz11_1 := blk_frozen BK499.out 1
    have hfz11_2 := blk_frozen BK499.out 2
    go_wp2_with (first | ((with_reducible refine gate_callee (f := 41) rfl ?_); refine goesL_ (some 9) rfl rfl Try.func41 (by kernel_rfl) rfl #[.agg #[.string a0_0, .int .i64 a0_1, .slice A0_2 l0_2.length c0_2]] rfl (by (try simp only [List.map_toArray, List.map_cons, List.map_nil]); first | done | rfl | (simp only [List.length_drop, List.length_take]; rfl)) ?_; (with_reducible refine (strongroomref13_May.calls k a0_0 a0_1 _ _ l0_2 true _ ?side1 ?side2 A6.out).mono ?_); (case side1 => repeat (first | exact (Kd.C_below HR0_2.out HB.out) | (with_reducible refine Kd.C_alloc ?_ _) | (with_reducible refine Kd.C_drewN ?_ _) | (with_reducible refine Kd.C_drew ?_))); (case side2 => exact HC0_2.out); rintro e w12 ⟨rfl, hb⟩; refine ⟨_, rfl, ?_⟩; have n0_ := Aside0.mk (blk_below (g := gb499) (o := .cells #[.string a0_0, .int .i64 a0_1, .slice A0_2 l0_2.length c0_2] 54 (0, 0)) (by (with_reducible repeat (first | refine blk_drewN ?_ _ | refine blk_drew ?_ | refine blk_alloc ?_ _)); exact BK499.out) hb); have n1_ := Aside0.mk (blk_below (g := gb500) (o := .cells #[.string a1_0, .int .i64 a1_1, .slice A1_2 l1_2.length c1_2] 54 (0, 0)) (by (with_reducible repeat (first | refine blk_drewN ?_ _ | refine blk_drew ?_ | refine blk_alloc ?_ _)); exact BK500.out) hb); have n2_ := Aside0.mk (below_step (by repeat (first | (with_reducible first | exact HB.out | apply below_alloc | apply pw_below_drewN | apply below_drew1 | refine below_set ?_ GE499.out | refine below_set ?_ GE500.out) | exact HB.out)) hb); clear BK499; clear BK500; clear HB; have BK499 := n0_; have BK500 := n1_; have HB := n2_; clear n0_ n1_ n2_; (try clear hb); (try clear hb2); (try clear hk); (try clear hi); have hcz13_0 : w12.cell? ⟨gb500, 0, none⟩ = some (.string a1_0) := (blk_cell BK500.out 0).trans rfl; have hcz13_1 : w12.cell? ⟨gb500, 1, none⟩ = some (.int .i64 a1_1) := (blk_cell BK500.out 1).trans rfl; have hcz13_2 : w12.cell? ⟨gb500, 2, none⟩ = some (.slice A1_2 l1_2.length c1_2) := (blk_cell BK500.out 2).trans rfl; have hfz13_0 := blk_frozen BK500.out 0; have hfz13_1 := blk_frozen BK500.out 1; have hfz13_2 := blk_frozen BK500.out 2) | (go_at_call 41; (with_reducible refine (strongroomref13_May.calls k a1_0 a1_1 _ _ l1_2 true _ ?side1 ?side2 A8.out).mono ?_); (case side1 => repeat (first | exact (Kd.C_below HR1_2.out HB.out) | (with_reducible refine Kd.C_alloc ?_ _) | (with_reducible refine Kd.C_drewN ?_ _) | (with_reducible refine Kd.C_drew ?_))); (case side2 => exact HC1_2.out); rintro e w14 ⟨rfl, hb⟩; have n0_ := Aside0.mk (blk_below (g := gb499) (o := .cells #[.string a0_0, .int .i64 a0_1, .slice A0_2 l0_2.length c0_2] 54 (0, 0)) (by (with_reducible repeat (first | refine blk_drewN ?_ _ | refine blk_drew ?_ | refine blk_alloc ?_ _)); exact BK499.out) hb); have n1_ := Aside0.mk (blk_below (g := gb500) (o := .cells #[.string a1_0, .int .i64 a1_1, .slice A1_2 l1_2.length c1_2] 54 (0, 0)) (by (with_reducible repeat (first | refine blk_drewN ?_ _ | refine blk_drew ?_ | refine blk_alloc ?_ _)); exact BK500.out) hb); have n2_ := Aside0.mk (below_step (by repeat (first | (with_reducible first | exact HB.out | apply below_alloc | apply pw_below_drewN | apply below_drew1 | refine below_set ?_ GE499.out | refine below_set ?_ GE500.out) | exact HB.out)) hb); clear BK499; clear BK500; clear HB; have BK499 := n0_; have BK500 := n1_; have HB := n2_; clear n0_ n1_ n2_; (try clear hb); (try clear hb2); (try clear hk); (try clear hi); have hcz15_0 : w14.cell? ⟨gb499, 0, none⟩ = some (.string a0_0) := (blk_cell BK499.out 0).trans rfl; have hcz15_1 : w14.cell? ⟨gb499, 1, none⟩ = some (.int .i64 a0_1) := (blk_cell BK499.out 1).trans rfl; have hcz15_2 : w14.cell? ⟨gb499, 2, none⟩ = some (.slice A0_2 l0_2.length c0_2) := (blk_cell BK499.out 2).trans rfl; have hfz15_0 := blk_frozen BK499.out 0; have hfz15_1 := blk_frozen BK499.out 1; have hfz15_2 := blk_frozen BK499.out 2; have hcz16_0 : w14.cell? ⟨gb500, 0, none⟩ = some (.string a1_0) := (blk_cell BK500.out 0).trans rfl; have hcz16_1 : w14.cell? ⟨gb500, 1, none⟩ = some (.int .i64 a1_1) := (blk_cell BK500.out 1).trans rfl; have hcz16_2 : w14.cell? ⟨gb500, 2, none⟩ = some (.slice A1_2 l1_2.length c1_2) := (blk_cell BK500.out 2).trans rfl; have hfz16_0 := blk_frozen BK500.out 0; have hfz16_1 := blk_frozen BK500.out 1; have hfz16_2 := blk_frozen BK500.out 2))
    go_meet
    case rel => exact ⟨_, (decide (a0_1 > a1_1)), (by first | rfl | (simp; done) | (simp [*]; done)), H', ⟨by first | omega | exact Nat.le_refl _⟩, ⟨by (with_reducible repeat (first | refine blk_drewN ?_ _ | refine blk_drew ?_ | refine blk_alloc ?_ _)); exact BK499.out⟩, ⟨by (with_reducible repeat (first | refine blk_drewN ?_ _ | refine blk_drew ?_ | refine blk_alloc ?_ _)); exact BK500.out⟩, ⟨by repeat (first | (with_reducible first | exact HB.out | apply below_alloc | apply pw_below_drewN | apply below_drew1 | refine below_set ?_ GE499.out | refine below_set ?_ GE500.out) | exact HB.out)⟩⟩
   ·replace c9 := Bool.eq_false_iff.mpr c9
    subst c9
    have H1 : (strongroomref13_Follows.j0 k true a0_0 a0_1 l0_2 a1_0 a1_1 l1_2) = some r := by rw [if_neg (show ¬ (false = true) by decide)] at H; exact H
    clear H
    have H := H1
    clear H1
    have H' := Aside0.mk H
    clear H
    have hnb17 := NB499_500.out
    have hnc17 := NB500_499.out
    have hcz18_0 : w5.cell? ⟨gb499, 0, none⟩ = some (.string a0_0) := (blk_cell BK499.out 0).trans rfl
    have hcz18_1 : w5.cell? ⟨gb499, 1, none⟩ = some (.int .i64 a0_1) := (blk_cell BK499.out 1).trans rfl
    have hcz18_2 : w5.cell? ⟨gb499, 2, none⟩ = some (.slice A0_2 l0_2.length c0_2) := (blk_cell BK499.out 2).trans rfl
    have hfz18_0 := blk_frozen BK499.out 0
    have hfz18_1 := blk_frozen BK499.out 1
    have hfz18_2 := blk_frozen BK499.out 2
    go_wp2_with (first | ((with_reducible refine gate_callee (f := 41) rfl ?_); refine goesL_ (some 9) rfl rfl Try.func41 (by kernel_rfl) rfl #[.agg #[.string a0_0, .int .i64 a0_1, .slice A0_2 l0_2.length c0_2]] rfl (by (try simp only [List.map_toArray, List.map_cons, List.map_nil]); first | done | rfl | (simp only [List.length_drop, List.length_take]; rfl)) ?_; (with_reducible refine (strongroomref13_May.calls k a0_0 a0_1 _ _ l0_2 true _ ?side1 ?side2 A6.out).mono ?_); (case side1 => repeat (first | exact (Kd.C_below HR0_2.out HB.out) | (with_reducible refine Kd.C_alloc ?_ _) | (with_reducible refine Kd.C_drewN ?_ _) | (with_reducible refine Kd.C_drew ?_))); (case side2 => exact HC0_2.out); rintro e w19 ⟨rfl, hb⟩; refine ⟨_, rfl, ?_⟩; have n0_ := Aside0.mk (blk_below (g := gb499) (o := .cells #[.string a0_0, .int .i64 a0_1, .slice A0_2 l0_2.length c0_2] 54 (0, 0)) (by (with_reducible repeat (first | refine blk_drewN ?_ _ | refine blk_drew ?_ | refine blk_alloc ?_ _)); exact BK499.out) hb); have n1_ := Aside0.mk (blk_below (g := gb500) (o := .cells #[.string a1_0, .int .i64 a1_1, .slice A1_2 l1_2.length c1_2] 54 (0, 0)) (by (with_reducible repeat (first | refine blk_drewN ?_ _ | refine blk_drew ?_ | refine blk_alloc ?_ _)); exact BK500.out) hb); have n2_ := Aside0.mk (below_step (by repeat (first | (with_reducible first | exact HB.out | apply below_alloc | apply pw_below_drewN | apply below_drew1 | refine below_set ?_ GE499.out | refine below_set ?_ GE500.out) | exact HB.out)) hb); clear BK499; clear BK500; clear HB; have BK499 := n0_; have BK500 := n1_; have HB := n2_; clear n0_ n1_ n2_; (try clear hb); (try clear hb2); (try clear hk); (try clear hi); have hcz20_0 : w19.cell? ⟨gb500, 0, none⟩ = some (.string a1_0) := (blk_cell BK500.out 0).trans rfl; have hcz20_1 : w19.cell? ⟨gb500, 1, none⟩ = some (.int .i64 a1_1) := (blk_cell BK500.out 1).trans rfl; have hcz20_2 : w19.cell? ⟨gb500, 2, none⟩ = some (.slice A1_2 l1_2.length c1_2) := (blk_cell BK500.out 2).trans rfl; have hfz20_0 := blk_frozen BK500.out 0; have hfz20_1 := blk_frozen BK500.out 1; have hfz20_2 := blk_frozen BK500.out 2) | (go_at_call 41; (with_reducible refine (strongroomref13_May.calls k a1_0 a1_1 _ _ l1_2 false _ ?side1 ?side2 A8.out).mono ?_); (case side1 => repeat (first | exact (Kd.C_below HR1_2.out HB.out) | (with_reducible refine Kd.C_alloc ?_ _) | (with_reducible refine Kd.C_drewN ?_ _) | (with_reducible refine Kd.C_drew ?_))); (case side2 => exact HC1_2.out); rintro e w21 ⟨rfl, hb⟩; have n0_ := Aside0.mk (blk_below (g := gb499) (o := .cells #[.string a0_0, .int .i64 a0_1, .slice A0_2 l0_2.length c0_2] 54 (0, 0)) (by (with_reducible repeat (first | refine blk_drewN ?_ _ | refine blk_drew ?_ | refine blk_alloc ?_ _)); exact BK499.out) hb); have n1_ := Aside0.mk (blk_below (g := gb500) (o := .cells #[.string a1_0, .int .i64 a1_1, .slice A1_2 l1_2.length c1_2] 54 (0, 0)) (by (with_reducible repeat (first | refine blk_drewN ?_ _ | refine blk_drew ?_ | refine blk_alloc ?_ _)); exact BK500.out) hb); have n2_ := Aside0.mk (below_step (by repeat (first | (with_reducible first | exact HB.out | apply below_alloc | apply pw_below_drewN | apply below_drew1 | refine below_set ?_ GE499.out | refine below_set ?_ GE500.out) | exact HB.out)) hb); clear BK499; clear BK500; clear HB; have BK499 := n0_; have BK500 := n1_; have HB := n2_; clear n0_ n1_ n2_; (try clear hb); (try clear hb2); (try clear hk); (try clear hi)))
    go_meet
    case rel => exact ⟨_, (true), (by first | rfl | (simp; done) | (simp [*]; done)), H', ⟨by first | omega | exact Nat.le_refl _⟩, ⟨by (with_reducible repeat (first | refine blk_drewN ?_ _ | refine blk_drew ?_ | refine blk_alloc ?_ _)); exact BK499.out⟩, ⟨by (with_reducible repeat (first | refine blk_drewN ?_ _ | refine blk_drew ?_ | refine blk_alloc ?_ _)); exact BK500.out⟩, ⟨by repeat (first | (with_reducible first | exact HB.out | apply below_alloc | apply pw_below_drewN | apply below_drew1 | refine below_set ?_ GE499.out | refine below_set ?_ GE500.out) | exact HB.out)⟩⟩
  ·replace c7 := Bool.eq_false_iff.mpr c7
   subst c7
   have H1 : (strongroomref13_Follows.j0 k true a0_0 a0_1 l0_2 a1_0 a1_1 l1_2) = some r := by rw [if_neg (show ¬ (false = true) by decide)] at H; exact H
   clear H
   have H := H1
   clear H1
   have H' := Aside0.mk H
   clear H
   have hnb22 := NB499_500.out
   have hnc22 := NB500_499.out
   have hcz23_0 : w5.cell? ⟨gb499, 0, none⟩ = some (.string a0_0) := (blk_cell BK499.out 0).trans rfl
   have hcz23_1 : w5.cell? ⟨gb499, 1, none⟩ = some (.int .i64 a0_1) := (blk_cell BK499.out 1).trans rfl
   have hcz23_2 : w5.cell? ⟨gb499, 2, none⟩ = some (.slice A0_2 l0_2.length c0_2) := (blk_cell BK499.out 2).trans rfl
   have hfz23_0 := blk_frozen BK499.out 0
   have hfz23_1 := blk_frozen BK499.out 1
   have hfz23_2 := blk_frozen BK499.out 2
   go_wp2_with (first | ((with_reducible refine gate_callee (f := 41) rfl ?_); refine goesL_ (some 9) rfl rfl Try.func41 (by kernel_rfl) rfl #[.agg #[.string a0_0, .int .i64 a0_1, .slice A0_2 l0_2.length c0_2]] rfl (by (try simp only [List.map_toArray, List.map_cons, List.map_nil]); first | done | rfl | (simp only [List.length_drop, List.length_take]; rfl)) ?_; (with_reducible refine (strongroomref13_May.calls k a0_0 a0_1 _ _ l0_2 false _ ?side1 ?side2 A6.out).mono ?_); (case side1 => repeat (first | exact (Kd.C_below HR0_2.out HB.out) | (with_reducible refine Kd.C_alloc ?_ _) | (with_reducible refine Kd.C_drewN ?_ _) | (with_reducible refine Kd.C_drew ?_))); (case side2 => exact HC0_2.out); rintro e w24 ⟨rfl, hb⟩; refine ⟨_, rfl, ?_⟩; have n0_ := Aside0.mk (blk_below (g := gb499) (o := .cells #[.string a0_0, .int .i64 a0_1, .slice A0_2 l0_2.length c0_2] 54 (0, 0)) (by (with_reducible repeat (first | refine blk_drewN ?_ _ | refine blk_drew ?_ | refine blk_alloc ?_ _)); exact BK499.out) hb); have n1_ := Aside0.mk (blk_below (g := gb500) (o := .cells #[.string a1_0, .int .i64 a1_1, .slice A1_2 l1_2.length c1_2] 54 (0, 0)) (by (with_reducible repeat (first | refine blk_drewN ?_ _ | refine blk_drew ?_ | refine blk_alloc ?_ _)); exact BK500.out) hb); have n2_ := Aside0.mk (below_step (by repeat (first | (with_reducible first | exact HB.out | apply below_alloc | apply pw_below_drewN | apply below_drew1 | refine below_set ?_ GE499.out | refine below_set ?_ GE500.out) | exact HB.out)) hb); clear BK499; clear BK500; clear HB; have BK499 := n0_; have BK500 := n1_; have HB := n2_; clear n0_ n1_ n2_; (try clear hb); (try clear hb2); (try clear hk); (try clear hi)))
   go_meet
   case rel => exact ⟨_, (true), (by first | rfl | (simp; done) | (simp [*]; done)), H', ⟨by first | omega | exact Nat.le_refl _⟩, ⟨by (with_reducible repeat (first | refine blk_drewN ?_ _ | refine blk_drew ?_ | refine blk_alloc ?_ _)); exact BK499.out⟩, ⟨by (with_reducible repeat (first | refine blk_drewN ?_ _ | refine blk_drew ?_ | refine blk_alloc ?_ _)); exact BK500.out⟩, ⟨by repeat (first | (with_reducible first | exact HB.out | apply below_alloc | apply pw_below_drewN | apply below_drew1 | refine below_set ?_ GE499.out | refine below_set ?_ GE500.out) | exact HB.out)⟩⟩
 case rest =>
  clear HC3
  try clear c1
  try clear c2
  try clear p2
  try clear c4
  try clear c5
  try clear c7
  try clear c9
  try clear c10
  try clear c17
  try clear c22
  try clear hcz11_0
  try clear hcz11_1
  try clear hcz11_2
  try clear hcz13_0
  try clear hcz13_1
  try clear hcz13_2
  try clear hcz15_0
  try clear hcz15_1
  try clear hcz15_2
  try clear hcz16_0
  try clear hcz16_1
  try clear hcz16_2
  try clear hcz18_0
  try clear hcz18_1
  try clear hcz18_2
  try clear hcz20_0
  try clear hcz20_1
  try clear hcz20_2
  try clear hcz23_0
  try clear hcz23_1
  try clear hcz23_2
  try clear hfz11_0
  try clear hfz11_1
  try clear hfz11_2
  try clear hfz13_0
  try clear hfz13_1
  try clear hfz13_2
  try clear hfz15_0
  try clear hfz15_1
  try clear hfz15_2
  try clear hfz16_0
  try clear hfz16_1
  try clear hfz16_2
  try clear hfz18_0
  try clear hfz18_1
  try clear hfz18_2
  try clear hfz20_0
  try clear hfz20_1
  try clear hfz20_2
  try clear hfz23_0
  try clear hfz23_1
  try clear hfz23_2
  obtain ⟨kq, x22_2, rfl, HA, HJ2, BK499, BK500, HB⟩ := hcut
  cases kq with
  | zero => exact absurd HA.out (by simp [strongroomref13_Follows.j0])
  | succ kj2 =>
   have H := HA.out
   clear HA
   simp only [strongroomref13_Follows.j0] at H
   by_cases c25 : x22_2 = true
   ·subst c25
    have H1 : (some false) = some r := by rw [if_pos rfl] at H; exact H
    clear H
    have H := H1
    clear H1
    obtain rfl := Option.some.inj H
    go_wp2
    go_ret
    exact ⟨by first | rfl | (simp [errW_none, errW_some] <;> rfl) | (simp [*, errW_none, errW_some] <;> rfl), by repeat (first | (with_reducible first | exact HB.out | apply below_alloc | apply pw_below_drewN | apply below_drew1 | refine below_set ?_ GE499.out | refine below_set ?_ GE500.out) | exact HB.out)⟩
   ·replace c25 := Bool.eq_false_iff.mpr c25
    subst c25
    have H1 : (strongroomref13_Follows.l0 kj2 0 a0_0 a0_1 l0_2 a1_0 a1_1 l1_2) = some r := by rw [if_neg (show ¬ (false = true) by decide)] at H; exact H
    clear H
    have H := H1
    clear H1
    have H' := Aside0.mk H
    clear H
    go_wp2
    go_loopg [5] kj2 (fun kq v5 w' => ∃ (x5_2 : Int), v5 = .int .i64 x5_2 ∧ Aside0 (strongroomref13_Follows.l0 kq x5_2 a0_0 a0_1 l0_2 a1_0 a1_1 l1_2 = some r) ∧ Aside0 (kq ≤ kj2) ∧ Aside0 (w'.heap[gb499]? = some (.cells #[.string a0_0, .int .i64 a0_1, (.slice A0_2 l0_2.length c0_2)] 54 (0, 0))) ∧ Aside0 (w'.heap[gb500]? = some (.cells #[.string a1_0, .int .i64 a1_1, (.slice A1_2 l1_2.length c1_2)] 54 (0, 0))) ∧ Aside0 (Below w.heap.size w w'))
    case atStart => exact ⟨(0), (by first | rfl | (simp; done) | (simp [*]; done)), H', ⟨Nat.le_refl _⟩, ⟨by (with_reducible repeat (first | refine blk_drewN ?_ _ | refine blk_drew ?_ | refine blk_alloc ?_ _)); exact BK499.out⟩, ⟨by (with_reducible repeat (first | refine blk_drewN ?_ _ | refine blk_drew ?_ | refine blk_alloc ?_ _)); exact BK500.out⟩, ⟨by repeat (first | (with_reducible first | exact HB.out | apply below_alloc | apply pw_below_drewN | apply below_drew1 | refine below_set ?_ GE499.out | refine below_set ?_ GE500.out) | exact HB.out)⟩⟩
    case round =>
     clear H'
     try clear c1
     try clear c2
     try clear p2
     try clear c4
     try clear c5
     try clear c7
     try clear c9
     try clear c10
     try clear c17
     try clear c22
     try clear c25
     try clear hcz11_0
     try clear hcz11_1
     try clear hcz11_2
     try clear hcz13_0
     try clear hcz13_1
     try clear hcz13_2
     try clear hcz15_0
     try clear hcz15_1
     try clear hcz15_2
     try clear hcz16_0
     try clear hcz16_1
     try clear hcz16_2
     try clear hcz18_0
     try clear hcz18_1
     try clear hcz18_2
     try clear hcz20_0
     try clear hcz20_1
     try clear hcz20_2
     try clear hcz23_0
     try clear hcz23_1
     try clear hcz23_2
     try clear hfz11_0
     try clear hfz11_1
     try clear hfz11_2
     try clear hfz13_0
     try clear hfz13_1
     try clear hfz13_2
     try clear hfz15_0
     try clear hfz15_1
     try clear hfz15_2
     try clear hfz16_0
     try clear hfz16_1
     try clear hfz16_2
     try clear hfz18_0
     try clear hfz18_1
     try clear hfz18_2
     try clear hfz20_0
     try clear hfz20_1
     try clear hfz20_2
     try clear hfz23_0
     try clear hfz23_1
     try clear hfz23_2
     try clear p2
     obtain ⟨x5_2, rfl, HA, HK2, BK499, BK500, HB⟩ := hrel
     cases gk with
     | zero => exact absurd HA.out (by simp [strongroomref13_Follows.l0])
     | succ k2 =>
      have H := HA.out
      clear HA
      simp only [strongroomref13_Follows.l0] at H
      by_cases c26 : x5_2 < (l0_2.length : Int)
      ·rw [if_pos c26] at H
       have c26b0 : decide (x5_2 < (l0_2.length : Int)) = true := decide_eq_true c26
       clear c26
       have H' := Aside0.mk H
       clear H
       have hnb27 := NB499_500.out
       have hnc27 := NB500_499.out
       have hcz28_0 : wr.cell? ⟨gb499, 0, none⟩ = some (.string a0_0) := (blk_cell BK499.out 0).trans rfl
       have hcz28_1 : wr.cell? ⟨gb499, 1, none⟩ = some (.int .i64 a0_1) := (blk_cell BK499.out 1).trans rfl
       have hcz28_2 : wr.cell? ⟨gb499, 2, none⟩ = some (.slice A0_2 l0_2.length c0_2) := (blk_cell BK499.out 2).trans rfl
       have hfz28_0 := blk_frozen BK499.out 0
       have hfz28_1 := blk_frozen BK499.out 1
       have hfz28_2 := blk_frozen BK499.out 2
       go_wp2
       go_loopg [6] k2 (fun kq v6 w' => ∃ (x6_3 : Int), v6 = .int .i64 x6_3 ∧ Aside0 (strongroomref13_Follows.l1 kq x5_2 x6_3 a0_0 a0_1 l0_2 a1_0 a1_1 l1_2 = some r) ∧ Aside0 (kq ≤ k2) ∧ Aside0 (w'.heap[gb499]? = some (.cells #[.string a0_0, .int .i64 a0_1, (.slice A0_2 l0_2.length c0_2)] 54 (0, 0))) ∧ Aside0 (w'.heap[gb500]? = some (.cells #[.string a1_0, .int .i64 a1_1, (.slice A1_2 l1_2.length c1_2)] 54 (0, 0))) ∧ Aside0 (Below w.heap.size w w'))
       case atStart => exact ⟨(0), (by first | rfl | (simp; done) | (simp [*]; done)), H', ⟨Nat.le_refl _⟩, ⟨by (with_reducible repeat (first | refine blk_drewN ?_ _ | refine blk_drew ?_ | refine blk_alloc ?_ _)); exact BK499.out⟩, ⟨by (with_reducible repeat (first | refine blk_drewN ?_ _ | refine blk_drew ?_ | refine blk_alloc ?_ _)); exact BK500.out⟩, ⟨by repeat (first | (with_reducible first | exact HB.out | apply below_alloc | apply pw_below_drewN | apply below_drew1 | refine below_set ?_ GE499.out | refine below_set ?_ GE500.out) | exact HB.out)⟩⟩
       case round =>
        clear H'
        try clear c1
        try clear c2
        try clear p2
        try clear c4
        try clear c5
        try clear c7
        try clear c9
        try clear c10
        try clear c17
        try clear c22
        try clear c25
        try clear c26
        try clear c26b0
        try clear c27
        try clear hcz11_0
        try clear hcz11_1
        try clear hcz11_2
        try clear hcz13_0
        try clear hcz13_1
        try clear hcz13_2
        try clear hcz15_0
        try clear hcz15_1
        try clear hcz15_2
        try clear hcz16_0
        try clear hcz16_1
        try clear hcz16_2
        try clear hcz18_0
        try clear hcz18_1
        try clear hcz18_2
        try clear hcz20_0
        try clear hcz20_1
        try clear hcz20_2
        try clear hcz23_0
        try clear hcz23_1
        try clear hcz23_2
        try clear hcz28_0
        try clear hcz28_1
        try clear hcz28_2
        try clear hfz11_0
        try clear hfz11_1
        try clear hfz11_2
        try clear hfz13_0
        try clear hfz13_1
        try clear hfz13_2
        try clear hfz15_0
        try clear hfz15_1
        try clear hfz15_2
        try clear hfz16_0
        try clear hfz16_1
        try clear hfz16_2
        try clear hfz18_0
        try clear hfz18_1
        try clear hfz18_2
        try clear hfz20_0
        try clear hfz20_1
        try clear hfz20_2
        try clear hfz23_0
        try clear hfz23_1
        try clear hfz23_2
        try clear hfz28_0
        try clear hfz28_1
        try clear hfz28_2
        try clear p2
        obtain ⟨x6_3, rfl, HA, HK3, BK499, BK500, HB⟩ := hrel
        cases gk with
        | zero => exact absurd HA.out (by simp [strongroomref13_Follows.l1])
        | succ k3 =>
         have H := HA.out
         clear HA
         simp only [strongroomref13_Follows.l1] at H
         by_cases c29 : x6_3 < (l1_2.length : Int)
         ·rw [if_pos c29] at H
          have c29b0 : decide (x6_3 < (l1_2.length : Int)) = true := decide_eq_true c29
          clear c29
          by_cases c30 : 0 ≤ x5_2
          ·rw [if_pos c30] at H
           have c30b0 : decide (0 ≤ x5_2) = true := decide_eq_true c30
           clear c30
           by_cases c31 : x5_2 < (l0_2.length : Int)
           ·rw [if_pos c31] at H
            have c31b0 : decide (x5_2 < (l0_2.length : Int)) = true := decide_eq_true c31
            clear c31
            by_cases c32 : 0 ≤ x6_3
            ·rw [if_pos c32] at H
             have c32b0 : decide (0 ≤ x6_3) = true := decide_eq_true c32
             clear c32
             by_cases c33 : ((rd_T64 l0_2 x5_2).f0) = ((rd_T64 l1_2 x6_3).f0)
             ·rw [if_pos c33] at H
              have c33b0 : (((rd_T64 l0_2 x5_2).f0) == ((rd_T64 l1_2 x6_3).f0)) = true := beq_iff_eq.mpr c33
              have c33b1 : (((rd_T64 l0_2 x5_2).f0) != ((rd_T64 l1_2 x6_3).f0)) = false := bne_eq_false_iff_eq.mpr c33
              clear c33
              by_cases c34 : (!(((rd_T64 l0_2 x5_2).f0) == ((rd_T64 l1_2 x6_3).f0)) || (!(((rd_T64 l0_2 x5_2).f1) == ((rd_T64 l1_2 x6_3).f1)) || (!(((rd_T64 l0_2 x5_2).f2) == ((rd_T64 l1_2 x6_3).f2)) || (!((((rd_T64 l0_2 x5_2).f3).toList) == (((rd_T64 l1_2 x6_3).f3).toList)) || (!(((rd_T64 l0_2 x5_2).f4) == ((rd_T64 l1_2 x6_3).f4))))))) = true
              ·rw [if_pos c34] at H
               have c34b0 : (!(((rd_T64 l0_2 x5_2).f0) == ((rd_T64 l1_2 x6_3).f0)) || (!(((rd_T64 l0_2 x5_2).f1) == ((rd_T64 l1_2 x6_3).f1)) || (!(((rd_T64 l0_2 x5_2).f2) == ((rd_T64 l1_2 x6_3).f2)) || (!((((rd_T64 l0_2 x5_2).f3).toList) == (((rd_T64 l1_2 x6_3).f3).toList)) || (!(((rd_T64 l0_2 x5_2).f4) == ((rd_T64 l1_2 x6_3).f4))))))) = true := c34
               have c34b9 := c34b0
               try simp only [c33b0, Bool.not_true, Bool.false_or] at c34b9
               clear c34
               obtain rfl := Option.some.inj H
               have hnb35 := NB500_499.out
               have hnc35 := NB499_500.out
               have hcz36_0 : wr.cell? ⟨gb500, 0, none⟩ = some (.string a1_0) := (blk_cell BK500.out 0).trans rfl
               have hcz36_1 : wr.cell? ⟨gb500, 1, none⟩ = some (.int .i64 a1_1) := (blk_cell BK500.out 1).trans rfl
               have hcz36_2 : wr.cell? ⟨gb500, 2, none⟩ = some (.slice A1_2 l1_2.length c1_2) := (blk_cell BK500.out 2).trans rfl
               have hfz36_0 := blk_frozen BK500.out 0
               have hfz36_1 := blk_frozen BK500.out 1
               have hfz36_2 := blk_frozen BK500.out 2
               try go_wp2
               have n0_ := Aside0.mk (blk_drew BK499.out)
               have n1_ := Aside0.mk (blk_drew BK500.out)
               have n2_ := Aside0.mk (below_drew1 HB.out)
               clear BK499
               clear BK500
               clear HB
               have BK499 := n0_
               have BK500 := n1_
               have HB := n2_
               clear n0_ n1_ n2_
               have p503 : 0 ≤ (x5_2 : Int) := of_decide_eq_true (by first | (with_reducible assumption) | assumption)
               have q503 : x5_2 < (l0_2.length : Int) := of_decide_eq_true (by first | (with_reducible assumption) | assumption)
               obtain ⟨ad503, e503, hx503_0, hx503_1, hx503_2, hx503_3, hx503_4⟩ := at_T64 HR0_2.out x5_2 p503 q503
               have hw503_4 := hx503_4
               have hw503_3 := hx503_3
               have hw503_2 := hx503_2
               have hw503_1 := hx503_1
               have hw503_0 := hx503_0
               cases e503
               replace hx503_0 := (HB.out.cell (World.block_lt_of_cell? w _ hx503_0)).trans hx503_0
               replace hx503_1 := (HB.out.cell (World.block_lt_of_cell? w _ hx503_1)).trans hx503_1
               replace hx503_2 := (HB.out.cell (World.block_lt_of_cell? w _ hx503_2)).trans hx503_2
               replace hx503_3 := (HB.out.cell (World.block_lt_of_cell? w _ hx503_3)).trans hx503_3
               replace hx503_4 := (HB.out.cell (World.block_lt_of_cell? w _ hx503_4)).trans hx503_4
               replace p503 := eq_true p503
               replace q503 := eq_true q503
               have p504 : 0 ≤ (x6_3 : Int) := of_decide_eq_true (by first | (with_reducible assumption) | assumption)
               have q504 : x6_3 < (l1_2.length : Int) := of_decide_eq_true (by first | (with_reducible assumption) | assumption)
               obtain ⟨ad504, e504, hx504_0, hx504_1, hx504_2, hx504_3, hx504_4⟩ := at_T64 HR1_2.out x6_3 p504 q504
               have hw504_4 := hx504_4
               have hw504_3 := hx504_3
               have hw504_2 := hx504_2
               have hw504_1 := hx504_1
               have hw504_0 := hx504_0
               cases e504
               replace hx504_0 := (HB.out.cell (World.block_lt_of_cell? w _ hx504_0)).trans hx504_0
               replace hx504_1 := (HB.out.cell (World.block_lt_of_cell? w _ hx504_1)).trans hx504_1
               replace hx504_2 := (HB.out.cell (World.block_lt_of_cell? w _ hx504_2)).trans hx504_2
               replace hx504_3 := (HB.out.cell (World.block_lt_of_cell? w _ hx504_3)).trans hx504_3
               replace hx504_4 := (HB.out.cell (World.block_lt_of_cell? w _ hx504_4)).trans hx504_4
               replace p504 := eq_true p504
               replace q504 := eq_true q504
               have p505 : 0 ≤ (x5_2 : Int) := of_decide_eq_true (by first | (with_reducible assumption) | assumption)
               have q505 : x5_2 < (l0_2.length : Int) := of_decide_eq_true (by first | (with_reducible assumption) | assumption)
               obtain ⟨ad505, e505, hx505_0, hx505_1, hx505_2, hx505_3, hx505_4⟩ := at_T64 HR0_2.out x5_2 p505 q505
               have hw505_4 := hx505_4
               have hw505_3 := hx505_3
               have hw505_2 := hx505_2
               have hw505_1 := hx505_1
               have hw505_0 := hx505_0
               obtain rfl : ad503 = ad505 := (by injection e505)
               replace hx505_0 := (HB.out.cell (World.block_lt_of_cell? w _ hx505_0)).trans hx505_0
               replace hx505_1 := (HB.out.cell (World.block_lt_of_cell? w _ hx505_1)).trans hx505_1
               replace hx505_2 := (HB.out.cell (World.block_lt_of_cell? w _ hx505_2)).trans hx505_2
               replace hx505_3 := (HB.out.cell (World.block_lt_of_cell? w _ hx505_3)).trans hx505_3
               replace hx505_4 := (HB.out.cell (World.block_lt_of_cell? w _ hx505_4)).trans hx505_4
               replace p505 := eq_true p505
               replace q505 := eq_true q505
               have p506 : 0 ≤ (x6_3 : Int) := of_decide_eq_true (by first | (with_reducible assumption) | assumption)
               have q506 : x6_3 < (l1_2.length : Int) := of_decide_eq_true (by first | (with_reducible assumption) | assumption)
               obtain ⟨ad506, e506, hx506_0, hx506_1, hx506_2, hx506_3, hx506_4⟩ := at_T64 HR1_2.out x6_3 p506 q506
               have hw506_4 := hx506_4
               have hw506_3 := hx506_3
               have hw506_2 := hx506_2
               have hw506_1 := hx506_1
               have hw506_0 := hx506_0
               obtain rfl : ad504 = ad506 := (by injection e506)
               replace hx506_0 := (HB.out.cell (World.block_lt_of_cell? w _ hx506_0)).trans hx506_0
               replace hx506_1 := (HB.out.cell (World.block_lt_of_cell? w _ hx506_1)).trans hx506_1
               replace hx506_2 := (HB.out.cell (World.block_lt_of_cell? w _ hx506_2)).trans hx506_2
               replace hx506_3 := (HB.out.cell (World.block_lt_of_cell? w _ hx506_3)).trans hx506_3
               replace hx506_4 := (HB.out.cell (World.block_lt_of_cell? w _ hx506_4)).trans hx506_4
               replace p506 := eq_true p506
               replace q506 := eq_true q506
               refine start_ (n := 26) (S := fun w' => w'.cell? ⟨gb499, 0, none⟩ = some (.string a0_0) ∧ w'.cell? ⟨gb499, 1, none⟩ = some (.int .i64 a0_1) ∧ w'.cell? ⟨gb499, 2, none⟩ = some (.slice (some ad503) l0_2.length c0_2) ∧ w'.cell? ⟨gb500, 0, none⟩ = some (.string a1_0) ∧ w'.cell? ⟨gb500, 1, none⟩ = some (.int .i64 a1_1) ∧ w'.cell? ⟨gb500, 2, none⟩ = some (.slice (some ad504) l1_2.length c1_2) ∧ w'.cell? (ad503.add ((x5_2).toNat * 5)) = some (.int .i64 ((rd_T64 l0_2 x5_2).f0)) ∧ w'.cell? ⟨(ad503.add ((x5_2).toNat * 5)).block, (ad503.add ((x5_2).toNat * 5)).off + 1, none⟩ = some (.int .i64 ((rd_T64 l0_2 x5_2).f1)) ∧ w'.cell? ⟨(ad503.add ((x5_2).toNat * 5)).block, (ad503.add ((x5_2).toNat * 5)).off + 2, none⟩ = some (.int .i64 ((rd_T64 l0_2 x5_2).f2)) ∧ w'.cell? ⟨(ad503.add ((x5_2).toNat * 5)).block, (ad503.add ((x5_2).toNat * 5)).off + 3, none⟩ = some (.string ((rd_T64 l0_2 x5_2).f3)) ∧ w'.cell? ⟨(ad503.add ((x5_2).toNat * 5)).block, (ad503.add ((x5_2).toNat * 5)).off + 4, none⟩ = some (.int .i64 ((rd_T64 l0_2 x5_2).f4)) ∧ w'.cell? (ad504.add ((x6_3).toNat * 5)) = some (.int .i64 ((rd_T64 l1_2 x6_3).f0)) ∧ w'.cell? ⟨(ad504.add ((x6_3).toNat * 5)).block, (ad504.add ((x6_3).toNat * 5)).off + 1, none⟩ = some (.int .i64 ((rd_T64 l1_2 x6_3).f1)) ∧ w'.cell? ⟨(ad504.add ((x6_3).toNat * 5)).block, (ad504.add ((x6_3).toNat * 5)).off + 2, none⟩ = some (.int .i64 ((rd_T64 l1_2 x6_3).f2)) ∧ w'.cell? ⟨(ad504.add ((x6_3).toNat * 5)).block, (ad504.add ((x6_3).toNat * 5)).off + 3, none⟩ = some (.string ((rd_T64 l1_2 x6_3).f3)) ∧ w'.cell? ⟨(ad504.add ((x6_3).toNat * 5)).block, (ad504.add ((x6_3).toNat * 5)).off + 4, none⟩ = some (.int .i64 ((rd_T64 l1_2 x6_3).f4)) ∧ w'.cell? (ad503.add ((x5_2).toNat * 5)) = some (.int .i64 ((rd_T64 l0_2 x5_2).f0)) ∧ w'.cell? ⟨(ad503.add ((x5_2).toNat * 5)).block, (ad503.add ((x5_2).toNat * 5)).off + 1, none⟩ = some (.int .i64 ((rd_T64 l0_2 x5_2).f1)) ∧ w'.cell? ⟨(ad503.add ((x5_2).toNat * 5)).block, (ad503.add ((x5_2).toNat * 5)).off + 2, none⟩ = some (.int .i64 ((rd_T64 l0_2 x5_2).f2)) ∧ w'.cell? ⟨(ad503.add ((x5_2).toNat * 5)).block, (ad503.add ((x5_2).toNat * 5)).off + 3, none⟩ = some (.string ((rd_T64 l0_2 x5_2).f3)) ∧ w'.cell? ⟨(ad503.add ((x5_2).toNat * 5)).block, (ad503.add ((x5_2).toNat * 5)).off + 4, none⟩ = some (.int .i64 ((rd_T64 l0_2 x5_2).f4)) ∧ w'.cell? (ad504.add ((x6_3).toNat * 5)) = some (.int .i64 ((rd_T64 l1_2 x6_3).f0)) ∧ w'.cell? ⟨(ad504.add ((x6_3).toNat * 5)).block, (ad504.add ((x6_3).toNat * 5)).off + 1, none⟩ = some (.int .i64 ((rd_T64 l1_2 x6_3).f1)) ∧ w'.cell? ⟨(ad504.add ((x6_3).toNat * 5)).block, (ad504.add ((x6_3).toNat * 5)).off + 2, none⟩ = some (.int .i64 ((rd_T64 l1_2 x6_3).f2)) ∧ w'.cell? ⟨(ad504.add ((x6_3).toNat * 5)).block, (ad504.add ((x6_3).toNat * 5)).off + 3, none⟩ = some (.string ((rd_T64 l1_2 x6_3).f3)) ∧ w'.cell? ⟨(ad504.add ((x6_3).toNat * 5)).block, (ad504.add ((x6_3).toNat * 5)).off + 4, none⟩ = some (.int .i64 ((rd_T64 l1_2 x6_3).f4))) (ds := []) #[false, false, false, false, false, false, false, false, false, false, false, false, false, false, false, false, false, false, false, false, false, false, false, false, false, false] (by kernel_rfl) rfl rfl ⟨(blk_cell BK499.out 0).trans rfl, (blk_cell BK499.out 1).trans rfl, (blk_cell BK499.out 2).trans rfl, (blk_cell BK500.out 0).trans rfl, (blk_cell BK500.out 1).trans rfl, (blk_cell BK500.out 2).trans rfl, ((HB.out.cell (World.block_lt_of_cell? w _ hw503_0)).trans hw503_0), ((HB.out.cell (World.block_lt_of_cell? w _ hw503_1)).trans hw503_1), ((HB.out.cell (World.block_lt_of_cell? w _ hw503_2)).trans hw503_2), ((HB.out.cell (World.block_lt_of_cell? w _ hw503_3)).trans hw503_3), ((HB.out.cell (World.block_lt_of_cell? w _ hw503_4)).trans hw503_4), ((HB.out.cell (World.block_lt_of_cell? w _ hw504_0)).trans hw504_0), ((HB.out.cell (World.block_lt_of_cell? w _ hw504_1)).trans hw504_1), ((HB.out.cell (World.block_lt_of_cell? w _ hw504_2)).trans hw504_2), ((HB.out.cell (World.block_lt_of_cell? w _ hw504_3)).trans hw504_3), ((HB.out.cell (World.block_lt_of_cell? w _ hw504_4)).trans hw504_4), ((HB.out.cell (World.block_lt_of_cell? w _ hw505_0)).trans hw505_0), ((HB.out.cell (World.block_lt_of_cell? w _ hw505_1)).trans hw505_1), ((HB.out.cell (World.block_lt_of_cell? w _ hw505_2)).trans hw505_2), ((HB.out.cell (World.block_lt_of_cell? w _ hw505_3)).trans hw505_3), ((HB.out.cell (World.block_lt_of_cell? w _ hw505_4)).trans hw505_4), ((HB.out.cell (World.block_lt_of_cell? w _ hw506_0)).trans hw506_0), ((HB.out.cell (World.block_lt_of_cell? w _ hw506_1)).trans hw506_1), ((HB.out.cell (World.block_lt_of_cell? w _ hw506_2)).trans hw506_2), ((HB.out.cell (World.block_lt_of_cell? w _ hw506_3)).trans hw506_3), ((HB.out.cell (World.block_lt_of_cell? w _ hw506_4)).trans hw506_4)⟩ (fun hHeld => ?_); refine with_tabW strongroomref13_Follows.tab9 strongroomref13_Follows.bits9 (fun HT_ HW_ => ?_)
               generalize wr.drew = w37 at BK499 BK500 HB hx503_0 hx503_1 hx503_2 hx503_3 hx503_4 hx504_0 hx504_1 hx504_2 hx504_3 hx504_4 hx505_0 hx505_1 hx505_2 hx505_3 hx505_4 hx506_0 hx506_1 hx506_2 hx506_3 hx506_4 hHeld ⊢
               refine pure_ (i := 0) (N := some 37) (v := ?_) (a' := ?_) #[true, false, false, false, false, false, false, false, false, false, false, false, false, false, false, false, false, false, false, false, false, false, false, false, false, false] rfl rfl (any_of HT_.out (by kernel_rfl)) (fun _ _ _ h => h) (Or.inl ⟨by rfl, ?_⟩) ?_ ?_
               rotate_left
               ·intro w'
                go_simp
                with_reducible rfl
               rotate_left
               ·simp only [Act.put, List.setIfInBounds_toArray, List.set_cons_zero, List.set_cons_succ, i64_w, i32_w]
                rfl
               refine pure_ (i := 2) (N := some 39) (v := ?_) (a' := ?_) #[true, false, true, false, false, false, false, false, false, false, false, false, false, false, false, false, false, false, false, false, false, false, false, false, false, false] rfl rfl (any_of HT_.out (by kernel_rfl)) (fun _ _ _ h => h) (Or.inl ⟨by rfl, ?_⟩) ?_ ?_
               rotate_left
               ·intro w'
                go_simp
                with_reducible rfl
               rotate_left
               ·simp only [Act.put, List.setIfInBounds_toArray, List.set_cons_zero, List.set_cons_succ, i64_w, i32_w]
                rfl
               refine pure_ (i := 6) (N := some 43) (v := ?_) (a' := ?_) #[true, false, true, false, false, false, true, false, false, false, false, false, false, false, false, false, false, false, false, false, false, false, false, false, false, false] rfl rfl (any_of HT_.out (by kernel_rfl)) (fun _ _ _ h => h) (Or.inl ⟨by rfl, ?_⟩) ?_ ?_
               rotate_left
               ·intro w'
                go_simp
                with_reducible rfl
               rotate_left
               ·simp only [Act.put, List.setIfInBounds_toArray, List.set_cons_zero, List.set_cons_succ, i64_w, i32_w]
                rfl
               refine pure_ (i := 8) (N := some 45) (v := ?_) (a' := ?_) #[true, false, true, false, false, false, true, false, true, false, false, false, false, false, false, false, false, false, false, false, false, false, false, false, false, false] rfl rfl (any_of HT_.out (by kernel_rfl)) (fun _ _ _ h => h) (Or.inl ⟨by rfl, ?_⟩) ?_ ?_
               rotate_left
               ·intro w'
                go_simp
                with_reducible rfl
               rotate_left
               ·simp only [Act.put, List.setIfInBounds_toArray, List.set_cons_zero, List.set_cons_succ, i64_w, i32_w]
                rfl
               refine take_ (i := 1) (N := some 38) (v := ?_) (a' := ?_) #[true, true, true, false, false, false, true, false, true, false, false, false, false, false, false, false, false, false, false, false, false, false, false, false, false, false] rfl rfl (take_ofW HT_.out HW_.out (by kernel_rfl)) (fun _ _ _ h => h) (Or.inl ⟨by rfl, ?_⟩) hHeld ?_ ?_
               rotate_left
               ·rintro w' ⟨s0, s1, s2, s3, s4, s5, s6, s7, s8, s9, s10, s11, s12, s13, s14, s15, s16, s17, s18, s19, s20, s21, s22, s23, s24, s25⟩
                go_simp
                with_reducible rfl
               rotate_left
               ·simp only [Act.put, List.setIfInBounds_toArray, List.set_cons_zero, List.set_cons_succ, i64_w, i32_w]
                rfl
               refine pure_ (i := 3) (N := some 40) (v := ?_) (a' := ?_) #[true, true, true, true, false, false, true, false, true, false, false, false, false, false, false, false, false, false, false, false, false, false, false, false, false, false] rfl rfl (any_of HT_.out (by kernel_rfl)) (fun _ _ _ h => h) (Or.inl ⟨by rfl, ?_⟩) ?_ ?_
               rotate_left
               ·intro w'
                go_simp
                with_reducible rfl
               rotate_left
               ·simp only [Act.put, List.setIfInBounds_toArray, List.set_cons_zero, List.set_cons_succ, i64_w, i32_w]
                rfl
               refine pure_ (i := 4) (N := some 41) (v := ?_) (a' := ?_) #[true, true, true, true, true, false, true, false, true, false, false, false, false, false, false, false, false, false, false, false, false, false, false, false, false, false] rfl rfl (any_of HT_.out (by kernel_rfl)) (fun _ _ _ h => h) (Or.inl ⟨by rfl, ?_⟩) ?_ ?_
               rotate_left
               ·intro w'
                go_simp
                with_reducible rfl
               rotate_left
               ·simp only [Act.put, List.setIfInBounds_toArray, List.set_cons_zero, List.set_cons_succ, i64_w, i32_w]
                rfl
               refine take_ (i := 5) (N := some 42) (v := ?_) (a' := ?_) #[true, true, true, true, true, true, true, false, true, false, false, false, false, false, false, false, false, false, false, false, false, false, false, false, false, false] rfl rfl (take_ofW HT_.out HW_.out (by kernel_rfl)) (fun _ _ _ h => h) (Or.inl ⟨by rfl, ?_⟩) hHeld ?_ ?_
               rotate_left
               ·rintro w' ⟨s0, s1, s2, s3, s4, s5, s6, s7, s8, s9, s10, s11, s12, s13, s14, s15, s16, s17, s18, s19, s20, s21, s22, s23, s24, s25⟩
                go_simp
                with_reducible rfl
               rotate_left
               ·simp only [Act.put, List.setIfInBounds_toArray, List.set_cons_zero, List.set_cons_succ, i64_w, i32_w]
                rfl
               refine take_ (i := 7) (N := some 44) (v := ?_) (a' := ?_) #[true, true, true, true, true, true, true, true, true, false, false, false, false, false, false, false, false, false, false, false, false, false, false, false, false, false] rfl rfl (take_ofW HT_.out HW_.out (by kernel_rfl)) (fun _ _ _ h => h) (Or.inl ⟨by rfl, ?_⟩) hHeld ?_ ?_
               rotate_left
               ·rintro w' ⟨s0, s1, s2, s3, s4, s5, s6, s7, s8, s9, s10, s11, s12, s13, s14, s15, s16, s17, s18, s19, s20, s21, s22, s23, s24, s25⟩
                go_simp
                with_reducible rfl
               rotate_left
               ·simp only [Act.put, List.setIfInBounds_toArray, List.set_cons_zero, List.set_cons_succ, i64_w, i32_w]
                rfl
               refine pure_ (i := 9) (N := some 46) (v := ?_) (a' := ?_) #[true, true, true, true, true, true, true, true, true, true, false, false, false, false, false, false, false, false, false, false, false, false, false, false, false, false] rfl rfl (any_of HT_.out (by kernel_rfl)) (fun _ _ _ h => h) (Or.inl ⟨by rfl, ?_⟩) ?_ ?_
               rotate_left
               ·intro w'
                go_simp
                with_reducible rfl
               rotate_left
               ·simp only [Act.put, List.setIfInBounds_toArray, List.set_cons_zero, List.set_cons_succ, i64_w, i32_w]
                rfl
               refine pure_ (i := 10) (N := some 47) (v := ?_) (a' := ?_) #[true, true, true, true, true, true, true, true, true, true, true, false, false, false, false, false, false, false, false, false, false, false, false, false, false, false] rfl rfl (any_of HT_.out (by kernel_rfl)) (fun _ _ _ h => h) (Or.inl ⟨by rfl, ?_⟩) ?_ ?_
               rotate_left
               ·intro w'
                go_simp
                with_reducible rfl
               rotate_left
               ·simp only [Act.put, List.setIfInBounds_toArray, List.set_cons_zero, List.set_cons_succ, i64_w, i32_w]
                rfl
               refine take_ (i := 11) (N := some 48) (v := ?_) (a' := ?_) #[true, true, true, true, true, true, true, true, true, true, true, true, false, false, false, false, false, false, false, false, false, false, false, false, false, false] rfl rfl (take_ofW HT_.out HW_.out (by kernel_rfl)) (fun _ _ _ h => h) (Or.inl ⟨by rfl, ?_⟩) hHeld ?_ ?_
               rotate_left
               ·rintro w' ⟨s0, s1, s2, s3, s4, s5, s6, s7, s8, s9, s10, s11, s12, s13, s14, s15, s16, s17, s18, s19, s20, s21, s22, s23, s24, s25⟩
                go_simp
                with_reducible rfl
               rotate_left
               ·simp only [Act.put, List.setIfInBounds_toArray, List.set_cons_zero, List.set_cons_succ, i64_w, i32_w]
                rfl
               refine pure_ (i := 12) (N := some 49) (v := ?_) (a' := ?_) #[true, true, true, true, true, true, true, true, true, true, true, true, true, false, false, false, false, false, false, false, false, false, false, false, false, false] rfl rfl (any_of HT_.out (by kernel_rfl)) (fun _ _ _ h => h) (Or.inl ⟨by rfl, ?_⟩) ?_ ?_
               rotate_left
               ·intro w'
                go_simp
                with_reducible rfl
               rotate_left
               ·simp only [Act.put, List.setIfInBounds_toArray, List.set_cons_zero, List.set_cons_succ, i64_w, i32_w]
                rfl
               refine pure_ (i := 13) (N := some 50) (v := ?_) (a' := ?_) #[true, true, true, true, true, true, true, true, true, true, true, true, true, true, false, false, false, false, false, false, false, false, false, false, false, false] rfl rfl (any_of HT_.out (by kernel_rfl)) (fun _ _ _ h => h) (Or.inl ⟨by rfl, ?_⟩) ?_ ?_
               rotate_left
               ·intro w'
                go_simp
                with_reducible rfl
               rotate_left
               ·simp only [Act.put, List.setIfInBounds_toArray, List.set_cons_zero, List.set_cons_succ, i64_w, i32_w]
                rfl
               refine pure_ (i := 14) (N := some 51) (v := ?_) (a' := ?_) #[true, true, true, true, true, true, true, true, true, true, true, true, true, true, true, false, false, false, false, false, false, false, false, false, false, false] rfl rfl (any_of HT_.out (by kernel_rfl)) (fun _ _ _ h => h) (Or.inl ⟨by rfl, ?_⟩) ?_ ?_
               rotate_left
               ·intro w'
                go_simp
                with_reducible rfl
               rotate_left
               ·simp only [Act.put, List.setIfInBounds_toArray, List.set_cons_zero, List.set_cons_succ, i64_w, i32_w]
                rfl
               refine pure_ (i := 16) (N := some 53) (v := ?_) (a' := ?_) #[true, true, true, true, true, true, true, true, true, true, true, true, true, true, true, false, true, false, false, false, false, false, false, false, false, false] rfl rfl (any_of HT_.out (by kernel_rfl)) (fun _ _ _ h => h) (Or.inl ⟨by rfl, ?_⟩) ?_ ?_
               rotate_left
               ·intro w'
                go_simp
                with_reducible rfl
               rotate_left
               ·simp only [Act.put, List.setIfInBounds_toArray, List.set_cons_zero, List.set_cons_succ, i64_w, i32_w]
                rfl
               refine pure_ (i := 19) (N := some 56) (v := ?_) (a' := ?_) #[true, true, true, true, true, true, true, true, true, true, true, true, true, true, true, false, true, false, false, true, false, false, false, false, false, false] rfl rfl (any_of HT_.out (by kernel_rfl)) (fun _ _ _ h => h) (Or.inl ⟨by rfl, ?_⟩) ?_ ?_
               rotate_left
               ·intro w'
                go_simp
                with_reducible rfl
               rotate_left
               ·simp only [Act.put, List.setIfInBounds_toArray, List.set_cons_zero, List.set_cons_succ, i64_w, i32_w]
                rfl
               refine pure_ (i := 21) (N := some 58) (v := ?_) (a' := ?_) #[true, true, true, true, true, true, true, true, true, true, true, true, true, true, true, false, true, false, false, true, false, true, false, false, false, false] rfl rfl (any_of HT_.out (by kernel_rfl)) (fun _ _ _ h => h) (Or.inl ⟨by rfl, ?_⟩) ?_ ?_
               rotate_left
               ·intro w'
                go_simp
                with_reducible rfl
               rotate_left
               ·simp only [Act.put, List.setIfInBounds_toArray, List.set_cons_zero, List.set_cons_succ, i64_w, i32_w]
                rfl
               refine take_ (i := 15) (N := some 52) (v := ?_) (a' := ?_) #[true, true, true, true, true, true, true, true, true, true, true, true, true, true, true, true, true, false, false, true, false, true, false, false, false, false] rfl rfl (take_ofW HT_.out HW_.out (by kernel_rfl)) (fun _ _ _ h => h) (Or.inl ⟨by rfl, ?_⟩) hHeld ?_ ?_
               rotate_left
               ·rintro w' ⟨s0, s1, s2, s3, s4, s5, s6, s7, s8, s9, s10, s11, s12, s13, s14, s15, s16, s17, s18, s19, s20, s21, s22, s23, s24, s25⟩
                go_simp
                with_reducible rfl
               rotate_left
               ·simp only [Act.put, List.setIfInBounds_toArray, List.set_cons_zero, List.set_cons_succ, i64_w, i32_w]
                rfl
               refine pure_ (i := 17) (N := some 54) (v := ?_) (a' := ?_) #[true, true, true, true, true, true, true, true, true, true, true, true, true, true, true, true, true, true, false, true, false, true, false, false, false, false] rfl rfl (any_of HT_.out (by kernel_rfl)) (fun _ _ _ h => h) (Or.inl ⟨by rfl, ?_⟩) ?_ ?_
               rotate_left
               ·intro w'
                go_simp
                with_reducible rfl
               rotate_left
               ·simp only [Act.put, List.setIfInBounds_toArray, List.set_cons_zero, List.set_cons_succ, i64_w, i32_w]
                rfl
               refine take_ (i := 18) (N := some 55) (v := ?_) (a' := ?_) #[true, true, true, true, true, true, true, true, true, true, true, true, true, true, true, true, true, true, true, true, false, true, false, false, false, false] rfl rfl (take_ofW HT_.out HW_.out (by kernel_rfl)) (fun _ _ _ h => h) (Or.inl ⟨by rfl, ?_⟩) hHeld ?_ ?_
               rotate_left
               ·rintro w' ⟨s0, s1, s2, s3, s4, s5, s6, s7, s8, s9, s10, s11, s12, s13, s14, s15, s16, s17, s18, s19, s20, s21, s22, s23, s24, s25⟩
                go_simp
                with_reducible rfl
               rotate_left
               ·simp only [Act.put, List.setIfInBounds_toArray, List.set_cons_zero, List.set_cons_succ, i64_w, i32_w]
                rfl
               refine take_ (i := 20) (N := some 57) (v := ?_) (a' := ?_) #[true, true, true, true, true, true, true, true, true, true, true, true, true, true, true, true, true, true, true, true, true, true, false, false, false, false] rfl rfl (take_ofW HT_.out HW_.out (by kernel_rfl)) (fun _ _ _ h => h) (Or.inl ⟨by rfl, ?_⟩) hHeld ?_ ?_
               rotate_left
               ·rintro w' ⟨s0, s1, s2, s3, s4, s5, s6, s7, s8, s9, s10, s11, s12, s13, s14, s15, s16, s17, s18, s19, s20, s21, s22, s23, s24, s25⟩
                go_simp
                with_reducible rfl
               rotate_left
               ·simp only [Act.put, List.setIfInBounds_toArray, List.set_cons_zero, List.set_cons_succ, i64_w, i32_w]
                rfl
               refine pure_ (i := 22) (N := some 59) (v := ?_) (a' := ?_) #[true, true, true, true, true, true, true, true, true, true, true, true, true, true, true, true, true, true, true, true, true, true, true, false, false, false] rfl rfl (any_of HT_.out (by kernel_rfl)) (fun _ _ _ h => h) (Or.inl ⟨by rfl, ?_⟩) ?_ ?_
               rotate_left
               ·intro w'
                go_simp
                with_reducible rfl
               rotate_left
               ·simp only [Act.put, List.setIfInBounds_toArray, List.set_cons_zero, List.set_cons_succ, i64_w, i32_w]
                rfl
               refine take_ (i := 23) (N := some 60) (v := ?_) (a' := ?_) #[true, true, true, true, true, true, true, true, true, true, true, true, true, true, true, true, true, true, true, true, true, true, true, true, false, false] rfl rfl (take_ofW HT_.out HW_.out (by kernel_rfl)) (fun _ _ _ h => h) (Or.inl ⟨by rfl, ?_⟩) hHeld ?_ ?_
               rotate_left
               ·rintro w' ⟨s0, s1, s2, s3, s4, s5, s6, s7, s8, s9, s10, s11, s12, s13, s14, s15, s16, s17, s18, s19, s20, s21, s22, s23, s24, s25⟩
                go_simp
                with_reducible rfl
               rotate_left
               ·simp only [Act.put, List.setIfInBounds_toArray, List.set_cons_zero, List.set_cons_succ, i64_w, i32_w]
                rfl
               refine pure_ (i := 24) (N := some 61) (v := ?_) (a' := ?_) #[true, true, true, true, true, true, true, true, true, true, true, true, true, true, true, true, true, true, true, true, true, true, true, true, true, false] rfl rfl (any_of HT_.out (by kernel_rfl)) (fun _ _ _ h => h) (Or.inl ⟨by rfl, ?_⟩) ?_ ?_
               rotate_left
               ·intro w'
                go_simp
                with_reducible rfl
               rotate_left
               ·simp only [Act.put, List.setIfInBounds_toArray, List.set_cons_zero, List.set_cons_succ, i64_w, i32_w]
                rfl
               refine pure_ (i := 25) (N := some 62) (v := ?_) (a' := ?_) #[true, true, true, true, true, true, true, true, true, true, true, true, true, true, true, true, true, true, true, true, true, true, true, true, true, true] rfl rfl (any_of HT_.out (by kernel_rfl)) (fun _ _ _ h => h) (Or.inl ⟨by rfl, ?_⟩) ?_ ?_
               rotate_left
               ·intro w'
                go_simp
                with_reducible rfl
               rotate_left
               ·simp only [Act.put, List.setIfInBounds_toArray, List.set_cons_zero, List.set_cons_succ, i64_w, i32_w]
                rfl
               refine done_ (done_of HT_.out (by kernel_rfl)) ?_
               try go_wp2
               go_ret
               exact ⟨by first | rfl | (simp [errW_none, errW_some] <;> rfl) | (simp [*, errW_none, errW_some] <;> rfl), by repeat (first | (with_reducible first | exact HB.out | apply below_alloc | apply pw_below_drewN | apply below_drew1 | refine below_set ?_ GE499.out | refine below_set ?_ GE500.out) | exact HB.out)⟩
              ·rw [if_neg c34] at H
               have c34b0 : (!(((rd_T64 l0_2 x5_2).f0) == ((rd_T64 l1_2 x6_3).f0)) || (!(((rd_T64 l0_2 x5_2).f1) == ((rd_T64 l1_2 x6_3).f1)) || (!(((rd_T64 l0_2 x5_2).f2) == ((rd_T64 l1_2 x6_3).f2)) || (!((((rd_T64 l0_2 x5_2).f3).toList) == (((rd_T64 l1_2 x6_3).f3).toList)) || (!(((rd_T64 l0_2 x5_2).f4) == ((rd_T64 l1_2 x6_3).f4))))))) = false := by simpa using c34
               have c34b9 := c34b0
               try simp only [c33b0, Bool.not_true, Bool.false_or] at c34b9
               clear c34
               have H' := Aside0.mk H
               clear H
               have hnb38 := NB500_499.out
               have hnc38 := NB499_500.out
               have hcz39_0 : wr.cell? ⟨gb500, 0, none⟩ = some (.string a1_0) := (blk_cell BK500.out 0).trans rfl
               have hcz39_1 : wr.cell? ⟨gb500, 1, none⟩ = some (.int .i64 a1_1) := (blk_cell BK500.out 1).trans rfl
               have hcz39_2 : wr.cell? ⟨gb500, 2, none⟩ = some (.slice A1_2 l1_2.length c1_2) := (blk_cell BK500.out 2).trans rfl
               have hfz39_0 := blk_frozen BK500.out 0
               have hfz39_1 := blk_frozen BK500.out 1
               have hfz39_2 := blk_frozen BK500.out 2
               try go_wp2
               have n0_ := Aside0.mk (blk_drew BK499.out)
               have n1_ := Aside0.mk (blk_drew BK500.out)
               have n2_ := Aside0.mk (below_drew1 HB.out)
               clear BK499
               clear BK500
               clear HB
               have BK499 := n0_
               have BK500 := n1_
               have HB := n2_
               clear n0_ n1_ n2_
               have p503 : 0 ≤ (x5_2 : Int) := of_decide_eq_true (by first | (with_reducible assumption) | assumption)
               have q503 : x5_2 < (l0_2.length : Int) := of_decide_eq_true (by first | (with_reducible assumption) | assumption)
               obtain ⟨ad503, e503, hx503_0, hx503_1, hx503_2, hx503_3, hx503_4⟩ := at_T64 HR0_2.out x5_2 p503 q503
               have hw503_4 := hx503_4
               have hw503_3 := hx503_3
               have hw503_2 := hx503_2
               have hw503_1 := hx503_1
               have hw503_0 := hx503_0
               cases e503
               replace hx503_0 := (HB.out.cell (World.block_lt_of_cell? w _ hx503_0)).trans hx503_0
               replace hx503_1 := (HB.out.cell (World.block_lt_of_cell? w _ hx503_1)).trans hx503_1
               replace hx503_2 := (HB.out.cell (World.block_lt_of_cell? w _ hx503_2)).trans hx503_2
               replace hx503_3 := (HB.out.cell (World.block_lt_of_cell? w _ hx503_3)).trans hx503_3
               replace hx503_4 := (HB.out.cell (World.block_lt_of_cell? w _ hx503_4)).trans hx503_4
               replace p503 := eq_true p503
               replace q503 := eq_true q503
               have p504 : 0 ≤ (x6_3 : Int) := of_decide_eq_true (by first | (with_reducible assumption) | assumption)
               have q504 : x6_3 < (l1_2.length : Int) := of_decide_eq_true (by first | (with_reducible assumption) | assumption)
               obtain ⟨ad504, e504, hx504_0, hx504_1, hx504_2, hx504_3, hx504_4⟩ := at_T64 HR1_2.out x6_3 p504 q504
               have hw504_4 := hx504_4
               have hw504_3 := hx504_3
               have hw504_2 := hx504_2
               have hw504_1 := hx504_1
               have hw504_0 := hx504_0
               cases e504
               replace hx504_0 := (HB.out.cell (World.block_lt_of_cell? w _ hx504_0)).trans hx504_0
               replace hx504_1 := (HB.out.cell (World.block_lt_of_cell? w _ hx504_1)).trans hx504_1
               replace hx504_2 := (HB.out.cell (World.block_lt_of_cell? w _ hx504_2)).trans hx504_2
               replace hx504_3 := (HB.out.cell (World.block_lt_of_cell? w _ hx504_3)).trans hx504_3
               replace hx504_4 := (HB.out.cell (World.block_lt_of_cell? w _ hx504_4)).trans hx504_4
               replace p504 := eq_true p504
               replace q504 := eq_true q504
               have p505 : 0 ≤ (x5_2 : Int) := of_decide_eq_true (by first | (with_reducible assumption) | assumption)
               have q505 : x5_2 < (l0_2.length : Int) := of_decide_eq_true (by first | (with_reducible assumption) | assumption)
               obtain ⟨ad505, e505, hx505_0, hx505_1, hx505_2, hx505_3, hx505_4⟩ := at_T64 HR0_2.out x5_2 p505 q505
               have hw505_4 := hx505_4
               have hw505_3 := hx505_3
               have hw505_2 := hx505_2
               have hw505_1 := hx505_1
               have hw505_0 := hx505_0
               obtain rfl : ad503 = ad505 := (by injection e505)
               replace hx505_0 := (HB.out.cell (World.block_lt_of_cell? w _ hx505_0)).trans hx505_0
               replace hx505_1 := (HB.out.cell (World.block_lt_of_cell? w _ hx505_1)).trans hx505_1
               replace hx505_2 := (HB.out.cell (World.block_lt_of_cell? w _ hx505_2)).trans hx505_2
               replace hx505_3 := (HB.out.cell (World.block_lt_of_cell? w _ hx505_3)).trans hx505_3
               replace hx505_4 := (HB.out.cell (World.block_lt_of_cell? w _ hx505_4)).trans hx505_4
               replace p505 := eq_true p505
               replace q505 := eq_true q505
               have p506 : 0 ≤ (x6_3 : Int) := of_decide_eq_true (by first | (with_reducible assumption) | assumption)
               have q506 : x6_3 < (l1_2.length : Int) := of_decide_eq_true (by first | (with_reducible assumption) | assumption)
               obtain ⟨ad506, e506, hx506_0, hx506_1, hx506_2, hx506_3, hx506_4⟩ := at_T64 HR1_2.out x6_3 p506 q506
               have hw506_4 := hx506_4
               have hw506_3 := hx506_3
               have hw506_2 := hx506_2
               have hw506_1 := hx506_1
               have hw506_0 := hx506_0
               obtain rfl : ad504 = ad506 := (by injection e506)
               replace hx506_0 := (HB.out.cell (World.block_lt_of_cell? w _ hx506_0)).trans hx506_0
               replace hx506_1 := (HB.out.cell (World.block_lt_of_cell? w _ hx506_1)).trans hx506_1
               replace hx506_2 := (HB.out.cell (World.block_lt_of_cell? w _ hx506_2)).trans hx506_2
               replace hx506_3 := (HB.out.cell (World.block_lt_of_cell? w _ hx506_3)).trans hx506_3
               replace hx506_4 := (HB.out.cell (World.block_lt_of_cell? w _ hx506_4)).trans hx506_4
               replace p506 := eq_true p506
               replace q506 := eq_true q506
               refine start_ (n := 26) (S := fun w' => w'.cell? ⟨gb499, 0, none⟩ = some (.string a0_0) ∧ w'.cell? ⟨gb499, 1, none⟩ = some (.int .i64 a0_1) ∧ w'.cell? ⟨gb499, 2, none⟩ = some (.slice (some ad503) l0_2.length c0_2) ∧ w'.cell? ⟨gb500, 0, none⟩ = some (.string a1_0) ∧ w'.cell? ⟨gb500, 1, none⟩ = some (.int .i64 a1_1) ∧ w'.cell? ⟨gb500, 2, none⟩ = some (.slice (some ad504) l1_2.length c1_2) ∧ w'.cell? (ad503.add ((x5_2).toNat * 5)) = some (.int .i64 ((rd_T64 l0_2 x5_2).f0)) ∧ w'.cell? ⟨(ad503.add ((x5_2).toNat * 5)).block, (ad503.add ((x5_2).toNat * 5)).off + 1, none⟩ = some (.int .i64 ((rd_T64 l0_2 x5_2).f1)) ∧ w'.cell? ⟨(ad503.add ((x5_2).toNat * 5)).block, (ad503.add ((x5_2).toNat * 5)).off + 2, none⟩ = some (.int .i64 ((rd_T64 l0_2 x5_2).f2)) ∧ w'.cell? ⟨(ad503.add ((x5_2).toNat * 5)).block, (ad503.add ((x5_2).toNat * 5)).off + 3, none⟩ = some (.string ((rd_T64 l0_2 x5_2).f3)) ∧ w'.cell? ⟨(ad503.add ((x5_2).toNat * 5)).block, (ad503.add ((x5_2).toNat * 5)).off + 4, none⟩ = some (.int .i64 ((rd_T64 l0_2 x5_2).f4)) ∧ w'.cell? (ad504.add ((x6_3).toNat * 5)) = some (.int .i64 ((rd_T64 l1_2 x6_3).f0)) ∧ w'.cell? ⟨(ad504.add ((x6_3).toNat * 5)).block, (ad504.add ((x6_3).toNat * 5)).off + 1, none⟩ = some (.int .i64 ((rd_T64 l1_2 x6_3).f1)) ∧ w'.cell? ⟨(ad504.add ((x6_3).toNat * 5)).block, (ad504.add ((x6_3).toNat * 5)).off + 2, none⟩ = some (.int .i64 ((rd_T64 l1_2 x6_3).f2)) ∧ w'.cell? ⟨(ad504.add ((x6_3).toNat * 5)).block, (ad504.add ((x6_3).toNat * 5)).off + 3, none⟩ = some (.string ((rd_T64 l1_2 x6_3).f3)) ∧ w'.cell? ⟨(ad504.add ((x6_3).toNat * 5)).block, (ad504.add ((x6_3).toNat * 5)).off + 4, none⟩ = some (.int .i64 ((rd_T64 l1_2 x6_3).f4)) ∧ w'.cell? (ad503.add ((x5_2).toNat * 5)) = some (.int .i64 ((rd_T64 l0_2 x5_2).f0)) ∧ w'.cell? ⟨(ad503.add ((x5_2).toNat * 5)).block, (ad503.add ((x5_2).toNat * 5)).off + 1, none⟩ = some (.int .i64 ((rd_T64 l0_2 x5_2).f1)) ∧ w'.cell? ⟨(ad503.add ((x5_2).toNat * 5)).block, (ad503.add ((x5_2).toNat * 5)).off + 2, none⟩ = some (.int .i64 ((rd_T64 l0_2 x5_2).f2)) ∧ w'.cell? ⟨(ad503.add ((x5_2).toNat * 5)).block, (ad503.add ((x5_2).toNat * 5)).off + 3, none⟩ = some (.string ((rd_T64 l0_2 x5_2).f3)) ∧ w'.cell? ⟨(ad503.add ((x5_2).toNat * 5)).block, (ad503.add ((x5_2).toNat * 5)).off + 4, none⟩ = some (.int .i64 ((rd_T64 l0_2 x5_2).f4)) ∧ w'.cell? (ad504.add ((x6_3).toNat * 5)) = some (.int .i64 ((rd_T64 l1_2 x6_3).f0)) ∧ w'.cell? ⟨(ad504.add ((x6_3).toNat * 5)).block, (ad504.add ((x6_3).toNat * 5)).off + 1, none⟩ = some (.int .i64 ((rd_T64 l1_2 x6_3).f1)) ∧ w'.cell? ⟨(ad504.add ((x6_3).toNat * 5)).block, (ad504.add ((x6_3).toNat * 5)).off + 2, none⟩ = some (.int .i64 ((rd_T64 l1_2 x6_3).f2)) ∧ w'.cell? ⟨(ad504.add ((x6_3).toNat * 5)).block, (ad504.add ((x6_3).toNat * 5)).off + 3, none⟩ = some (.string ((rd_T64 l1_2 x6_3).f3)) ∧ w'.cell? ⟨(ad504.add ((x6_3).toNat * 5)).block, (ad504.add ((x6_3).toNat * 5)).off + 4, none⟩ = some (.int .i64 ((rd_T64 l1_2 x6_3).f4))) (ds := []) #[false, false, false, false, false, false, false, false, false, false, false, false, false, false, false, false, false, false, false, false, false, false, false, false, false, false] (by kernel_rfl) rfl rfl ⟨(blk_cell BK499.out 0).trans rfl, (blk_cell BK499.out 1).trans rfl, (blk_cell BK499.out 2).trans rfl, (blk_cell BK500.out 0).trans rfl, (blk_cell BK500.out 1).trans rfl, (blk_cell BK500.out 2).trans rfl, ((HB.out.cell (World.block_lt_of_cell? w _ hw503_0)).trans hw503_0), ((HB.out.cell (World.block_lt_of_cell? w _ hw503_1)).trans hw503_1), ((HB.out.cell (World.block_lt_of_cell? w _ hw503_2)).trans hw503_2), ((HB.out.cell (World.block_lt_of_cell? w _ hw503_3)).trans hw503_3), ((HB.out.cell (World.block_lt_of_cell? w _ hw503_4)).trans hw503_4), ((HB.out.cell (World.block_lt_of_cell? w _ hw504_0)).trans hw504_0), ((HB.out.cell (World.block_lt_of_cell? w _ hw504_1)).trans hw504_1), ((HB.out.cell (World.block_lt_of_cell? w _ hw504_2)).trans hw504_2), ((HB.out.cell (World.block_lt_of_cell? w _ hw504_3)).trans hw504_3), ((HB.out.cell (World.block_lt_of_cell? w _ hw504_4)).trans hw504_4), ((HB.out.cell (World.block_lt_of_cell? w _ hw505_0)).trans hw505_0), ((HB.out.cell (World.block_lt_of_cell? w _ hw505_1)).trans hw505_1), ((HB.out.cell (World.block_lt_of_cell? w _ hw505_2)).trans hw505_2), ((HB.out.cell (World.block_lt_of_cell? w _ hw505_3)).trans hw505_3), ((HB.out.cell (World.block_lt_of_cell? w _ hw505_4)).trans hw505_4), ((HB.out.cell (World.block_lt_of_cell? w _ hw506_0)).trans hw506_0), ((HB.out.cell (World.block_lt_of_cell? w _ hw506_1)).trans hw506_1), ((HB.out.cell (World.block_lt_of_cell? w _ hw506_2)).trans hw506_2), ((HB.out.cell (World.block_lt_of_cell? w _ hw506_3)).trans hw506_3), ((HB.out.cell (World.block_lt_of_cell? w _ hw506_4)).trans hw506_4)⟩ (fun hHeld => ?_); refine with_tabW strongroomref13_Follows.tab9 strongroomref13_Follows.bits9 (fun HT_ HW_ => ?_)
               generalize wr.drew = w40 at BK499 BK500 HB hx503_0 hx503_1 hx503_2 hx503_3 hx503_4 hx504_0 hx504_1 hx504_2 hx504_3 hx504_4 hx505_0 hx505_1 hx505_2 hx505_3 hx505_4 hx506_0 hx506_1 hx506_2 hx506_3 hx506_4 hHeld ⊢
               refine pure_ (i := 0) (N := some 37) (v := ?_) (a' := ?_) #[true, false, false, false, false, false, false, false, false, false, false, false, false, false, false, false, false, false, false, false, false, false, false, false, false, false] rfl rfl (any_of HT_.out (by kernel_rfl)) (fun _ _ _ h => h) (Or.inl ⟨by rfl, ?_⟩) ?_ ?_
               rotate_left
               ·intro w'
                go_simp
                with_reducible rfl
               rotate_left
               ·simp only [Act.put, List.setIfInBounds_toArray, List.set_cons_zero, List.set_cons_succ, i64_w, i32_w]
                rfl
               refine pure_ (i := 2) (N := some 39) (v := ?_) (a' := ?_) #[true, false, true, false, false, false, false, false, false, false, false, false, false, false, false, false, false, false, false, false, false, false, false, false, false, false] rfl rfl (any_of HT_.out (by kernel_rfl)) (fun _ _ _ h => h) (Or.inl ⟨by rfl, ?_⟩) ?_ ?_
               rotate_left
               ·intro w'
                go_simp
                with_reducible rfl
               rotate_left
               ·simp only [Act.put, List.setIfInBounds_toArray, List.set_cons_zero, List.set_cons_succ, i64_w, i32_w]
                rfl
               refine pure_ (i := 6) (N := some 43) (v := ?_) (a' := ?_) #[true, false, true, false, false, false, true, false, false, false, false, false, false, false, false, false, false, false, false, false, false, false, false, false, false, false] rfl rfl (any_of HT_.out (by kernel_rfl)) (fun _ _ _ h => h) (Or.inl ⟨by rfl, ?_⟩) ?_ ?_
               rotate_left
               ·intro w'
                go_simp
                with_reducible rfl
               rotate_left
               ·simp only [Act.put, List.setIfInBounds_toArray, List.set_cons_zero, List.set_cons_succ, i64_w, i32_w]
                rfl
               refine pure_ (i := 8) (N := some 45) (v := ?_) (a' := ?_) #[true, false, true, false, false, false, true, false, true, false, false, false, false, false, false, false, false, false, false, false, false, false, false, false, false, false] rfl rfl (any_of HT_.out (by kernel_rfl)) (fun _ _ _ h => h) (Or.inl ⟨by rfl, ?_⟩) ?_ ?_
               rotate_left
               ·intro w'
                go_simp
                with_reducible rfl
               rotate_left
               ·simp only [Act.put, List.setIfInBounds_toArray, List.set_cons_zero, List.set_cons_succ, i64_w, i32_w]
                rfl
               refine take_ (i := 1) (N := some 38) (v := ?_) (a' := ?_) #[true, true, true, false, false, false, true, false, true, false, false, false, false, false, false, false, false, false, false, false, false, false, false, false, false, false] rfl rfl (take_ofW HT_.out HW_.out (by kernel_rfl)) (fun _ _ _ h => h) (Or.inl ⟨by rfl, ?_⟩) hHeld ?_ ?_
               rotate_left
               ·rintro w' ⟨s0, s1, s2, s3, s4, s5, s6, s7, s8, s9, s10, s11, s12, s13, s14, s15, s16, s17, s18, s19, s20, s21, s22, s23, s24, s25⟩
                go_simp
                with_reducible rfl
               rotate_left
               ·simp only [Act.put, List.setIfInBounds_toArray, List.set_cons_zero, List.set_cons_succ, i64_w, i32_w]
                rfl
               refine pure_ (i := 3) (N := some 40) (v := ?_) (a' := ?_) #[true, true, true, true, false, false, true, false, true, false, false, false, false, false, false, false, false, false, false, false, false, false, false, false, false, false] rfl rfl (any_of HT_.out (by kernel_rfl)) (fun _ _ _ h => h) (Or.inl ⟨by rfl, ?_⟩) ?_ ?_
               rotate_left
               ·intro w'
                go_simp
                with_reducible rfl
               rotate_left
               ·simp only [Act.put, List.setIfInBounds_toArray, List.set_cons_zero, List.set_cons_succ, i64_w, i32_w]
                rfl
               refine pure_ (i := 4) (N := some 41) (v := ?_) (a' := ?_) #[true, true, true, true, true, false, true, false, true, false, false, false, false, false, false, false, false, false, false, false, false, false, false, false, false, false] rfl rfl (any_of HT_.out (by kernel_rfl)) (fun _ _ _ h => h) (Or.inl ⟨by rfl, ?_⟩) ?_ ?_
               rotate_left
               ·intro w'
                go_simp
                with_reducible rfl
               rotate_left
               ·simp only [Act.put, List.setIfInBounds_toArray, List.set_cons_zero, List.set_cons_succ, i64_w, i32_w]
                rfl
               refine take_ (i := 5) (N := some 42) (v := ?_) (a' := ?_) #[true, true, true, true, true, true, true, false, true, false, false, false, false, false, false, false, false, false, false, false, false, false, false, false, false, false] rfl rfl (take_ofW HT_.out HW_.out (by kernel_rfl)) (fun _ _ _ h => h) (Or.inl ⟨by rfl, ?_⟩) hHeld ?_ ?_
               rotate_left
               ·rintro w' ⟨s0, s1, s2, s3, s4, s5, s6, s7, s8, s9, s10, s11, s12, s13, s14, s15, s16, s17, s18, s19, s20, s21, s22, s23, s24, s25⟩
                go_simp
                with_reducible rfl
               rotate_left
               ·simp only [Act.put, List.setIfInBounds_toArray, List.set_cons_zero, List.set_cons_succ, i64_w, i32_w]
                rfl
               refine take_ (i := 7) (N := some 44) (v := ?_) (a' := ?_) #[true, true, true, true, true, true, true, true, true, false, false, false, false, false, false, false, false, false, false, false, false, false, false, false, false, false] rfl rfl (take_ofW HT_.out HW_.out (by kernel_rfl)) (fun _ _ _ h => h) (Or.inl ⟨by rfl, ?_⟩) hHeld ?_ ?_
               rotate_left
               ·rintro w' ⟨s0, s1, s2, s3, s4, s5, s6, s7, s8, s9, s10, s11, s12, s13, s14, s15, s16, s17, s18, s19, s20, s21, s22, s23, s24, s25⟩
                go_simp
                with_reducible rfl
               rotate_left
               ·simp only [Act.put, List.setIfInBounds_toArray, List.set_cons_zero, List.set_cons_succ, i64_w, i32_w]
                rfl
               refine pure_ (i := 9) (N := some 46) (v := ?_) (a' := ?_) #[true, true, true, true, true, true, true, true, true, true, false, false, false, false, false, false, false, false, false, false, false, false, false, false, false, false] rfl rfl (any_of HT_.out (by kernel_rfl)) (fun _ _ _ h => h) (Or.inl ⟨by rfl, ?_⟩) ?_ ?_
               rotate_left
               ·intro w'
                go_simp
                with_reducible rfl
               rotate_left
               ·simp only [Act.put, List.setIfInBounds_toArray, List.set_cons_zero, List.set_cons_succ, i64_w, i32_w]
                rfl
               refine pure_ (i := 10) (N := some 47) (v := ?_) (a' := ?_) #[true, true, true, true, true, true, true, true, true, true, true, false, false, false, false, false, false, false, false, false, false, false, false, false, false, false] rfl rfl (any_of HT_.out (by kernel_rfl)) (fun _ _ _ h => h) (Or.inl ⟨by rfl, ?_⟩) ?_ ?_
               rotate_left
               ·intro w'
                go_simp
                with_reducible rfl
               rotate_left
               ·simp only [Act.put, List.setIfInBounds_toArray, List.set_cons_zero, List.set_cons_succ, i64_w, i32_w]
                rfl
               refine take_ (i := 11) (N := some 48) (v := ?_) (a' := ?_) #[true, true, true, true, true, true, true, true, true, true, true, true, false, false, false, false, false, false, false, false, false, false, false, false, false, false] rfl rfl (take_ofW HT_.out HW_.out (by kernel_rfl)) (fun _ _ _ h => h) (Or.inl ⟨by rfl, ?_⟩) hHeld ?_ ?_
               rotate_left
               ·rintro w' ⟨s0, s1, s2, s3, s4, s5, s6, s7, s8, s9, s10, s11, s12, s13, s14, s15, s16, s17, s18, s19, s20, s21, s22, s23, s24, s25⟩
                go_simp
                with_reducible rfl
               rotate_left
               ·simp only [Act.put, List.setIfInBounds_toArray, List.set_cons_zero, List.set_cons_succ, i64_w, i32_w]
                rfl
               refine pure_ (i := 12) (N := some 49) (v := ?_) (a' := ?_) #[true, true, true, true, true, true, true, true, true, true, true, true, true, false, false, false, false, false, false, false, false, false, false, false, false, false] rfl rfl (any_of HT_.out (by kernel_rfl)) (fun _ _ _ h => h) (Or.inl ⟨by rfl, ?_⟩) ?_ ?_
               rotate_left
               ·intro w'
                go_simp
                with_reducible rfl
               rotate_left
               ·simp only [Act.put, List.setIfInBounds_toArray, List.set_cons_zero, List.set_cons_succ, i64_w, i32_w]
                rfl
               refine pure_ (i := 13) (N := some 50) (v := ?_) (a' := ?_) #[true, true, true, true, true, true, true, true, true, true, true, true, true, true, false, false, false, false, false, false, false, false, false, false, false, false] rfl rfl (any_of HT_.out (by kernel_rfl)) (fun _ _ _ h => h) (Or.inl ⟨by rfl, ?_⟩) ?_ ?_
               rotate_left
               ·intro w'
                go_simp
                with_reducible rfl
               rotate_left
               ·simp only [Act.put, List.setIfInBounds_toArray, List.set_cons_zero, List.set_cons_succ, i64_w, i32_w]
                rfl
               refine pure_ (i := 14) (N := some 51) (v := ?_) (a' := ?_) #[true, true, true, true, true, true, true, true, true, true, true, true, true, true, true, false, false, false, false, false, false, false, false, false, false, false] rfl rfl (any_of HT_.out (by kernel_rfl)) (fun _ _ _ h => h) (Or.inl ⟨by rfl, ?_⟩) ?_ ?_
               rotate_left
               ·intro w'
                go_simp
                with_reducible rfl
               rotate_left
               ·simp only [Act.put, List.setIfInBounds_toArray, List.set_cons_zero, List.set_cons_succ, i64_w, i32_w]
                rfl
               refine pure_ (i := 16) (N := some 53) (v := ?_) (a' := ?_) #[true, true, true, true, true, true, true, true, true, true, true, true, true, true, true, false, true, false, false, false, false, false, false, false, false, false] rfl rfl (any_of HT_.out (by kernel_rfl)) (fun _ _ _ h => h) (Or.inl ⟨by rfl, ?_⟩) ?_ ?_
               rotate_left
               ·intro w'
                go_simp
                with_reducible rfl
               rotate_left
               ·simp only [Act.put, List.setIfInBounds_toArray, List.set_cons_zero, List.set_cons_succ, i64_w, i32_w]
                rfl
               refine pure_ (i := 19) (N := some 56) (v := ?_) (a' := ?_) #[true, true, true, true, true, true, true, true, true, true, true, true, true, true, true, false, true, false, false, true, false, false, false, false, false, false] rfl rfl (any_of HT_.out (by kernel_rfl)) (fun _ _ _ h => h) (Or.inl ⟨by rfl, ?_⟩) ?_ ?_
               rotate_left
               ·intro w'
                go_simp
                with_reducible rfl
               rotate_left
               ·simp only [Act.put, List.setIfInBounds_toArray, List.set_cons_zero, List.set_cons_succ, i64_w, i32_w]
                rfl
               refine pure_ (i := 21) (N := some 58) (v := ?_) (a' := ?_) #[true, true, true, true, true, true, true, true, true, true, true, true, true, true, true, false, true, false, false, true, false, true, false, false, false, false] rfl rfl (any_of HT_.out (by kernel_rfl)) (fun _ _ _ h => h) (Or.inl ⟨by rfl, ?_⟩) ?_ ?_
               rotate_left
               ·intro w'
                go_simp
                with_reducible rfl
               rotate_left
               ·simp only [Act.put, List.setIfInBounds_toArray, List.set_cons_zero, List.set_cons_succ, i64_w, i32_w]
                rfl
               refine take_ (i := 15) (N := some 52) (v := ?_) (a' := ?_) #[true, true, true, true, true, true, true, true, true, true, true, true, true, true, true, true, true, false, false, true, false, true, false, false, false, false] rfl rfl (take_ofW HT_.out HW_.out (by kernel_rfl)) (fun _ _ _ h => h) (Or.inl ⟨by rfl, ?_⟩) hHeld ?_ ?_
               rotate_left
               ·rintro w' ⟨s0, s1, s2, s3, s4, s5, s6, s7, s8, s9, s10, s11, s12, s13, s14, s15, s16, s17, s18, s19, s20, s21, s22, s23, s24, s25⟩
                go_simp
                with_reducible rfl
               rotate_left
               ·simp only [Act.put, List.setIfInBounds_toArray, List.set_cons_zero, List.set_cons_succ, i64_w, i32_w]
                rfl
               refine pure_ (i := 17) (N := some 54) (v := ?_) (a' := ?_) #[true, true, true, true, true, true, true, true, true, true, true, true, true, true, true, true, true, true, false, true, false, true, false, false, false, false] rfl rfl (any_of HT_.out (by kernel_rfl)) (fun _ _ _ h => h) (Or.inl ⟨by rfl, ?_⟩) ?_ ?_
               rotate_left
               ·intro w'
                go_simp
                with_reducible rfl
               rotate_left
               ·simp only [Act.put, List.setIfInBounds_toArray, List.set_cons_zero, List.set_cons_succ, i64_w, i32_w]
                rfl
               refine take_ (i := 18) (N := some 55) (v := ?_) (a' := ?_) #[true, true, true, true, true, true, true, true, true, true, true, true, true, true, true, true, true, true, true, true, false, true, false, false, false, false] rfl rfl (take_ofW HT_.out HW_.out (by kernel_rfl)) (fun _ _ _ h => h) (Or.inl ⟨by rfl, ?_⟩) hHeld ?_ ?_
               rotate_left
               ·rintro w' ⟨s0, s1, s2, s3, s4, s5, s6, s7, s8, s9, s10, s11, s12, s13, s14, s15, s16, s17, s18, s19, s20, s21, s22, s23, s24, s25⟩
                go_simp
                with_reducible rfl
               rotate_left
               ·simp only [Act.put, List.setIfInBounds_toArray, List.set_cons_zero, List.set_cons_succ, i64_w, i32_w]
                rfl
               refine take_ (i := 20) (N := some 57) (v := ?_) (a' := ?_) #[true, true, true, true, true, true, true, true, true, true, true, true, true, true, true, true, true, true, true, true, true, true, false, false, false, false] rfl rfl (take_ofW HT_.out HW_.out (by kernel_rfl)) (fun _ _ _ h => h) (Or.inl ⟨by rfl, ?_⟩) hHeld ?_ ?_
               rotate_left
               ·rintro w' ⟨s0, s1, s2, s3, s4, s5, s6, s7, s8, s9, s10, s11, s12, s13, s14, s15, s16, s17, s18, s19, s20, s21, s22, s23, s24, s25⟩
                go_simp
                with_reducible rfl
               rotate_left
               ·simp only [Act.put, List.setIfInBounds_toArray, List.set_cons_zero, List.set_cons_succ, i64_w, i32_w]
                rfl
               refine pure_ (i := 22) (N := some 59) (v := ?_) (a' := ?_) #[true, true, true, true, true, true, true, true, true, true, true, true, true, true, true, true, true, true, true, true, true, true, true, false, false, false] rfl rfl (any_of HT_.out (by kernel_rfl)) (fun _ _ _ h => h) (Or.inl ⟨by rfl, ?_⟩) ?_ ?_
               rotate_left
               ·intro w'
                go_simp
                with_reducible rfl
               rotate_left
               ·simp only [Act.put, List.setIfInBounds_toArray, List.set_cons_zero, List.set_cons_succ, i64_w, i32_w]
                rfl
               refine take_ (i := 23) (N := some 60) (v := ?_) (a' := ?_) #[true, true, true, true, true, true, true, true, true, true, true, true, true, true, true, true, true, true, true, true, true, true, true, true, false, false] rfl rfl (take_ofW HT_.out HW_.out (by kernel_rfl)) (fun _ _ _ h => h) (Or.inl ⟨by rfl, ?_⟩) hHeld ?_ ?_
               rotate_left
               ·rintro w' ⟨s0, s1, s2, s3, s4, s5, s6, s7, s8, s9, s10, s11, s12, s13, s14, s15, s16, s17, s18, s19, s20, s21, s22, s23, s24, s25⟩
                go_simp
                with_reducible rfl
               rotate_left
               ·simp only [Act.put, List.setIfInBounds_toArray, List.set_cons_zero, List.set_cons_succ, i64_w, i32_w]
                rfl
               refine pure_ (i := 24) (N := some 61) (v := ?_) (a' := ?_) #[true, true, true, true, true, true, true, true, true, true, true, true, true, true, true, true, true, true, true, true, true, true, true, true, true, false] rfl rfl (any_of HT_.out (by kernel_rfl)) (fun _ _ _ h => h) (Or.inl ⟨by rfl, ?_⟩) ?_ ?_
               rotate_left
               ·intro w'
                go_simp
                with_reducible rfl
               rotate_left
               ·simp only [Act.put, List.setIfInBounds_toArray, List.set_cons_zero, List.set_cons_succ, i64_w, i32_w]
                rfl
               refine pure_ (i := 25) (N := some 62) (v := ?_) (a' := ?_) #[true, true, true, true, true, true, true, true, true, true, true, true, true, true, true, true, true, true, true, true, true, true, true, true, true, true] rfl rfl (any_of HT_.out (by kernel_rfl)) (fun _ _ _ h => h) (Or.inl ⟨by rfl, ?_⟩) ?_ ?_
               rotate_left
               ·intro w'
                go_simp
                with_reducible rfl
               rotate_left
               ·simp only [Act.put, List.setIfInBounds_toArray, List.set_cons_zero, List.set_cons_succ, i64_w, i32_w]
                rfl
               refine done_ (done_of HT_.out (by kernel_rfl)) ?_
               try go_wp2
               go_roundg k3
               case measure => have := HJ2.out; have := HK2.out; have := HK3.out; omega
               case rel => exact ⟨(wrap64 (x6_3 + 1)), (by first | rfl | (simp; done) | (simp [*]; done)), H', ⟨by have := HJ2.out; have := HK2.out; have := HK3.out; omega⟩, ⟨by (with_reducible repeat (first | refine blk_drewN ?_ _ | refine blk_drew ?_ | refine blk_alloc ?_ _)); exact BK499.out⟩, ⟨by (with_reducible repeat (first | refine blk_drewN ?_ _ | refine blk_drew ?_ | refine blk_alloc ?_ _)); exact BK500.out⟩, ⟨by repeat (first | (with_reducible first | exact HB.out | apply below_alloc | apply pw_below_drewN | apply below_drew1 | refine below_set ?_ GE499.out | refine below_set ?_ GE500.out) | exact HB.out)⟩⟩
             ·rw [if_neg c33] at H
              have c33b0 : (((rd_T64 l0_2 x5_2).f0) == ((rd_T64 l1_2 x6_3).f0)) = false := beq_eq_false_iff_ne.mpr c33
              have c33b1 : (((rd_T64 l0_2 x5_2).f0) != ((rd_T64 l1_2 x6_3).f0)) = true := bne_iff_ne.mpr c33
              have H' := Aside0.mk H
              clear H
              have hnb41 := NB500_499.out
              have hnc41 := NB499_500.out
              have hcz42_0 : wr.cell? ⟨gb500, 0, none⟩ = some (.string a1_0) := (blk_cell BK500.out 0).trans rfl
              have hcz42_1 : wr.cell? ⟨gb500, 1, none⟩ = some (.int .i64 a1_1) := (blk_cell BK500.out 1).trans rfl
              have hcz42_2 : wr.cell? ⟨gb500, 2, none⟩ = some (.slice A1_2 l1_2.length c1_2) := (blk_cell BK500.out 2).trans rfl
              have hfz42_0 := blk_frozen BK500.out 0
              have hfz42_1 := blk_frozen BK500.out 1
              have hfz42_2 := blk_frozen BK500.out 2
              try go_wp2
              have n0_ := Aside0.mk (blk_drew BK499.out)
              have n1_ := Aside0.mk (blk_drew BK500.out)
              have n2_ := Aside0.mk (below_drew1 HB.out)
              clear BK499
              clear BK500
              clear HB
              have BK499 := n0_
              have BK500 := n1_
              have HB := n2_
              clear n0_ n1_ n2_
              have p503 : 0 ≤ (x5_2 : Int) := of_decide_eq_true (by first | (with_reducible assumption) | assumption)
              have q503 : x5_2 < (l0_2.length : Int) := of_decide_eq_true (by first | (with_reducible assumption) | assumption)
              obtain ⟨ad503, e503, hx503_0, hx503_1, hx503_2, hx503_3, hx503_4⟩ := at_T64 HR0_2.out x5_2 p503 q503
              have hw503_4 := hx503_4
              have hw503_3 := hx503_3
              have hw503_2 := hx503_2
              have hw503_1 := hx503_1
              have hw503_0 := hx503_0
              cases e503
              replace hx503_0 := (HB.out.cell (World.block_lt_of_cell? w _ hx503_0)).trans hx503_0
              replace hx503_1 := (HB.out.cell (World.block_lt_of_cell? w _ hx503_1)).trans hx503_1
              replace hx503_2 := (HB.out.cell (World.block_lt_of_cell? w _ hx503_2)).trans hx503_2
              replace hx503_3 := (HB.out.cell (World.block_lt_of_cell? w _ hx503_3)).trans hx503_3
              replace hx503_4 := (HB.out.cell (World.block_lt_of_cell? w _ hx503_4)).trans hx503_4
              replace p503 := eq_true p503
              replace q503 := eq_true q503
              have p504 : 0 ≤ (x6_3 : Int) := of_decide_eq_true (by first | (with_reducible assumption) | assumption)
              have q504 : x6_3 < (l1_2.length : Int) := of_decide_eq_true (by first | (with_reducible assumption) | assumption)
              obtain ⟨ad504, e504, hx504_0, hx504_1, hx504_2, hx504_3, hx504_4⟩ := at_T64 HR1_2.out x6_3 p504 q504
              have hw504_4 := hx504_4
              have hw504_3 := hx504_3
              have hw504_2 := hx504_2
              have hw504_1 := hx504_1
              have hw504_0 := hx504_0
              cases e504
              replace hx504_0 := (HB.out.cell (World.block_lt_of_cell? w _ hx504_0)).trans hx504_0
              replace hx504_1 := (HB.out.cell (World.block_lt_of_cell? w _ hx504_1)).trans hx504_1
              replace hx504_2 := (HB.out.cell (World.block_lt_of_cell? w _ hx504_2)).trans hx504_2
              replace hx504_3 := (HB.out.cell (World.block_lt_of_cell? w _ hx504_3)).trans hx504_3
              replace hx504_4 := (HB.out.cell (World.block_lt_of_cell? w _ hx504_4)).trans hx504_4
              replace p504 := eq_true p504
              replace q504 := eq_true q504
              refine start_ (n := 26) (S := fun w' => w'.cell? ⟨gb499, 0, none⟩ = some (.string a0_0) ∧ w'.cell? ⟨gb499, 1, none⟩ = some (.int .i64 a0_1) ∧ w'.cell? ⟨gb499, 2, none⟩ = some (.slice (some ad503) l0_2.length c0_2) ∧ w'.cell? ⟨gb500, 0, none⟩ = some (.string a1_0) ∧ w'.cell? ⟨gb500, 1, none⟩ = some (.int .i64 a1_1) ∧ w'.cell? ⟨gb500, 2, none⟩ = some (.slice (some ad504) l1_2.length c1_2) ∧ w'.cell? (ad503.add ((x5_2).toNat * 5)) = some (.int .i64 ((rd_T64 l0_2 x5_2).f0)) ∧ w'.cell? ⟨(ad503.add ((x5_2).toNat * 5)).block, (ad503.add ((x5_2).toNat * 5)).off + 1, none⟩ = some (.int .i64 ((rd_T64 l0_2 x5_2).f1)) ∧ w'.cell? ⟨(ad503.add ((x5_2).toNat * 5)).block, (ad503.add ((x5_2).toNat * 5)).off + 2, none⟩ = some (.int .i64 ((rd_T64 l0_2 x5_2).f2)) ∧ w'.cell? ⟨(ad503.add ((x5_2).toNat * 5)).block, (ad503.add ((x5_2).toNat * 5)).off + 3, none⟩ = some (.string ((rd_T64 l0_2 x5_2).f3)) ∧ w'.cell? ⟨(ad503.add ((x5_2).toNat * 5)).block, (ad503.add ((x5_2).toNat * 5)).off + 4, none⟩ = some (.int .i64 ((rd_T64 l0_2 x5_2).f4)) ∧ w'.cell? (ad504.add ((x6_3).toNat * 5)) = some (.int .i64 ((rd_T64 l1_2 x6_3).f0)) ∧ w'.cell? ⟨(ad504.add ((x6_3).toNat * 5)).block, (ad504.add ((x6_3).toNat * 5)).off + 1, none⟩ = some (.int .i64 ((rd_T64 l1_2 x6_3).f1)) ∧ w'.cell? ⟨(ad504.add ((x6_3).toNat * 5)).block, (ad504.add ((x6_3).toNat * 5)).off + 2, none⟩ = some (.int .i64 ((rd_T64 l1_2 x6_3).f2)) ∧ w'.cell? ⟨(ad504.add ((x6_3).toNat * 5)).block, (ad504.add ((x6_3).toNat * 5)).off + 3, none⟩ = some (.string ((rd_T64 l1_2 x6_3).f3)) ∧ w'.cell? ⟨(ad504.add ((x6_3).toNat * 5)).block, (ad504.add ((x6_3).toNat * 5)).off + 4, none⟩ = some (.int .i64 ((rd_T64 l1_2 x6_3).f4))) (ds := []) #[false, false, false, false, false, false, false, false, false, false, false, false, false, false, false, false, false, false, false, false, false, false, false, false, false, false] (by kernel_rfl) rfl rfl ⟨(blk_cell BK499.out 0).trans rfl, (blk_cell BK499.out 1).trans rfl, (blk_cell BK499.out 2).trans rfl, (blk_cell BK500.out 0).trans rfl, (blk_cell BK500.out 1).trans rfl, (blk_cell BK500.out 2).trans rfl, ((HB.out.cell (World.block_lt_of_cell? w _ hw503_0)).trans hw503_0), ((HB.out.cell (World.block_lt_of_cell? w _ hw503_1)).trans hw503_1), ((HB.out.cell (World.block_lt_of_cell? w _ hw503_2)).trans hw503_2), ((HB.out.cell (World.block_lt_of_cell? w _ hw503_3)).trans hw503_3), ((HB.out.cell (World.block_lt_of_cell? w _ hw503_4)).trans hw503_4), ((HB.out.cell (World.block_lt_of_cell? w _ hw504_0)).trans hw504_0), ((HB.out.cell (World.block_lt_of_cell? w _ hw504_1)).trans hw504_1), ((HB.out.cell (World.block_lt_of_cell? w _ hw504_2)).trans hw504_2), ((HB.out.cell (World.block_lt_of_cell? w _ hw504_3)).trans hw504_3), ((HB.out.cell (World.block_lt_of_cell? w _ hw504_4)).trans hw504_4)⟩ (fun hHeld => ?_); refine with_tabW strongroomref13_Follows.tab9 strongroomref13_Follows.bits9 (fun HT_ HW_ => ?_)
              generalize wr.drew = w43 at BK499 BK500 HB hx503_0 hx503_1 hx503_2 hx503_3 hx503_4 hx504_0 hx504_1 hx504_2 hx504_3 hx504_4 hHeld ⊢
              refine pure_ (i := 0) (N := some 37) (v := ?_) (a' := ?_) #[true, false, false, false, false, false, false, false, false, false, false, false, false, false, false, false, false, false, false, false, false, false, false, false, false, false] rfl rfl (any_of HT_.out (by kernel_rfl)) (fun _ _ _ h => h) (Or.inl ⟨by rfl, ?_⟩) ?_ ?_
              rotate_left
              ·intro w'
               go_simp
               with_reducible rfl
              rotate_left
              ·simp only [Act.put, List.setIfInBounds_toArray, List.set_cons_zero, List.set_cons_succ, i64_w, i32_w]
               rfl
              refine pure_ (i := 2) (N := some 39) (v := ?_) (a' := ?_) #[true, false, true, false, false, false, false, false, false, false, false, false, false, false, false, false, false, false, false, false, false, false, false, false, false, false] rfl rfl (any_of HT_.out (by kernel_rfl)) (fun _ _ _ h => h) (Or.inl ⟨by rfl, ?_⟩) ?_ ?_
              rotate_left
              ·intro w'
               go_simp
               with_reducible rfl
              rotate_left
              ·simp only [Act.put, List.setIfInBounds_toArray, List.set_cons_zero, List.set_cons_succ, i64_w, i32_w]
               rfl
              refine pure_ (i := 6) (N := some 43) (v := ?_) (a' := ?_) #[true, false, true, false, false, false, true, false, false, false, false, false, false, false, false, false, false, false, false, false, false, false, false, false, false, false] rfl rfl (any_of HT_.out (by kernel_rfl)) (fun _ _ _ h => h) (Or.inl ⟨by rfl, ?_⟩) ?_ ?_
              rotate_left
              ·intro w'
               go_simp
               with_reducible rfl
              rotate_left
              ·simp only [Act.put, List.setIfInBounds_toArray, List.set_cons_zero, List.set_cons_succ, i64_w, i32_w]
               rfl
              refine pure_ (i := 8) (N := some 45) (v := ?_) (a' := ?_) #[true, false, true, false, false, false, true, false, true, false, false, false, false, false, false, false, false, false, false, false, false, false, false, false, false, false] rfl rfl (any_of HT_.out (by kernel_rfl)) (fun _ _ _ h => h) (Or.inl ⟨by rfl, ?_⟩) ?_ ?_
              rotate_left
              ·intro w'
               go_simp
               with_reducible rfl
              rotate_left
              ·simp only [Act.put, List.setIfInBounds_toArray, List.set_cons_zero, List.set_cons_succ, i64_w, i32_w]
               rfl
              refine take_ (i := 1) (N := some 38) (v := ?_) (a' := ?_) #[true, true, true, false, false, false, true, false, true, false, false, false, false, false, false, false, false, false, false, false, false, false, false, false, false, false] rfl rfl (take_ofW HT_.out HW_.out (by kernel_rfl)) (fun _ _ _ h => h) (Or.inl ⟨by rfl, ?_⟩) hHeld ?_ ?_
              rotate_left
              ·rintro w' ⟨s0, s1, s2, s3, s4, s5, s6, s7, s8, s9, s10, s11, s12, s13, s14, s15⟩
               go_simp
               with_reducible rfl
              rotate_left
              ·simp only [Act.put, List.setIfInBounds_toArray, List.set_cons_zero, List.set_cons_succ, i64_w, i32_w]
               rfl
              refine pure_ (i := 3) (N := some 40) (v := ?_) (a' := ?_) #[true, true, true, true, false, false, true, false, true, false, false, false, false, false, false, false, false, false, false, false, false, false, false, false, false, false] rfl rfl (any_of HT_.out (by kernel_rfl)) (fun _ _ _ h => h) (Or.inl ⟨by rfl, ?_⟩) ?_ ?_
              rotate_left
              ·intro w'
               go_simp
               with_reducible rfl
              rotate_left
              ·simp only [Act.put, List.setIfInBounds_toArray, List.set_cons_zero, List.set_cons_succ, i64_w, i32_w]
               rfl
              refine pure_ (i := 4) (N := some 41) (v := ?_) (a' := ?_) #[true, true, true, true, true, false, true, false, true, false, false, false, false, false, false, false, false, false, false, false, false, false, false, false, false, false] rfl rfl (any_of HT_.out (by kernel_rfl)) (fun _ _ _ h => h) (Or.inl ⟨by rfl, ?_⟩) ?_ ?_
              rotate_left
              ·intro w'
               go_simp
               with_reducible rfl
              rotate_left
              ·simp only [Act.put, List.setIfInBounds_toArray, List.set_cons_zero, List.set_cons_succ, i64_w, i32_w]
               rfl
              refine take_ (i := 5) (N := some 42) (v := ?_) (a' := ?_) #[true, true, true, true, true, true, true, false, true, false, false, false, false, false, false, false, false, false, false, false, false, false, false, false, false, false] rfl rfl (take_ofW HT_.out HW_.out (by kernel_rfl)) (fun _ _ _ h => h) (Or.inl ⟨by rfl, ?_⟩) hHeld ?_ ?_
              rotate_left
              ·rintro w' ⟨s0, s1, s2, s3, s4, s5, s6, s7, s8, s9, s10, s11, s12, s13, s14, s15⟩
               go_simp
               with_reducible rfl
              rotate_left
              ·simp only [Act.put, List.setIfInBounds_toArray, List.set_cons_zero, List.set_cons_succ, i64_w, i32_w]
               rfl
              refine take_ (i := 7) (N := some 44) (v := ?_) (a' := ?_) #[true, true, true, true, true, true, true, true, true, false, false, false, false, false, false, false, false, false, false, false, false, false, false, false, false, false] rfl rfl (take_ofW HT_.out HW_.out (by kernel_rfl)) (fun _ _ _ h => h) (Or.inl ⟨by rfl, ?_⟩) hHeld ?_ ?_
              rotate_left
              ·rintro w' ⟨s0, s1, s2, s3, s4, s5, s6, s7, s8, s9, s10, s11, s12, s13, s14, s15⟩
               go_simp
               with_reducible rfl
              rotate_left
              ·simp only [Act.put, List.setIfInBounds_toArray, List.set_cons_zero, List.set_cons_succ, i64_w, i32_w]
               rfl
              refine pure_ (i := 9) (N := some 46) (v := ?_) (a' := ?_) #[true, true, true, true, true, true, true, true, true, true, false, false, false, false, false, false, false, false, false, false, false, false, false, false, false, false] rfl rfl (any_of HT_.out (by kernel_rfl)) (fun _ _ _ h => h) (Or.inl ⟨by rfl, ?_⟩) ?_ ?_
              rotate_left
              ·intro w'
               go_simp
               with_reducible rfl
              rotate_left
              ·simp only [Act.put, List.setIfInBounds_toArray, List.set_cons_zero, List.set_cons_succ, i64_w, i32_w]
               rfl
              refine pure_ (i := 10) (N := some 47) (v := ?_) (a' := ?_) #[true, true, true, true, true, true, true, true, true, true, true, false, false, false, false, false, false, false, false, false, false, false, false, false, false, false] rfl rfl (any_of HT_.out (by kernel_rfl)) (fun _ _ _ h => h) (Or.inl ⟨by rfl, ?_⟩) ?_ ?_
              rotate_left
              ·intro w'
               go_simp
               with_reducible rfl
              rotate_left
              ·simp only [Act.put, List.setIfInBounds_toArray, List.set_cons_zero, List.set_cons_succ, i64_w, i32_w]
               rfl
              refine take_ (i := 11) (N := some 48) (v := ?_) (a' := ?_) #[true, true, true, true, true, true, true, true, true, true, true, true, false, false, false, false, false, false, false, false, false, false, false, false, false, false] rfl rfl (take_ofW HT_.out HW_.out (by kernel_rfl)) (fun _ _ _ h => h) (Or.inl ⟨by rfl, ?_⟩) hHeld ?_ ?_
              rotate_left
              ·rintro w' ⟨s0, s1, s2, s3, s4, s5, s6, s7, s8, s9, s10, s11, s12, s13, s14, s15⟩
               go_simp
               with_reducible rfl
              rotate_left
              ·simp only [Act.put, List.setIfInBounds_toArray, List.set_cons_zero, List.set_cons_succ, i64_w, i32_w]
               rfl
              refine pure_ (i := 12) (N := some 49) (v := ?_) (a' := ?_) #[true, true, true, true, true, true, true, true, true, true, true, true, true, false, false, false, false, false, false, false, false, false, false, false, false, false] rfl rfl (any_of HT_.out (by kernel_rfl)) (fun _ _ _ h => h) (Or.inl ⟨by rfl, ?_⟩) ?_ ?_
              rotate_left
              ·intro w'
               go_simp
               with_reducible rfl
              rotate_left
              ·simp only [Act.put, List.setIfInBounds_toArray, List.set_cons_zero, List.set_cons_succ, i64_w, i32_w]
               rfl
              refine pure_ (i := 13) (N := some 50) (v := ?_) (a' := ?_) #[true, true, true, true, true, true, true, true, true, true, true, true, true, true, false, false, false, false, false, false, false, false, false, false, false, false] rfl rfl (any_of HT_.out (by kernel_rfl)) (fun _ _ _ h => h) (Or.inl ⟨by rfl, ?_⟩) ?_ ?_
              rotate_left
              ·intro w'
               go_simp
               with_reducible rfl
              rotate_left
              ·simp only [Act.put, List.setIfInBounds_toArray, List.set_cons_zero, List.set_cons_succ, i64_w, i32_w]
               rfl
              refine pure_ (i := 14) (N := some 51) (v := undef) (a' := ?_) #[true, true, true, true, true, true, true, true, true, true, true, true, true, true, true, false, false, false, false, false, false, false, false, false, false, false] rfl rfl (any_of HT_.out (by kernel_rfl)) (fun _ _ _ h => h) (Or.inr ⟨by rfl, rfl⟩) ?_ ?_
              rotate_left
              ·simp only [Act.put, List.setIfInBounds_toArray, List.set_cons_zero, List.set_cons_succ, i64_w, i32_w]
               rfl
              refine pure_ (i := 15) (N := some 52) (v := undef) (a' := ?_) #[true, true, true, true, true, true, true, true, true, true, true, true, true, true, true, true, false, false, false, false, false, false, false, false, false, false] rfl rfl (any_of HT_.out (by kernel_rfl)) (fun _ _ _ h => h) (Or.inr ⟨by rfl, rfl⟩) ?_ ?_
              rotate_left
              ·simp only [Act.put, List.setIfInBounds_toArray, List.set_cons_zero, List.set_cons_succ, i64_w, i32_w]
               rfl
              refine pure_ (i := 16) (N := some 53) (v := undef) (a' := ?_) #[true, true, true, true, true, true, true, true, true, true, true, true, true, true, true, true, true, false, false, false, false, false, false, false, false, false] rfl rfl (any_of HT_.out (by kernel_rfl)) (fun _ _ _ h => h) (Or.inr ⟨by rfl, rfl⟩) ?_ ?_
              rotate_left
              ·simp only [Act.put, List.setIfInBounds_toArray, List.set_cons_zero, List.set_cons_succ, i64_w, i32_w]
               rfl
              refine pure_ (i := 17) (N := some 54) (v := undef) (a' := ?_) #[true, true, true, true, true, true, true, true, true, true, true, true, true, true, true, true, true, true, false, false, false, false, false, false, false, false] rfl rfl (any_of HT_.out (by kernel_rfl)) (fun _ _ _ h => h) (Or.inr ⟨by rfl, rfl⟩) ?_ ?_
              rotate_left
              ·simp only [Act.put, List.setIfInBounds_toArray, List.set_cons_zero, List.set_cons_succ, i64_w, i32_w]
               rfl
              refine pure_ (i := 18) (N := some 55) (v := undef) (a' := ?_) #[true, true, true, true, true, true, true, true, true, true, true, true, true, true, true, true, true, true, true, false, false, false, false, false, false, false] rfl rfl (any_of HT_.out (by kernel_rfl)) (fun _ _ _ h => h) (Or.inr ⟨by rfl, rfl⟩) ?_ ?_
              rotate_left
              ·simp only [Act.put, List.setIfInBounds_toArray, List.set_cons_zero, List.set_cons_succ, i64_w, i32_w]
               rfl
              refine pure_ (i := 19) (N := some 56) (v := undef) (a' := ?_) #[true, true, true, true, true, true, true, true, true, true, true, true, true, true, true, true, true, true, true, true, false, false, false, false, false, false] rfl rfl (any_of HT_.out (by kernel_rfl)) (fun _ _ _ h => h) (Or.inr ⟨by rfl, rfl⟩) ?_ ?_
              rotate_left
              ·simp only [Act.put, List.setIfInBounds_toArray, List.set_cons_zero, List.set_cons_succ, i64_w, i32_w]
               rfl
              refine pure_ (i := 20) (N := some 57) (v := undef) (a' := ?_) #[true, true, true, true, true, true, true, true, true, true, true, true, true, true, true, true, true, true, true, true, true, false, false, false, false, false] rfl rfl (any_of HT_.out (by kernel_rfl)) (fun _ _ _ h => h) (Or.inr ⟨by rfl, rfl⟩) ?_ ?_
              rotate_left
              ·simp only [Act.put, List.setIfInBounds_toArray, List.set_cons_zero, List.set_cons_succ, i64_w, i32_w]
               rfl
              refine pure_ (i := 21) (N := some 58) (v := undef) (a' := ?_) #[true, true, true, true, true, true, true, true, true, true, true, true, true, true, true, true, true, true, true, true, true, true, false, false, false, false] rfl rfl (any_of HT_.out (by kernel_rfl)) (fun _ _ _ h => h) (Or.inr ⟨by rfl, rfl⟩) ?_ ?_
              rotate_left
              ·simp only [Act.put, List.setIfInBounds_toArray, List.set_cons_zero, List.set_cons_succ, i64_w, i32_w]
               rfl
              refine pure_ (i := 22) (N := some 59) (v := undef) (a' := ?_) #[true, true, true, true, true, true, true, true, true, true, true, true, true, true, true, true, true, true, true, true, true, true, true, false, false, false] rfl rfl (any_of HT_.out (by kernel_rfl)) (fun _ _ _ h => h) (Or.inr ⟨by rfl, rfl⟩) ?_ ?_
              rotate_left
              ·simp only [Act.put, List.setIfInBounds_toArray, List.set_cons_zero, List.set_cons_succ, i64_w, i32_w]
               rfl
              refine pure_ (i := 23) (N := some 60) (v := undef) (a' := ?_) #[true, true, true, true, true, true, true, true, true, true, true, true, true, true, true, true, true, true, true, true, true, true, true, true, false, false] rfl rfl (any_of HT_.out (by kernel_rfl)) (fun _ _ _ h => h) (Or.inr ⟨by rfl, rfl⟩) ?_ ?_
              rotate_left
              ·simp only [Act.put, List.setIfInBounds_toArray, List.set_cons_zero, List.set_cons_succ, i64_w, i32_w]
               rfl
              refine pure_ (i := 24) (N := some 61) (v := undef) (a' := ?_) #[true, true, true, true, true, true, true, true, true, true, true, true, true, true, true, true, true, true, true, true, true, true, true, true, true, false] rfl rfl (any_of HT_.out (by kernel_rfl)) (fun _ _ _ h => h) (Or.inr ⟨by rfl, rfl⟩) ?_ ?_
              rotate_left
              ·simp only [Act.put, List.setIfInBounds_toArray, List.set_cons_zero, List.set_cons_succ, i64_w, i32_w]
               rfl
              refine pure_ (i := 25) (N := some 62) (v := ?_) (a' := ?_) #[true, true, true, true, true, true, true, true, true, true, true, true, true, true, true, true, true, true, true, true, true, true, true, true, true, true] rfl rfl (any_of HT_.out (by kernel_rfl)) (fun _ _ _ h => h) (Or.inl ⟨by rfl, ?_⟩) ?_ ?_
              rotate_left
              ·intro w'
               go_simp
               with_reducible rfl
              rotate_left
              ·simp only [Act.put, List.setIfInBounds_toArray, List.set_cons_zero, List.set_cons_succ, i64_w, i32_w]
               rfl
              refine done_ (done_of HT_.out (by kernel_rfl)) ?_
              try go_wp2
              go_roundg k3
              case measure => have := HJ2.out; have := HK2.out; have := HK3.out; omega
              case rel => exact ⟨(wrap64 (x6_3 + 1)), (by first | rfl | (simp; done) | (simp [*]; done)), H', ⟨by have := HJ2.out; have := HK2.out; have := HK3.out; omega⟩, ⟨by (with_reducible repeat (first | refine blk_drewN ?_ _ | refine blk_drew ?_ | refine blk_alloc ?_ _)); exact BK499.out⟩, ⟨by (with_reducible repeat (first | refine blk_drewN ?_ _ | refine blk_drew ?_ | refine blk_alloc ?_ _)); exact BK500.out⟩, ⟨by repeat (first | (with_reducible first | exact HB.out | apply below_alloc | apply pw_below_drewN | apply below_drew1 | refine below_set ?_ GE499.out | refine below_set ?_ GE500.out) | exact HB.out)⟩⟩
            ·rw [if_neg c32] at H
             exact absurd H (by simp)
           ·rw [if_neg c31] at H
            exact absurd H (by simp)
          ·rw [if_neg c30] at H
           exact absurd H (by simp)
         ·rw [if_neg c29] at H
          have c29b0 : decide (x6_3 < (l1_2.length : Int)) = false := decide_eq_false c29
          clear c29
          have H' := Aside0.mk H
          clear H
          have hnb44 := NB500_499.out
          have hnc44 := NB499_500.out
          have hcz45_0 : wr.cell? ⟨gb500, 0, none⟩ = some (.string a1_0) := (blk_cell BK500.out 0).trans rfl
          have hcz45_1 : wr.cell? ⟨gb500, 1, none⟩ = some (.int .i64 a1_1) := (blk_cell BK500.out 1).trans rfl
          have hcz45_2 : wr.cell? ⟨gb500, 2, none⟩ = some (.slice A1_2 l1_2.length c1_2) := (blk_cell BK500.out 2).trans rfl
          have hfz45_0 := blk_frozen BK500.out 0
          have hfz45_1 := blk_frozen BK500.out 1
          have hfz45_2 := blk_frozen BK500.out 2
          go_wp2
          go_roundg k3
          case measure => have := HJ2.out; have := HK2.out; have := HK3.out; omega
          case rel => exact ⟨(wrap64 (x5_2 + 1)), (by first | rfl | (simp; done) | (simp [*]; done)), H', ⟨by have := HJ2.out; have := HK2.out; have := HK3.out; omega⟩, ⟨by (with_reducible repeat (first | refine blk_drewN ?_ _ | refine blk_drew ?_ | refine blk_alloc ?_ _)); exact BK499.out⟩, ⟨by (with_reducible repeat (first | refine blk_drewN ?_ _ | refine blk_drew ?_ | refine blk_alloc ?_ _)); exact BK500.out⟩, ⟨by repeat (first | (with_reducible first | exact HB.out | apply below_alloc | apply pw_below_drewN | apply below_drew1 | refine below_set ?_ GE499.out | refine below_set ?_ GE500.out) | exact HB.out)⟩⟩
      ·rw [if_neg c26] at H
       have c26b0 : decide (x5_2 < (l0_2.length : Int)) = false := decide_eq_false c26
       clear c26
       have H' := Aside0.mk H
       clear H
       have hnb46 := NB499_500.out
       have hnc46 := NB500_499.out
       have hcz47_0 : wr.cell? ⟨gb499, 0, none⟩ = some (.string a0_0) := (blk_cell BK499.out 0).trans rfl
       have hcz47_1 : wr.cell? ⟨gb499, 1, none⟩ = some (.int .i64 a0_1) := (blk_cell BK499.out 1).trans rfl
       have hcz47_2 : wr.cell? ⟨gb499, 2, none⟩ = some (.slice A0_2 l0_2.length c0_2) := (blk_cell BK499.out 2).trans rfl
       have hfz47_0 := blk_frozen BK499.out 0
       have hfz47_1 := blk_frozen BK499.out 1
       have hfz47_2 := blk_frozen BK499.out 2
       go_wp2
       go_loopg [7] k2 (fun kq v7 w' => ∃ (x7_3 : Int), v7 = .int .i64 x7_3 ∧ Aside0 (strongroomref13_Follows.l2 kq x7_3 a0_0 a0_1 l0_2 a1_0 a1_1 l1_2 = some r) ∧ Aside0 (kq ≤ k2) ∧ Aside0 (w'.heap[gb499]? = some (.cells #[.string a0_0, .int .i64 a0_1, (.slice A0_2 l0_2.length c0_2)] 54 (0, 0))) ∧ Aside0 (w'.heap[gb500]? = some (.cells #[.string a1_0, .int .i64 a1_1, (.slice A1_2 l1_2.length c1_2)] 54 (0, 0))) ∧ Aside0 (Below w.heap.size w w'))
       case atStart => exact ⟨(0), (by first | rfl | (simp; done) | (simp [*]; done)), H', ⟨Nat.le_refl _⟩, ⟨by (with_reducible repeat (first | refine blk_drewN ?_ _ | refine blk_drew ?_ | refine blk_alloc ?_ _)); exact BK499.out⟩, ⟨by (with_reducible repeat (first | refine blk_drewN ?_ _ | refine blk_drew ?_ | refine blk_alloc ?_ _)); exact BK500.out⟩, ⟨by repeat (first | (with_reducible first | exact HB.out | apply below_alloc | apply pw_below_drewN | apply below_drew1 | refine below_set ?_ GE499.out | refine below_set ?_ GE500.out) | exact HB.out)⟩⟩
       case round =>
        clear H'
        try clear c1
        try clear c2
        try clear p2
        try clear c3
        try clear c4
        try clear p5
        try clear q5
        try clear hx5
        try clear p6
        try clear c26
        try clear c26b0
        try clear c29
        try clear c29b0
        try clear c30
        try clear c31
        try clear c32
        try clear c33
        try clear c33b0
        try clear c33b1
        try clear c34
        try clear c34b0
        try clear c38
        try clear c41
        try clear c44
        try clear c46
        try clear hcz39_0
        try clear hcz39_1
        try clear hcz39_2
        try clear hcz42_0
        try clear hcz42_1
        try clear hcz42_2
        try clear hcz45_0
        try clear hcz45_1
        try clear hcz45_2
        try clear hcz47_0
        try clear hcz47_1
        try clear hcz47_2
        try clear hfz39_0
        try clear hfz39_1
        try clear hfz39_2
        try clear hfz42_0
        try clear hfz42_1
        try clear hfz42_2
        try clear hfz45_0
        try clear hfz45_1
        try clear hfz45_2
        try clear hfz47_0
        try clear hfz47_1
        try clear hfz47_2
        try clear hx503_0
        try clear hx503_1
        try clear hx503_2
        try clear hx503_3
        try clear hx503_4
        try clear hx504_0
        try clear hx504_1
        try clear hx504_2
        try clear hx504_3
        try clear hx504_4
        try clear hx505_0
        try clear hx505_1
        try clear hx505_2
        try clear hx505_3
        try clear hx505_4
        try clear hx506_0
        try clear hx506_1
        try clear hx506_2
        try clear hx506_3
        try clear hx506_4
        try clear p503
        try clear p504
        try clear p505
        try clear p506
        try clear q503
        try clear q504
        try clear q505
        try clear q506
        obtain ⟨x7_3, rfl, HA, HK3, BK499, BK500, HB⟩ := hrel
        cases gk with
        | zero => exact absurd HA.out (by simp [strongroomref13_Follows.l2])
        | succ k3 =>
         have H := HA.out
         clear HA
         simp only [strongroomref13_Follows.l2] at H
         by_cases c48 : x7_3 ≤ (l1_2.length : Int)
         ·rw [if_pos c48] at H
          have c48b0 : decide (x7_3 ≤ (l1_2.length : Int)) = true := decide_eq_true c48
          clear c48
          by_cases c49 : (wrap64 ((wrap64 (a1_1 - (l1_2.length : Int))) + x7_3)) = a0_1
          ·rw [if_pos c49] at H
           have c49b0 : ((wrap64 ((wrap64 (a1_1 - (l1_2.length : Int))) + x7_3)) == a0_1) = true := beq_iff_eq.mpr c49
           have c49b1 : ((wrap64 ((wrap64 (a1_1 - (l1_2.length : Int))) + x7_3)) != a0_1) = false := bne_eq_false_iff_eq.mpr c49
           clear c49
           replace H := Option.bind_eq_some_iff.mp H
           obtain ⟨t507, A500, H⟩ := H
           replace H : (if 0 ≤ x7_3 then ((strongroomref13_Chain.f k3 a1_0 (l1_2.take (x7_3 : Int).toNat)).bind fun t512 => (some (t507.toList == t512.toList))) else (none)) = some r := H
           have A50 := Aside0.mk A500
           clear A500
           by_cases c51 : 0 ≤ x7_3
           ·rw [if_pos c51] at H
            have c51b0 := eq_true c51
            have c51b1 : decide (0 ≤ x7_3) = true := decide_eq_true c51
            clear c51
            have c52b0 := eq_true (of_decide_eq_true (by first | (with_reducible assumption) | assumption) : x7_3 ≤ (l1_2.length : Int))
            obtain ⟨y508, hy508⟩ : ∃ y_ : List (S64), y_ = (l1_2.take (x7_3 : Int).toNat) := ⟨_, rfl⟩
            replace H : ((strongroomref13_Chain.f k3 a1_0 y508).bind fun t512 => (some (t507.toList == t512.toList))) = some r := by first | (rw [hy508]; with_reducible exact H) | (have H2_ := (Option.bind_some _ _).symm.trans H; rw [hy508]; with_reducible exact H2_) | (have H2_ := (Option.bind_some _ _).symm.trans H; with_reducible exact H2_) | with_reducible exact H | (rw [hy508]; exact H) | exact H
            have Ny508 := Aside0.mk hy508
            clear hy508
            replace H := Option.bind_eq_some_iff.mp H
            obtain ⟨t512, A530, H⟩ := H
            replace H : (some (t507.toList == t512.toList)) = some r := H
            have A53 := Aside0.mk A530
            clear A530
            obtain rfl := Option.some.inj H
            have hnb54 := NB500_499.out
            have hnc54 := NB499_500.out
            have hcz55_0 : wr.cell? ⟨gb500, 0, none⟩ = some (.string a1_0) := (blk_cell BK500.out 0).trans rfl
            have hcz55_1 : wr.cell? ⟨gb500, 1, none⟩ = some (.int .i64 a1_1) := (blk_cell BK500.out 1).trans rfl
            have hcz55_2 : wr.cell? ⟨gb500, 2, none⟩ = some (.slice A1_2 l1_2.length c1_2) := (blk_cell BK500.out 2).trans rfl
            have hfz55_0 := blk_frozen BK500.out 0
            have hfz55_1 := blk_frozen BK500.out 1
            have hfz55_2 := blk_frozen BK500.out 2
            have hcz56_0 : wr.cell? ⟨gb499, 0, none⟩ = some (.string a0_0) := (blk_cell BK499.out 0).trans rfl
            have hcz56_1 : wr.cell? ⟨gb499, 1, none⟩ = some (.int .i64 a0_1) := (blk_cell BK499.out 1).trans rfl
            have hcz56_2 : wr.cell? ⟨gb499, 2, none⟩ = some (.slice A0_2 l0_2.length c0_2) := (blk_cell BK499.out 2).trans rfl
            have hfz56_0 := blk_frozen BK499.out 0
            have hfz56_1 := blk_frozen BK499.out 1
            have hfz56_2 := blk_frozen BK499.out 2
            try go_wp2
            have n0_ := Aside0.mk (blk_drew BK499.out)
            have n1_ := Aside0.mk (blk_drew BK500.out)
            have n2_ := Aside0.mk (below_drew1 HB.out)
            clear BK499
            clear BK500
            clear HB
            have BK499 := n0_
            have BK500 := n1_
            have HB := n2_
            clear n0_ n1_ n2_
            have q58 : (x7_3 : Int) ≤ ((l1_2.length : Int) : Int) := of_decide_eq_true (by first | (with_reducible assumption) | assumption)
            obtain ⟨i058, hi058, _, hsz58, _⟩ := info_parts info64
            have hroom58 : l1_2.length ≤ c1_2 := HC1_2.out
            have hC58 : Kd.C k64 _ A1_2 l1_2.length l1_2 := HR1_2.out
            have hcut58 := cut_to (P := Try.prog) 52 64 .i64 Try.underlying52 hi058 A1_2 l1_2.length c1_2 x7_3 (of_decide_eq_true (by first | (with_reducible assumption) | assumption)) q58 hroom58
            have hr58 := Kd.C_take (m := (x7_3 : Int).toNat) hC58 (by omega)
            have hy58 : y508.length = (x7_3 : Int).toNat := (by rw [Ny508.out, List.length_take]; omega)
            rw [← Ny508.out] at hr58
            rw [← hy58] at hcut58
            have HR511 := Aside0.mk hr58
            have HC511 := Aside0.mk (show y508.length ≤ c1_2 from by omega)
            clear hr58 hC58 hroom58 hi058 hsz58
            have KY58 := Aside0.mk hy58
            clear hy58
            replace q58 := eq_true q58
            refine start_ (n := 14) (S := fun w' => w'.cell? ⟨gb499, 0, none⟩ = some (.string a0_0) ∧ w'.cell? ⟨gb499, 1, none⟩ = some (.int .i64 a0_1) ∧ w'.cell? ⟨gb499, 2, none⟩ = some (.slice A0_2 l0_2.length c0_2) ∧ w'.cell? ⟨gb500, 0, none⟩ = some (.string a1_0) ∧ w'.cell? ⟨gb500, 1, none⟩ = some (.int .i64 a1_1) ∧ w'.cell? ⟨gb500, 2, none⟩ = some (.slice A1_2 l1_2.length c1_2)) (ds := []) #[false, false, false, false, false, false, false, false, false, false, false, false, false, false] (by kernel_rfl) rfl rfl ⟨(blk_cell BK499.out 0).trans rfl, (blk_cell BK499.out 1).trans rfl, (blk_cell BK499.out 2).trans rfl, (blk_cell BK500.out 0).trans rfl, (blk_cell BK500.out 1).trans rfl, (blk_cell BK500.out 2).trans rfl⟩ (fun hHeld => ?_); refine with_tabW strongroomref13_Follows.tab15 strongroomref13_Follows.bits15 (fun HT_ HW_ => ?_)
            generalize wr.drew = w57 at BK499 BK500 HB HR511 hHeld ⊢
            refine pure_ (i := 0) (N := some 81) (v := ?_) (a' := ?_) #[true, false, false, false, false, false, false, false, false, false, false, false, false, false] rfl rfl (any_of HT_.out (by kernel_rfl)) (fun _ _ _ h => h) (Or.inl ⟨by rfl, ?_⟩) ?_ ?_
            rotate_left
            ·intro w'
             go_simp
             with_reducible rfl
            rotate_left
            ·simp only [Act.put, List.setIfInBounds_toArray, List.set_cons_zero, List.set_cons_succ, i64_w, i32_w]
             rfl
            refine pure_ (i := 2) (N := some 83) (v := ?_) (a' := ?_) #[true, false, true, false, false, false, false, false, false, false, false, false, false, false] rfl rfl (any_of HT_.out (by kernel_rfl)) (fun _ _ _ h => h) (Or.inl ⟨by rfl, ?_⟩) ?_ ?_
            rotate_left
            ·intro w'
             go_simp
             with_reducible rfl
            rotate_left
            ·simp only [Act.put, List.setIfInBounds_toArray, List.set_cons_zero, List.set_cons_succ, i64_w, i32_w]
             rfl
            refine pure_ (i := 5) (N := some 86) (v := ?_) (a' := ?_) #[true, false, true, false, false, true, false, false, false, false, false, false, false, false] rfl rfl (any_of HT_.out (by kernel_rfl)) (fun _ _ _ h => h) (Or.inl ⟨by rfl, ?_⟩) ?_ ?_
            rotate_left
            ·intro w'
             go_simp
             with_reducible rfl
            rotate_left
            ·simp only [Act.put, List.setIfInBounds_toArray, List.set_cons_zero, List.set_cons_succ, i64_w, i32_w]
             rfl
            refine pure_ (i := 7) (N := some 88) (v := ?_) (a' := ?_) #[true, false, true, false, false, true, false, true, false, false, false, false, false, false] rfl rfl (any_of HT_.out (by kernel_rfl)) (fun _ _ _ h => h) (Or.inl ⟨by rfl, ?_⟩) ?_ ?_
            rotate_left
            ·intro w'
             go_simp
             with_reducible rfl
            rotate_left
            ·simp only [Act.put, List.setIfInBounds_toArray, List.set_cons_zero, List.set_cons_succ, i64_w, i32_w]
             rfl
            refine pure_ (i := 9) (N := some 90) (v := ?_) (a' := ?_) #[true, false, true, false, false, true, false, true, false, true, false, false, false, false] rfl rfl (any_of HT_.out (by kernel_rfl)) (fun _ _ _ h => h) (Or.inl ⟨by rfl, ?_⟩) ?_ ?_
            rotate_left
            ·intro w'
             go_simp
             with_reducible rfl
            rotate_left
            ·simp only [Act.put, List.setIfInBounds_toArray, List.set_cons_zero, List.set_cons_succ, i64_w, i32_w]
             rfl
            refine take_ (i := 1) (N := some 82) (v := ?_) (a' := ?_) #[true, true, true, false, false, true, false, true, false, true, false, false, false, false] rfl rfl (take_ofW HT_.out HW_.out (by kernel_rfl)) (fun _ _ _ h => h) (Or.inl ⟨by rfl, ?_⟩) hHeld ?_ ?_
            rotate_left
            ·rintro w' ⟨s0, s1, s2, s3, s4, s5⟩
             go_simp
             with_reducible rfl
            rotate_left
            ·simp only [Act.put, List.setIfInBounds_toArray, List.set_cons_zero, List.set_cons_succ, i64_w, i32_w]
             rfl
            refine take_ (i := 3) (N := some 84) (v := ?_) (a' := ?_) #[true, true, true, true, false, true, false, true, false, true, false, false, false, false] rfl rfl (take_ofW HT_.out HW_.out (by kernel_rfl)) (fun _ _ _ h => h) (Or.inl ⟨by rfl, ?_⟩) hHeld ?_ ?_
            rotate_left
            ·rintro w' ⟨s0, s1, s2, s3, s4, s5⟩
             go_simp
             with_reducible rfl
            rotate_left
            ·simp only [Act.put, List.setIfInBounds_toArray, List.set_cons_zero, List.set_cons_succ, i64_w, i32_w]
             rfl
            refine take_ (i := 6) (N := some 87) (v := ?_) (a' := ?_) #[true, true, true, true, false, true, true, true, false, true, false, false, false, false] rfl rfl (take_ofW HT_.out HW_.out (by kernel_rfl)) (fun _ _ _ h => h) (Or.inl ⟨by rfl, ?_⟩) hHeld ?_ ?_
            rotate_left
            ·rintro w' ⟨s0, s1, s2, s3, s4, s5⟩
             go_simp
             with_reducible rfl
            rotate_left
            ·simp only [Act.put, List.setIfInBounds_toArray, List.set_cons_zero, List.set_cons_succ, i64_w, i32_w]
             rfl
            refine take_ (i := 8) (N := some 89) (v := ?_) (a' := ?_) #[true, true, true, true, false, true, true, true, true, true, false, false, false, false] rfl rfl (take_ofW HT_.out HW_.out (by kernel_rfl)) (fun _ _ _ h => h) (Or.inl ⟨by rfl, ?_⟩) hHeld ?_ ?_
            rotate_left
            ·rintro w' ⟨s0, s1, s2, s3, s4, s5⟩
             go_simp
             with_reducible rfl
            rotate_left
            ·simp only [Act.put, List.setIfInBounds_toArray, List.set_cons_zero, List.set_cons_succ, i64_w, i32_w]
             rfl
            refine pure_ (i := 10) (N := some 91) (v := ?_) (a' := ?_) #[true, true, true, true, false, true, true, true, true, true, true, false, false, false] rfl rfl (any_of HT_.out (by kernel_rfl)) (fun _ _ _ h => h) (Or.inl ⟨by rfl, ?_⟩) ?_ ?_
            rotate_left
            ·intro w'
             go_simp
             with_reducible rfl
            rotate_left
            ·simp only [Act.put, List.setIfInBounds_toArray, List.set_cons_zero, List.set_cons_succ, i64_w, i32_w]
             rfl
            refine one_ (i := 4) (N := some 85) #[true, true, true, true, true, true, true, true, true, true, true, false, false, false] rfl rfl (one_of HT_.out (by kernel_rfl)) (by decide) (fun K hK => ?_)
            refine goes_ Try.func45 (by kernel_rfl) rfl #[.string a0_0, .slice A0_2 l0_2.length c0_2] (by rfl) rfl rfl (by (try simp only [List.map_toArray, List.map_cons, List.map_nil]); first | done | rfl | (simp only [List.length_drop, List.length_take]; rfl)) ?_
            with_reducible refine (strongroomref13_Chain.calls k3 a0_0 _ _ l0_2 t507 _ ?side1 ?side2 A50.out).mono ?_
            (case side1 => repeat (first | exact (Kd.C_below HR0_2.out HB.out) | (with_reducible refine Kd.C_alloc ?_ _) | (with_reducible refine Kd.C_drewN ?_ _) | (with_reducible refine Kd.C_drew ?_)))
            (case side2 => exact HC0_2.out)
            rintro e w59 ⟨rfl, hb⟩
            refine ⟨_, rfl, ?_⟩
            have n0_ := Aside0.mk (blk_below (g := gb499) (o := .cells #[.string a0_0, .int .i64 a0_1, .slice A0_2 l0_2.length c0_2] 54 (0, 0)) (by (with_reducible repeat (first | refine blk_drewN ?_ _ | refine blk_drew ?_ | refine blk_alloc ?_ _)); exact BK499.out) hb)
            have n1_ := Aside0.mk (blk_below (g := gb500) (o := .cells #[.string a1_0, .int .i64 a1_1, .slice A1_2 l1_2.length c1_2] 54 (0, 0)) (by (with_reducible repeat (first | refine blk_drewN ?_ _ | refine blk_drew ?_ | refine blk_alloc ?_ _)); exact BK500.out) hb)
            have n2_ := Aside0.mk (below_step (by repeat (first | (with_reducible first | exact HB.out | apply below_alloc | apply pw_below_drewN | apply below_drew1 | refine below_set ?_ GE499.out | refine below_set ?_ GE500.out) | exact HB.out)) hb)
            clear BK499
            clear BK500
            clear HB
            have BK499 := n0_
            have BK500 := n1_
            have HB := n2_
            clear n0_ n1_ n2_
            (try clear hb)
            (try clear hb2)
            (try clear hk)
            (try clear hi)
            refine hK.out _ _ ⟨(blk_cell BK499.out 0).trans rfl, (blk_cell BK499.out 1).trans rfl, (blk_cell BK499.out 2).trans rfl, (blk_cell BK500.out 0).trans rfl, (blk_cell BK500.out 1).trans rfl, (blk_cell BK500.out 2).trans rfl⟩ (fun hHeld => ?_)
            clear hK K
            refine norm_ (a' := ?_) ?_ ?_
            rotate_left
            ·show Act.put _ (some 85) _ = _
             simp only [Act.put, List.setIfInBounds_toArray, List.set_cons_zero, List.set_cons_succ, i64_w, i32_w]
             rfl
            refine one_ (i := 11) (N := some 92) #[true, true, true, true, true, true, true, true, true, true, true, true, false, false] rfl rfl (one_of HT_.out (by kernel_rfl)) (by decide) (fun K hK => ?_)
            refine goes_ Try.func45 (by kernel_rfl) rfl #[.string a1_0, .slice A1_2 y508.length c1_2] (by rfl) rfl rfl (by (try simp only [List.map_toArray, List.map_cons, List.map_nil]); first | done | rfl | (simp only [List.length_drop, List.length_take]; rfl)) ?_
            with_reducible refine (strongroomref13_Chain.calls k3 a1_0 _ _ y508 t512 _ ?side1 ?side2 A53.out).mono ?_
            (case side1 => repeat (first | exact (Kd.C_below HR511.out HB.out) | (with_reducible refine Kd.C_alloc ?_ _) | (with_reducible refine Kd.C_drewN ?_ _) | (with_reducible refine Kd.C_drew ?_)))
            (case side2 => exact HC511.out)
            rintro e w60 ⟨rfl, hb⟩
            refine ⟨_, rfl, ?_⟩
            have n0_ := Aside0.mk (blk_below (g := gb499) (o := .cells #[.string a0_0, .int .i64 a0_1, .slice A0_2 l0_2.length c0_2] 54 (0, 0)) (by (with_reducible repeat (first | refine blk_drewN ?_ _ | refine blk_drew ?_ | refine blk_alloc ?_ _)); exact BK499.out) hb)
            have n1_ := Aside0.mk (blk_below (g := gb500) (o := .cells #[.string a1_0, .int .i64 a1_1, .slice A1_2 l1_2.length c1_2] 54 (0, 0)) (by (with_reducible repeat (first | refine blk_drewN ?_ _ | refine blk_drew ?_ | refine blk_alloc ?_ _)); exact BK500.out) hb)
            have n2_ := Aside0.mk (below_step (by repeat (first | (with_reducible first | exact HB.out | apply below_alloc | apply pw_below_drewN | apply below_drew1 | refine below_set ?_ GE499.out | refine below_set ?_ GE500.out) | exact HB.out)) hb)
            clear BK499
            clear BK500
            clear HB
            have BK499 := n0_
            have BK500 := n1_
            have HB := n2_
            clear n0_ n1_ n2_
            (try clear hb)
            (try clear hb2)
            (try clear hk)
            (try clear hi)
            refine hK.out _ _ ⟨(blk_cell BK499.out 0).trans rfl, (blk_cell BK499.out 1).trans rfl, (blk_cell BK499.out 2).trans rfl, (blk_cell BK500.out 0).trans rfl, (blk_cell BK500.out 1).trans rfl, (blk_cell BK500.out 2).trans rfl⟩ (fun hHeld => ?_)
            clear hK K
            refine norm_ (a' := ?_) ?_ ?_
            rotate_left
            ·show Act.put _ (some 92) _ = _
             simp only [Act.put, List.setIfInBounds_toArray, List.set_cons_zero, List.set_cons_succ, i64_w, i32_w]
             rfl
            refine pure_ (i := 12) (N := some 93) (v := ?_) (a' := ?_) #[true, true, true, true, true, true, true, true, true, true, true, true, true, false] rfl rfl (any_of HT_.out (by kernel_rfl)) (fun _ _ _ h => h) (Or.inl ⟨by rfl, ?_⟩) ?_ ?_
            rotate_left
            ·intro w'
             go_simp
             with_reducible rfl
            rotate_left
            ·simp only [Act.put, List.setIfInBounds_toArray, List.set_cons_zero, List.set_cons_succ, i64_w, i32_w]
             rfl
            refine pure_ (i := 13) (N := some 4) (v := ?_) (a' := ?_) #[true, true, true, true, true, true, true, true, true, true, true, true, true, true] rfl rfl (any_of HT_.out (by kernel_rfl)) (fun _ _ _ h => h) (Or.inl ⟨by rfl, ?_⟩) ?_ ?_
            rotate_left
            ·intro w'
             go_simp
             with_reducible rfl
            rotate_left
            ·simp only [Act.put, List.setIfInBounds_toArray, List.set_cons_zero, List.set_cons_succ, i64_w, i32_w]
             rfl
            refine done_ (done_of HT_.out (by kernel_rfl)) ?_
            try go_wp2
            go_ret
            exact ⟨by first | rfl | (simp [errW_none, errW_some] <;> rfl) | (simp [*, errW_none, errW_some] <;> rfl), by repeat (first | (with_reducible first | exact HB.out | apply below_alloc | apply pw_below_drewN | apply below_drew1 | refine below_set ?_ GE499.out | refine below_set ?_ GE500.out) | exact HB.out)⟩
           ·rw [if_neg c51] at H
            exact absurd H (by simp)
          ·rw [if_neg c49] at H
           have c49b0 : ((wrap64 ((wrap64 (a1_1 - (l1_2.length : Int))) + x7_3)) == a0_1) = false := beq_eq_false_iff_ne.mpr c49
           have c49b1 : ((wrap64 ((wrap64 (a1_1 - (l1_2.length : Int))) + x7_3)) != a0_1) = true := bne_iff_ne.mpr c49
           have H' := Aside0.mk H
           clear H
           have hnb61 := NB500_499.out
           have hnc61 := NB499_500.out
           have hcz62_0 : wr.cell? ⟨gb500, 0, none⟩ = some (.string a1_0) := (blk_cell BK500.out 0).trans rfl
           have hcz62_1 : wr.cell? ⟨gb500, 1, none⟩ = some (.int .i64 a1_1) := (blk_cell BK500.out 1).trans rfl
           have hcz62_2 : wr.cell? ⟨gb500, 2, none⟩ = some (.slice A1_2 l1_2.length c1_2) := (blk_cell BK500.out 2).trans rfl
           have hfz62_0 := blk_frozen BK500.out 0
           have hfz62_1 := blk_frozen BK500.out 1
           have hfz62_2 := blk_frozen BK500.out 2
           have hcz63_0 : wr.cell? ⟨gb499, 0, none⟩ = some (.string a0_0) := (blk_cell BK499.out 0).trans rfl
           have hcz63_1 : wr.cell? ⟨gb499, 1, none⟩ = some (.int .i64 a0_1) := (blk_cell BK499.out 1).trans rfl
           have hcz63_2 : wr.cell? ⟨gb499, 2, none⟩ = some (.slice A0_2 l0_2.length c0_2) := (blk_cell BK499.out 2).trans rfl
           have hfz63_0 := blk_frozen BK499.out 0
           have hfz63_1 := blk_frozen BK499.out 1
           have hfz63_2 := blk_frozen BK499.out 2
           go_wp2
           go_roundg k3
           case measure => have := HJ2.out; have := HK2.out; have := HK3.out; omega
           case rel => exact ⟨(wrap64 (x7_3 + 1)), (by first | rfl | (simp; done) | (simp [*]; done)), H', ⟨by have := HJ2.out; have := HK2.out; have := HK3.out; omega⟩, ⟨by (with_reducible repeat (first | refine blk_drewN ?_ _ | refine blk_drew ?_ | refine blk_alloc ?_ _)); exact BK499.out⟩, ⟨by (with_reducible repeat (first | refine blk_drewN ?_ _ | refine blk_drew ?_ | refine blk_alloc ?_ _)); exact BK500.out⟩, ⟨by repeat (first | (with_reducible first | exact HB.out | apply below_alloc | apply pw_below_drewN | apply below_drew1 | refine below_set ?_ GE499.out | refine below_set ?_ GE500.out) | exact HB.out)⟩⟩
         ·rw [if_neg c48] at H
          have c48b0 : decide (x7_3 ≤ (l1_2.length : Int)) = false := decide_eq_false c48
          clear c48
          obtain rfl := Option.some.inj H
          have hnb64 := NB500_499.out
          have hnc64 := NB499_500.out
          have hcz65_0 : wr.cell? ⟨gb500, 0, none⟩ = some (.string a1_0) := (blk_cell BK500.out 0).trans rfl
          have hcz65_1 : wr.cell? ⟨gb500, 1, none⟩ = some (.int .i64 a1_1) := (blk_cell BK500.out 1).trans rfl
          have hcz65_2 : wr.cell? ⟨gb500, 2, none⟩ = some (.slice A1_2 l1_2.length c1_2) := (blk_cell BK500.out 2).trans rfl
          have hfz65_0 := blk_frozen BK500.out 0
          have hfz65_1 := blk_frozen BK500.out 1
          have hfz65_2 := blk_frozen BK500.out 2
          go_wp2
          go_ret
          exact ⟨by first | rfl | (simp [errW_none, errW_some] <;> rfl) | (simp [*, errW_none, errW_some] <;> rfl), by repeat (first | (with_reducible first | exact HB.out | apply below_alloc | apply pw_below_drewN | apply below_drew1 | refine below_set ?_ GE499.out | refine below_set ?_ GE500.out) | exact HB.out)⟩
end Go.Proofs.Ytcdnmlfnfhoieaa.A

/- audit.Add, walked: an audit that goes on by an entry. No condition beyond what the function says. -/
namespace Go.Proofs.Ytcdnmlfnfhoieaa.A
open Go.RowKit Go.Proofs.YtcdnmlfnfhoieaaW.PrintWords Go.Proofs.YtcdnmlfnfhoieaaW.PrintLast Go.Proofs.YtcdnmlfnfhoieaaW.PrintMore Go.Proofs.Ytcdnmlfnfhoieaa.Bs
attribute [local go_sem] max2_int min2_int max_two min_two max_three min_three max_four min_four
set_option linter.unusedVariables false
set_option linter.unusedSimpArgs false
def addOn (k : Nat) (a : ByteArray) (n : Int) (l : List S64) (e : S64) : Option (ByteArray × Int × List S64 × Int) :=
 if l.length = 8 then ((audit_bytes.f k (rd_T64 l 0).f0 (rd_T64 l 0).f1 (rd_T64 l 0).f2 (rd_T64 l 0).f3 (rd_T64 l 0).f4).bind fun b => (mac_Seal.f a b).bind fun s => some (s, n, l.drop 1 ++ [e], 0))
 else if l.length < 1000000000 then some (a, n, l ++ [e], 0) else none
def audit_Add.f (k : Nat) (a0_0 : ByteArray) (a0_1 : Int) (l0_2 : List S64) (a1_0 a1_1 a1_2 : Int) (a1_3 : ByteArray) (a1_4 : Int) : Option (ByteArray × Int × List S64 × Int) :=
 (audit_May.f k a0_0 a0_1 l0_2).bind fun m => if m = true then ((audit_good.f (wrap64 (a0_1 + 1)) a1_1 a1_2 a1_3 a1_4).bind fun g => if g = true then addOn k a0_0 (wrap64 (a0_1 + 1)) l0_2 ⟨wrap64 (a0_1 + 1), a1_1, a1_2, a1_3, a1_4⟩ else some (⟨#[]⟩, 0, [], 1)) else some (⟨#[]⟩, 0, [], 1)
theorem C_frame64 {w w1 : World} {S : Nat → Prop} {A : Option Addr} {n : Nat} {xs : List S64} (h : Kd.C k64 w A n xs) (hf : Fr w w1 S) (ho : Out S A n) : Kd.C k64 w1 A n xs := by
 refine ⟨h.1, h.2.1, fun hn => ?_⟩
 obtain ⟨ad, e, hc⟩ := h.2.2 hn
 refine ⟨ad, e, fun j p hj => ?_⟩
 obtain ⟨c, h1, h2, h3⟩ := hc j p hj
 exact ⟨c, h1, h2, fun i u hi => hf.cell (h3 i u hi) (by rw [add_block]; exact ho ad e hn)⟩
theorem addOn.mono (k : Nat) (a : ByteArray) (n : Int) (l : List S64) (e : S64) : LeO (addOn k a n l e) (addOn (k + 1) a n l e) := by
 unfold addOn
 refine LeO.ite (LeO.bind (audit_bytes.mono _ _ _ _ _ _) (fun _ => LeO.refl _)) (LeO.refl _)
theorem audit_Add.mono : ∀ a0 a1 a2 a3 a4 a5 a6 a7 k, LeO (audit_Add.f k a0 a1 a2 a3 a4 a5 a6 a7) (audit_Add.f (k + 1) a0 a1 a2 a3 a4 a5 a6 a7) := by
 intro a0 a1 a2 a3 a4 a5 a6 a7 k
 unfold audit_Add.f
 exact LeO.bind (audit_May.mono _ _ _ _) (fun _ => LeO.ite (LeO.bind (LeO.refl _) (fun _ => LeO.ite (addOn.mono _ _ _ _ _) (LeO.refl _))) (LeO.refl _))
/-- append onto a slice without room: a new row. -/
theorem run_append_full {P : Program} {α : Type} (d : Kd α) {W : World} (t ty e : TypeId) (z : Value) (bytes : Nat) (ht : P.underlying t = some (.slice e)) (hinfo : (P.info? e).map (fun i => (i.zero, i.size, i.bytes)) = some (some z, d.sz, bytes)) (hz : z.cells.size = d.sz) (hs0 : 0 < d.sz) (hb0 : 0 < bytes)
  (ad ad2 : Addr) (n m c : Nat) (xs ys : List α) (HX : d.C W (some ad) n xs) (HY : d.C W (some ad2) m ys) (hm : 0 < m) (hKM : ∀ (w' : World) (base' : Nat) (ok' : Nat → Prop) x cs, d.K W x cs → d.M w' base' ok' x cs) (hl : (n + m) * bytes ≤ 140737488355328) :
  ∃ v1 w1, (Builtin.append_ #[t, t] ty #[.slice (some ad) n n, .slice (some ad2) m c]).run P W = .ok v1 w1 ∧ d.R e w1 W.heap.size (fun _ => True) v1 (xs ++ ys) ∧ Below W.heap.size W w1 := by
 obtain ⟨i0, hi, hzz⟩ := Option.map_eq_some_iff.1 hinfo
 simp only [Prod.mk.injEq] at hzz
 obtain ⟨hz0, hz1, hz2⟩ := hzz
 obtain ⟨olds, hr1, hc1⟩ := ReadsRow.inner_ HX
 obtain ⟨news, hr2, hc2⟩ := ReadsRow.inner_ HY
 have hx : xs.length = n := HX.1
 have hy : ys.length = m := HY.1
 have hlen : n + m ≤ 140737488355328 := Nat.le_trans (Nat.le_mul_of_pos_right _ hb0) hl
 obtain ⟨v1, w1, hrun, hown, hg⟩ := run_append_arg_grows (P := P) W t ty e i0 z d.sz bytes ht hi hz0 hz1 hz2 hz hs0 ad n n olds (by rw [hr1.1, hx]) hc1 ad2 m c news (by rw [hr2.1, hy]) hc2 (by omega) (by simp only [maxLen]; omega) hl
 refine ⟨v1, w1, hrun, ⟨fun _ _ => trivial, olds ++ news, by rw [List.length_append, hx, hy]; exact hown, Kd.reps_append (hr1.imp_ (fun _ _ h => hKM _ _ _ _ _ h)) (hr2.imp_ (fun _ _ h => hKM _ _ _ _ _ h))⟩, ⟨hg.os, hg.tape, hg.output, hg.size, fun i hi => hg.block i hi (by simp)⟩⟩
/-- .. as_ one step of a region that draws its order. -/
theorem R_append_full_step {P : Program} {ops : Array Oper} {o : Oper} {a : Act} {W : World} {Kc : Act → World → Prop} {Q : Exit → Act → World → Prop} {α : Type} (d : Kd α) (hw : Region.wanted o (yielded ops a.tmps) = true) (s x : Operand) (t e : TypeId) (z : Value) (bytes : Nat)
  (ho : o.op = .call { callee := .builtin .append, args := #[s, x], argTypes := #[t, t] }) (ht : P.underlying t = some (.slice e)) (hinfo : (P.info? e).map (fun i => (i.zero, i.size, i.bytes)) = some (some z, d.sz, bytes)) (hz : z.cells.size = d.sz) (hs0 : 0 < d.sz) (hb0 : 0 < bytes)
  (ad ad2 : Addr) (n m c : Nat) (xs ys : List α) (hs : a.eval s = .slice (some ad) n n) (hx : a.eval x = .slice (some ad2) m c) (HX : d.C W (some ad) n xs) (HY : d.C W (some ad2) m ys) (hm : 0 < m) (hKM : ∀ (w' : World) (base' : Nat) (ok' : Nat → Prop) x cs, d.K W x cs → d.M w' base' ok' x cs) (hl : (n + m) * bytes ≤ 140737488355328)
  (h : ∀ v1 w1, d.R e w1 W.heap.size (fun _ => True) v1 (xs ++ ys) → Below W.heap.size W w1 → Kc (a.put o.dst v1) w1) :
  if Region.wanted o (yielded ops a.tmps) = true then Oper.wp P o a W Kc Q else Kc (a.put o.dst undef) W := by
 obtain ⟨v1, w1, hrun, h1, h2⟩ := run_append_full (P := P) d t o.type e z bytes ht hinfo hz hs0 hb0 ad ad2 n m c xs ys HX HY hm hKM hl
 rw [if_pos hw]
 unfold Oper.wp
 simp [execOp, ho, resolve, invoke, builtin, hs, hx, hrun, Result.andThen]
 exact h v1 w1 h1 h2
set_option maxHeartbeats 8000000 in
set_option maxRecDepth 100000 in
theorem audit_Add.calls (k : Nat) (a0_0 : ByteArray) (a0_1 : Int) (A0_2 : Option Addr) (c0_2 : Nat) (l0_2 : List S64) (a1_0 a1_1 a1_2 : Int) (a1_3 : ByteArray) (a1_4 : Int) (r1 : ByteArray) (r2 : Int) (r3 : List S64) (r4 : Int) (w : World) (hr0_2 : Kd.C k64 w A0_2 l0_2.length l0_2) (hc0_2 : l0_2.length ≤ c0_2) (h : audit_Add.f k a0_0 a0_1 l0_2 a1_0 a1_1 a1_2 a1_3 a1_4 = some (r1, r2, r3, r4)) :
  Calls Try.prog 42 #[.agg #[.string a0_0, .int .i64 a0_1, .slice A0_2 l0_2.length c0_2], .agg #[.int .i64 a1_0, .int .i64 a1_1, .int .i64 a1_2, .string a1_3, .int .i64 a1_4]] w fun e w' => ∃ v2_ : Value, e = .returned (.tuple #[.agg #[.string r1, .int .i64 r2, v2_], .int .i64 r4]) ∧ Kd.R k64 64 w' w.heap.size (fun _ => True) v2_ r3 ∧ Below w.heap.size w w' := by
 have hu56 := Try.underlying56
 have hu64 := Try.underlying64
 have hu52 := Try.underlying52
 have HR := Aside0.mk hr0_2
 have HC := Aside0.mk hc0_2
 clear hr0_2 hc0_2
 unfold audit_Add.f at h
 obtain ⟨m, hm, h⟩ := Option.bind_eq_some_iff.mp h
 have HM := Aside0.mk hm
 have H := Aside0.mk h
 clear hm h
 go_enter Try.func42, Try.ntmps42
 go_upto_region 1 with (first | ((with_reducible refine gate_dst (N := 2) rfl ?_); refine box_event ?hg (N := 2) ?hd (cs := #[.string a0_0, .int .i64 a0_1, .slice A0_2 l0_2.length c0_2]) (t := 56) ?hr ?_; (case hd => rfl); (case hg => rfl); (case hr => first | (go_simp; done) | (go_simp; rfl)); intro g2 hg2 w2 hb2 hbel2; have HG2 := Aside0.mk hg2; have HB2 := Aside0.mk hb2; have HL2 := Aside0.mk hbel2; clear hg2 hb2 hbel2) | ((with_reducible refine gate_dst (N := 3) rfl ?_); refine box_event ?hg (N := 3) ?hd (cs := #[.int .i64 a1_0, .int .i64 a1_1, .int .i64 a1_2, .string a1_3, .int .i64 a1_4]) (t := 64) ?hr ?_; (case hd => rfl); (case hg => rfl); (case hr => first | (go_simp; done) | (go_simp; rfl)); intro g3 hg3 w3 hb3 hbel3; have HG3 := Aside0.mk hg3; have HB3 := Aside0.mk hb3; have HL3 := Aside0.mk hbel3; clear hg3 hb3 hbel3) | ((with_reducible refine gate_dst (N := 4) rfl ?_); refine box_event ?hg (N := 4) ?hd (cs := #[.string ⟨#[]⟩, .int .i64 0, .slice none 0 0]) (t := 56) ?hr ?_; (case hd => rfl); (case hg => rfl); (case hr => first | (go_simp; done) | (go_simp; rfl)); intro g4 hg4 w4 hb4 hbel4; have HG4 := Aside0.mk hg4; have HB4 := Aside0.mk hb4; have HL4 := Aside0.mk hbel4; clear hg4 hb4 hbel4))
 have HS2 : Aside0 (w4.heap[g2]? = some (.cells #[.string a0_0, .int .i64 a0_1, .slice A0_2 l0_2.length c0_2] 56 (0, 0))) := ⟨blk_below (blk_below HB2.out HL3.out) HL4.out⟩
 have HS3 : Aside0 (w4.heap[g3]? = some (.cells #[.int .i64 a1_0, .int .i64 a1_1, .int .i64 a1_2, .string a1_3, .int .i64 a1_4] 64 (0, 0))) := ⟨blk_below HB3.out HL4.out⟩
 have HL : Aside0 (Below w.heap.size w w4) := ⟨below_step (below_step HL2.out HL3.out) HL4.out⟩
 have N23 : Aside0 (g2 ≠ g3) := ⟨by rw [HG3.out]; exact Nat.ne_of_lt (blk_lt HB2.out)⟩
 have N24 : Aside0 (g2 ≠ g4) := ⟨by rw [HG4.out]; exact Nat.ne_of_lt (blk_lt (blk_below HB2.out HL3.out))⟩
 have N34 : Aside0 (g3 ≠ g4) := ⟨by rw [HG4.out]; exact Nat.ne_of_lt (blk_lt HB3.out)⟩
 have W2 : Aside0 (w.heap.size ≤ g2) := ⟨by rw [HG2.out]; exact Nat.le_refl _⟩
 have W3 : Aside0 (w.heap.size ≤ g3) := ⟨by rw [HG3.out]; exact below_size HL2.out⟩
 have W4 : Aside0 (w.heap.size ≤ g4) := ⟨by rw [HG4.out]; exact below_size (below_step HL2.out HL3.out)⟩
 have HR4 : Aside0 (Kd.C k64 w4 A0_2 l0_2.length l0_2) := ⟨Kd.C_below HR.out HL.out⟩
 clear HG2 HG3 HG4 HB2 HB3 HL2 HL3 HL4
 have c20 : w4.cell? ⟨g2, 0, none⟩ = some (.string a0_0) := (blk_cell HS2.out 0).trans rfl
 have c21 : w4.cell? ⟨g2, 1, none⟩ = some (.int .i64 a0_1) := (blk_cell HS2.out 1).trans rfl
 have c22 : w4.cell? ⟨g2, 2, none⟩ = some (.slice A0_2 l0_2.length c0_2) := (blk_cell HS2.out 2).trans rfl
 go_wp2_with fail
 refine (audit_May.calls k a0_0 a0_1 A0_2 c0_2 l0_2 m w4 HR4.out HC.out HM.out).mono ?_
 rintro e w5 ⟨rfl, hb5⟩
 have h0 := H.out
 have HS4 := Aside0.mk (blk_below HB4.out hb5)
 have HQ2 := Aside0.mk (blk_below HS2.out hb5)
 have HQ3 := Aside0.mk (blk_below HS3.out hb5)
 have HL5 := Aside0.mk (below_step HL.out hb5)
 have HR5 := Aside0.mk (Kd.C_below HR4.out hb5)
 have HA0 : Aside0 ((#[.string ⟨#[]⟩, .int .i64 0, .slice none 0 0] : Array Value).all (·.oneCell') = true) := ⟨by simp [Value.oneCell']⟩
 have HI56 : Aside0 ((Try.prog.info? 56).map (·.size) = some 3) := ⟨by kernel_rfl⟩
 clear H HM HB4 HS2 HS3 HL HR4 hb5 c20 c21 c22
 cases m with
 | false =>
  rw [if_neg (by decide)] at h0
  cases h0
  go_wp2_with (refine gate_ (.store 56 (.tmp 4) (.tmp 10)) rfl ?_; refine wpList_store_row rfl 56 (.tmp 4) (.tmp 10) rfl g4 #[.string ⟨#[]⟩, .int .i64 0, .slice none 0 0] rfl rfl 56 _ HS4.out HI56.out rfl HA0.out ?_)
  refine bodyPost_ret_by (results_ct rfl _ _ g4 56 #[.string ⟨#[]⟩, .int .i64 0, .slice none 0 0] (0, 0) _ rfl (setRow_heap _ _ _ _ _ _ HS4.out) hu56 rfl HI56.out) rfl ?_
  exact ⟨_, rfl, Kd.R_nil _ _ _ _ _, HL5.out.trans (below_setRow W4.out)⟩
 | true =>
  rw [if_pos rfl] at h0
  obtain ⟨g, hg, h0⟩ := Option.bind_eq_some_iff.mp h0
  have HG := Aside0.mk hg
  have H := Aside0.mk h0
  obtain ⟨nn, hnn⟩ : ∃ nn, wrap64 (a0_1 + 1) = nn := ⟨_, rfl⟩
  rw [hnn] at HG H
  clear hg h0
  have f30 : w5.frozen? ⟨g3, 0, none⟩ = false := blk_frozen HQ3.out 0
  have c21 : w5.cell? ⟨g2, 1, none⟩ = some (.int .i64 a0_1) := (blk_cell HQ2.out 1).trans rfl
  have c30 : w5.cell? ⟨g3, 0, none⟩ = some (.int .i64 a1_0) := (blk_cell HQ3.out 0).trans rfl
  go_upto_region 4 with (fail)
  have HR6 : Aside0 (Kd.C k64 (w5.setCell ⟨g3, 0, none⟩ (.int .i64 nn)) A0_2 l0_2.length l0_2) := ⟨by
   have := Kd.C_below (w := w) (w1 := w5.setCell ⟨g3, 0, none⟩ (.int .i64 nn)) HR.out (below_set HL5.out W3.out)
   exact this⟩
  have HP3 : Aside0 ((w5.setCell ⟨g3, 0, none⟩ (.int .i64 nn)).heap[g3]? = some (.cells #[.int .i64 nn, .int .i64 a1_1, .int .i64 a1_2, .string a1_3, .int .i64 a1_4] 64 (0, 0))) := ⟨blk_set HQ3.out 0 _⟩
  have HP2 := Aside0.mk (blk_far HQ2.out (p := ⟨g3, 0, none⟩) N23.out (.int .i64 nn))
  have HP4 := Aside0.mk (blk_far HS4.out (p := ⟨g3, 0, none⟩) (Ne.symm N34.out) (.int .i64 nn))
  have HL6 := Aside0.mk (below_set (j := 0) (v := .int .i64 nn) HL5.out W3.out)
  generalize w5.setCell ⟨g3, 0, none⟩ (.int .i64 nn) = w6 at HR6 HP3 HP2 HP4 HL6 ⊢
  clear HS4 HQ2 HQ3 HL5 HR5 f30 c21 c30 HR
  have e30 : w6.cell? ⟨g3, 0, none⟩ = some (.int .i64 nn) := (blk_cell HP3.out 0).trans rfl
  have e31 : w6.cell? ⟨g3, 1, none⟩ = some (.int .i64 a1_1) := (blk_cell HP3.out 1).trans rfl
  have e32 : w6.cell? ⟨g3, 2, none⟩ = some (.int .i64 a1_2) := (blk_cell HP3.out 2).trans rfl
  have e33 : w6.cell? ⟨g3, 3, none⟩ = some (.string a1_3) := (blk_cell HP3.out 3).trans rfl
  have e34 : w6.cell? ⟨g3, 4, none⟩ = some (.int .i64 a1_4) := (blk_cell HP3.out 4).trans rfl
  go_wp2_with fail
  refine (audit_good.calls nn a1_1 a1_2 a1_3 a1_4 g w6 HG.out).mono ?_
  rintro e w7 ⟨rfl, hd7⟩
  clear e30 e31 e32 e33 e34
  have HL7 := Aside0.mk (below_step HL6.out hd7)
  have HT2 := Aside0.mk (blk_below HP2.out hd7)
  have HT3 := Aside0.mk (blk_below HP3.out hd7)
  have HT4 := Aside0.mk (blk_below HP4.out hd7)
  have HR7 := Aside0.mk (Kd.C_below HR6.out hd7)
  have h0 := H.out
  clear HL6 HP2 HP3 HP4 HR6 hd7 H
  cases g with
  | false =>
   rw [if_neg (by decide)] at h0
   cases h0
   go_wp2_with (refine gate_ (.store 56 (.tmp 4) (.tmp 18)) rfl ?_; refine wpList_store_row rfl 56 (.tmp 4) (.tmp 18) rfl g4 #[.string ⟨#[]⟩, .int .i64 0, .slice none 0 0] rfl rfl 56 _ HT4.out HI56.out rfl HA0.out ?_)
   refine bodyPost_ret_by (results_ct rfl _ _ g4 56 #[.string ⟨#[]⟩, .int .i64 0, .slice none 0 0] (0, 0) _ rfl (setRow_heap _ _ _ _ _ _ HT4.out) hu56 rfl HI56.out) rfl ?_
   exact ⟨_, rfl, Kd.R_nil _ _ _ _ _, HL7.out.trans (below_setRow W4.out)⟩
  | true =>
   rw [if_pos rfl] at h0
   unfold addOn at h0
   have c22 : w7.cell? ⟨g2, 2, none⟩ = some (.slice A0_2 l0_2.length c0_2) := (blk_cell HT2.out 2).trans rfl
   by_cases h8 : l0_2.length = 8
   ·rw [if_pos h8] at h0
    have d8 : ((l0_2.length : Int) == 8) = true := beq_iff_eq.mpr (by omega)
    obtain ⟨b, hb, h0⟩ := Option.bind_eq_some_iff.mp h0
    obtain ⟨s, hs, h0⟩ := Option.bind_eq_some_iff.mp h0
    cases h0
    have HBY := Aside0.mk hb
    have HSL := Aside0.mk hs
    have H8 := Aside0.mk h8
    have HAL : Aside0 ((([] : List S64).length + l0_2.length) * 48 ≤ 140737488355328) := ⟨by rw [h8]; decide⟩
    clear hb hs h8
    go_upto_region 8 with (first | ((with_reducible refine gate_dst (N := 19) rfl ?_); refine Kd.R_lit k64 _ 64 ?hg (N := 19) ?hd (xs := ([] : List S64)) (inner := []) (ok := fun _ => True) (okp := fun _ => True) ?hr ?hp (fun _ hk => hk) trivial (Below.refl _ _) (Nat.le_refl _) (by simp) ?_; (case hd => rfl); (case hg => rfl); (case hr => first | (go_simp; done) | (go_simp; rfl)); (case hp => exact (Reps.none _ _)); intro v8 w8 hr8 hb8 hg8 hx8; clear hg8 hx8; have HV8 := Aside0.mk hr8; have HL8 := Aside0.mk hb8; have HC8 := Aside0.mk (Kd.C_below HR7.out hb8); have c22b : w8.cell? ⟨g2, 2, none⟩ = some (.slice A0_2 l0_2.length c0_2) := pw_cell_below hb8 c22; clear hr8 hb8) | ((with_reducible refine gate_builtin (b := .append) (xs := #[.tmp 19, .tmp 21]) rfl ?_); at_builtin; refine Kd.R_append_rows k64 (w0 := w7) w7.heap.size rfl (.tmp 19) (.tmp 21) 52 64 _ 48 rfl Try.underlying52 info64 rfl (by decide) (by omega) v8 [] l0_2 _ _ _ (fun _ => True) (fun _ => False) rfl rfl HV8.out HC8.out (fun _ _ h => h) (fun _ h => h.elim) (fun _ _ => trivial) HL8.out (below_size HL8.out) HAL.out ?_; intro v9 w9 hr9 hb9 hg9 hat9; clear hg9 hat9; rw [List.nil_append] at hr9; obtain ⟨gL, c9, rfl, hgL, _⟩ := Kd.R_form hr9 (by rw [H8.out]; decide); have HV9 := Aside0.mk hr9; have HL9 := Aside0.mk hb9; have HGL := Aside0.mk hgL; clear hr9 hb9 HV8 HL8 HC8 c22b hgL))
    have hT2 := blk_below HT2.out HL9.out
    have hT3 := blk_below HT3.out HL9.out
    have hT4 := blk_below HT4.out HL9.out
    have HG2L : Aside0 (g2 < w7.heap.size ∧ g3 < w7.heap.size ∧ g4 < w7.heap.size) := ⟨blk_lt HT2.out, blk_lt HT3.out, blk_lt HT4.out⟩
    clear HT2 HT3 HT4 c22 HR7
    have HT2 := Aside0.mk hT2
    have HT3 := Aside0.mk hT3
    have HT4 := Aside0.mk hT4
    clear hT2 hT3 hT4
    have c20 : w9.cell? ⟨g2, 0, none⟩ = some (.string a0_0) := (blk_cell HT2.out 0).trans rfl
    obtain ⟨ad, e', d0, d1, d2, d3, d4⟩ := at_T64 (Kd.R_reads' HV9.out).2.2 0 (by omega) (by rw [H8.out]; decide)
    cases e'
    simp only [Int.toNat_zero, Nat.zero_mul, add_plain, Nat.zero_add] at d0 d1 d2 d3 d4
    obtain ⟨E0, hE0⟩ : ∃ E, rd_T64 l0_2 0 = E := ⟨_, rfl⟩
    rw [hE0] at HBY d0 d1 d2 d3 d4
    clear hE0
    obtain ⟨x0, x1, x2, x3, x4⟩ := E0
    simp only at HBY d0 d1 d2 d3 d4
    have p1 := eq_true (show (0 : Int) < (l0_2.length : Int) by rw [H8.out]; decide)
    have p2 := eq_true (show 0 < l0_2.length by rw [H8.out]; decide)
    refine start_ (n := 9) (S := fun w' => w'.cell? ⟨g2, 0, none⟩ = some (.string a0_0) ∧ w'.cell? ⟨gL, 0, none⟩ = some (.int .i64 x0) ∧ w'.cell? ⟨gL, 1, none⟩ = some (.int .i64 x1) ∧ w'.cell? ⟨gL, 2, none⟩ = some (.int .i64 x2) ∧ w'.cell? ⟨gL, 3, none⟩ = some (.string x3) ∧ w'.cell? ⟨gL, 4, none⟩ = some (.int .i64 x4)) (ds := [8]) #[false, false, false, false, false, false, false, false, false] (by kernel_rfl) rfl rfl ⟨c20, d0, d1, d2, d3, d4⟩ (fun hHeld => ?_)
    refine pure_ (i := 0) (N := some 26) (v := ?_) (a' := ?_) #[true, false, false, false, false, false, false, false, false] rfl rfl (by kernel_rfl) (fun _ _ _ h => h) (Or.inl ⟨by rfl, ?_⟩) ?_ ?_
    rotate_left
    ·intro w'
     go_simp
     with_reducible rfl
    rotate_left
    ·simp only [Act.put, List.setIfInBounds_toArray, List.set_cons_zero, List.set_cons_succ, i64_w, i32_w]
     rfl
    refine pure_ (i := 2) (N := some 28) (v := ?_) (a' := ?_) #[true, false, true, false, false, false, false, false, false] rfl rfl (by kernel_rfl) (fun _ _ _ h => h) (Or.inl ⟨by rfl, ?_⟩) ?_ ?_
    rotate_left
    ·intro w'
     go_simp
     with_reducible rfl
    rotate_left
    ·simp only [Act.put, List.setIfInBounds_toArray, List.set_cons_zero, List.set_cons_succ, i64_w, i32_w]
     rfl
    refine pure_ (i := 3) (N := some 29) (v := ?_) (a' := ?_) #[true, false, true, true, false, false, false, false, false] rfl rfl (by kernel_rfl) (fun _ _ _ h => h) (Or.inl ⟨by rfl, ?_⟩) ?_ ?_
    rotate_left
    ·intro w'
     go_simp
     with_reducible rfl
    rotate_left
    ·simp only [Act.put, List.setIfInBounds_toArray, List.set_cons_zero, List.set_cons_succ, i64_w, i32_w]
     rfl
    refine take_ (i := 1) (N := some 27) (v := ?_) (a' := ?_) #[true, true, true, true, false, false, false, false, false] rfl rfl (by kernel_rfl) (fun _ _ _ h => h) (Or.inl ⟨by rfl, ?_⟩) hHeld ?_ ?_
    rotate_left
    ·rintro w' ⟨s0, s1, s2, s3, s4, s5⟩
     go_simp
     with_reducible rfl
    rotate_left
    ·simp only [Act.put, List.setIfInBounds_toArray, List.set_cons_zero, List.set_cons_succ, i64_w, i32_w]
     rfl
    refine take_ (i := 4) (N := some 30) (v := ?_) (a' := ?_) #[true, true, true, true, true, false, false, false, false] rfl rfl (by kernel_rfl) (fun _ _ _ h => h) (Or.inl ⟨by rfl, ?_⟩) hHeld ?_ ?_
    rotate_left
    ·rintro w' ⟨s0, s1, s2, s3, s4, s5⟩
     go_simp
     with_reducible rfl
    rotate_left
    ·simp only [Act.put, List.setIfInBounds_toArray, List.set_cons_zero, List.set_cons_succ, i64_w, i32_w]
     rfl
    refine one_ (i := 5) (N := some 31) #[true, true, true, true, true, true, false, false, false] rfl rfl (by kernel_rfl) (by decide) (fun K hK => ?_)
    refine goes_ Try.func77 (by kernel_rfl) rfl #[.agg #[.int .i64 x0, .int .i64 x1, .int .i64 x2, .string x3, .int .i64 x4]] (by rfl) rfl rfl (by simp only [List.map_toArray, List.map_cons, List.map_nil]; rfl) ?_
    with_reducible refine (audit_bytes.calls k x0 x1 x2 x3 x4 b _ HBY.out).mono ?_
    rintro e w10 ⟨rfl, hb10⟩
    refine ⟨_, rfl, ?_⟩
    have c20a : w10.cell? ⟨g2, 0, none⟩ = some (.string a0_0) := pw_cell_below hb10 c20
    have d0a : w10.cell? ⟨gL, 0, none⟩ = some (.int .i64 x0) := pw_cell_below hb10 d0
    have d1a : w10.cell? ⟨gL, 1, none⟩ = some (.int .i64 x1) := pw_cell_below hb10 d1
    have d2a : w10.cell? ⟨gL, 2, none⟩ = some (.int .i64 x2) := pw_cell_below hb10 d2
    have d3a : w10.cell? ⟨gL, 3, none⟩ = some (.string x3) := pw_cell_below hb10 d3
    have d4a : w10.cell? ⟨gL, 4, none⟩ = some (.int .i64 x4) := pw_cell_below hb10 d4
    have HL10 := Aside0.mk hb10
    clear hb10
    refine hK.out _ _ ⟨c20a, d0a, d1a, d2a, d3a, d4a⟩ (fun hHeld => ?_)
    clear hK K
    refine norm_ (a' := ?_) ?_ ?_
    rotate_left
    ·show Act.put _ (some 31) _ = _
     simp only [Act.put, List.setIfInBounds_toArray, List.set_cons_zero, List.set_cons_succ, i64_w, i32_w]
     rfl
    refine one_ (i := 6) (N := some 32) #[true, true, true, true, true, true, true, false, false] rfl rfl (by kernel_rfl) (by decide) (fun K hK => ?_)
    refine goes_ Try.func47 (by kernel_rfl) rfl #[.string a0_0, .string b] (by rfl) rfl rfl (by simp only [List.map_toArray, List.map_cons, List.map_nil]; rfl) ?_
    with_reducible refine (mac_Seal.calls a0_0 b r1 _ HSL.out).mono ?_
    rintro e w11 ⟨rfl, hb11⟩
    refine ⟨_, rfl, ?_⟩
    have c20b : w11.cell? ⟨g2, 0, none⟩ = some (.string a0_0) := pw_cell_below hb11 c20a
    have d0b : w11.cell? ⟨gL, 0, none⟩ = some (.int .i64 x0) := pw_cell_below hb11 d0a
    have d1b : w11.cell? ⟨gL, 1, none⟩ = some (.int .i64 x1) := pw_cell_below hb11 d1a
    have d2b : w11.cell? ⟨gL, 2, none⟩ = some (.int .i64 x2) := pw_cell_below hb11 d2a
    have d3b : w11.cell? ⟨gL, 3, none⟩ = some (.string x3) := pw_cell_below hb11 d3a
    have d4b : w11.cell? ⟨gL, 4, none⟩ = some (.int .i64 x4) := pw_cell_below hb11 d4a
    have HL11 : Aside0 (Below w9.drew.heap.size w9.drew w11) := ⟨below_step HL10.out hb11⟩
    have HT11 := Aside0.mk (blk_below (blk_drew HT2.out) HL11.out)
    have f20 : w11.frozen? ⟨g2, 0, none⟩ = false := blk_frozen HT11.out 0
    clear hb11
    refine hK.out _ _ ⟨c20b, d0b, d1b, d2b, d3b, d4b⟩ (fun hHeld => ?_)
    clear hK K
    refine norm_ (a' := ?_) ?_ ?_
    rotate_left
    ·show Act.put _ (some 32) _ = _
     simp only [Act.put, List.setIfInBounds_toArray, List.set_cons_zero, List.set_cons_succ, i64_w, i32_w]
     rfl
    refine pure_ (i := 7) (N := some 33) (v := ?_) (a' := ?_) #[true, true, true, true, true, true, true, true, false] rfl rfl (by kernel_rfl) (fun _ _ _ h => h) (Or.inl ⟨by rfl, ?_⟩) ?_ ?_
    rotate_left
    ·intro w'
     go_simp
     with_reducible rfl
    rotate_left
    ·simp only [Act.put, List.setIfInBounds_toArray, List.set_cons_zero, List.set_cons_succ, i64_w, i32_w]
     rfl
    refine last_ (i := 8) (N := none) #[true, true, true, true, true, true, true, true, true] rfl rfl (by kernel_rfl) (by decide) (fun K hK => ?_)
    refine skip_ (w1 := ?_) (by rfl) rfl ?_ ?_
    rotate_left
    ·go_simp
     rfl
    refine hK.out _ _ ?_
    clear hK K
    refine done_ (by kernel_rfl) ?_
    have HP2 := Aside0.mk (blk_set HT11.out 0 (.string r1))
    have HP3 := Aside0.mk (blk_far (blk_below (blk_drew HT3.out) HL11.out) (p := ⟨g2, 0, none⟩) (Ne.symm N23.out) (.string r1))
    have HP4 := Aside0.mk (blk_far (blk_below (blk_drew HT4.out) HL11.out) (p := ⟨g2, 0, none⟩) (Ne.symm N24.out) (.string r1))
    have HLW : Aside0 (Below w.heap.size w (w11.setCell ⟨g2, 0, none⟩ (.string r1))) := ⟨below_set (below_step (below_drew (below_step HL7.out HL9.out)) HL11.out) W2.out⟩
    have hVC := (Kd.R_reads' HV9.out).2.2
    have HVC : Aside0 (Kd.C k64 (w11.setCell ⟨g2, 0, none⟩ (.string r1)) (some ⟨gL, 0, none⟩) l0_2.length l0_2) := ⟨C_frame64 (Kd.C_below (Kd.C_drew hVC) HL11.out) ((Fr.refl _ (fun k => k = g2)).setCell (.inl rfl) _) (fun ad e _ h => by cases e; have := HGL.out; have := HG2L.out; exact absurd h (by show ¬ gL = g2; omega))⟩
    have hcap := (Kd.R_reads' HV9.out).2.1
    have HCAP := Aside0.mk hcap
    clear c20 d0 d1 d2 d3 d4 hVC hcap HT2 HT3 HT4 HL11 HT11 f20 hHeld c20b d0b d1b d2b d3b d4b
    generalize w11.setCell ⟨g2, 0, none⟩ (.string r1) = w12 at HP2 HP3 HP4 HLW HVC ⊢
    obtain ⟨i64, hi64, hs64⟩ : ∃ i, Try.prog.info? 64 = some i ∧ i.size = 5 := by
     obtain ⟨i, h1, h2⟩ := Option.map_eq_some_iff.1 info64
     exact ⟨i, h1, by simp only [Prod.mk.injEq] at h2; exact h2.2.1⟩
    have hcut : ∀ W : World, (Instr.slice 52 (.slice (some ⟨gL, 0, none⟩) l0_2.length c9) (some (.int .i64 1)) (some (.int .i64 (l0_2.length : Int))) (some (.int .i64 (l0_2.length : Int)))).run Try.prog W = .ok (.slice (some ⟨gL, 5, none⟩) 7 7) W := by
     intro W
     have hel : Try.prog.elem 52 = 64 := by simp [Program.elem, hu52]
     have hu : Try.prog.underlying 52 = some (.slice (Try.prog.elem 52)) := by rw [hel]; exact hu52
     rw [run_slice_lhm W 52 _ _ _ hu .i64 .i64 .i64 1 _ _ (by decide) (by rw [H8.out]; decide) (Int.le_refl _) (by have := HCAP.out; omega), hel]
     rw [H8.out]
     simp [sizeOf, typeInfo, hi64, hs64, sliced, Result.andThen, add_plain]
    have c20 : w12.cell? ⟨g2, 0, none⟩ = some (.string r1) := (blk_cell HP2.out 0).trans rfl
    have e30 : w12.cell? ⟨g3, 0, none⟩ = some (.int .i64 r2) := (blk_cell HP3.out 0).trans rfl
    have e31 : w12.cell? ⟨g3, 1, none⟩ = some (.int .i64 a1_1) := (blk_cell HP3.out 1).trans rfl
    have e32 : w12.cell? ⟨g3, 2, none⟩ = some (.int .i64 a1_2) := (blk_cell HP3.out 2).trans rfl
    have e33 : w12.cell? ⟨g3, 3, none⟩ = some (.string a1_3) := (blk_cell HP3.out 3).trans rfl
    have e34 : w12.cell? ⟨g3, 4, none⟩ = some (.int .i64 a1_4) := (blk_cell HP3.out 4).trans rfl
    have HV7 : Aside0 (Kd.C k64 w12 (some ⟨gL, 5, none⟩) 7 (l0_2.drop 1)) := ⟨by
     have := Kd.C_drop (m := 1) HVC.out (by rw [H8.out]; decide) HCAP.out
     rw [if_neg (by have := HCAP.out; have := H8.out; omega)] at this
     have e : (l0_2.drop 1).length = 7 := by rw [List.length_drop, H8.out]
     rw [e] at this
     simpa [add_plain, show k64.sz = 5 from rfl] using this⟩
    clear p1 p2
    go_upto_region 10 with (fail)
    refine start_ (n := 11) (S := fun w' => w'.cell? ⟨g2, 0, none⟩ = some (.string r1) ∧ w'.cell? ⟨g3, 0, none⟩ = some (.int .i64 r2) ∧ w'.cell? ⟨g3, 1, none⟩ = some (.int .i64 a1_1) ∧ w'.cell? ⟨g3, 2, none⟩ = some (.int .i64 a1_2) ∧ w'.cell? ⟨g3, 3, none⟩ = some (.string a1_3) ∧ w'.cell? ⟨g3, 4, none⟩ = some (.int .i64 a1_4)) (ds := [9]) #[false, false, false, false, false, false, false, false, false, false, false] (by kernel_rfl) rfl rfl ⟨c20, e30, e31, e32, e33, e34⟩ (fun hHeld => ?_)
    refine pure_ (i := 0) (N := some 40) (v := ?_) (a' := ?_) #[true, false, false, false, false, false, false, false, false, false, false] rfl rfl (by kernel_rfl) (fun _ _ _ h => h) (Or.inl ⟨by rfl, ?_⟩) ?_ ?_
    rotate_left
    ·intro w'
     go_simp
     with_reducible rfl
    rotate_left
    ·simp only [Act.put, List.setIfInBounds_toArray, List.set_cons_zero, List.set_cons_succ, i64_w, i32_w]
     rfl
    refine pure_ (i := 2) (N := some 42) (v := ?_) (a' := ?_) #[true, false, true, false, false, false, false, false, false, false, false] rfl rfl (by kernel_rfl) (fun _ _ _ h => h) (Or.inl ⟨by rfl, ?_⟩) ?_ ?_
    rotate_left
    ·intro w'
     go_simp
     with_reducible rfl
    rotate_left
    ·simp only [Act.put, List.setIfInBounds_toArray, List.set_cons_zero, List.set_cons_succ, i64_w, i32_w]
     rfl
    refine pure_ (i := 4) (N := some 44) (v := ?_) (a' := ?_) #[true, false, true, false, true, false, false, false, false, false, false] rfl rfl (by kernel_rfl) (fun _ _ _ h => h) (Or.inl ⟨by rfl, ?_⟩) ?_ ?_
    rotate_left
    ·intro w'
     go_simp
     with_reducible rfl
    rotate_left
    ·simp only [Act.put, List.setIfInBounds_toArray, List.set_cons_zero, List.set_cons_succ, i64_w, i32_w]
     rfl
    refine take_ (i := 1) (N := some 41) (v := ?_) (a' := ?_) #[true, true, true, false, true, false, false, false, false, false, false] rfl rfl (by kernel_rfl) (fun _ _ _ h => h) (Or.inl ⟨by rfl, ?_⟩) hHeld ?_ ?_
    rotate_left
    ·rintro w' ⟨s0, s1, s2, s3, s4, s5⟩
     go_simp
     with_reducible rfl
    rotate_left
    ·simp only [Act.put, List.setIfInBounds_toArray, List.set_cons_zero, List.set_cons_succ, i64_w, i32_w]
     rfl
    refine take_ (i := 3) (N := some 43) (v := ?_) (a' := ?_) #[true, true, true, true, true, false, false, false, false, false, false] rfl rfl (by kernel_rfl) (fun _ _ _ h => h) (Or.inl ⟨by rfl, ?_⟩) hHeld ?_ ?_
    rotate_left
    ·rintro w' ⟨s0, s1, s2, s3, s4, s5⟩
     go_simp
     with_reducible rfl
    rotate_left
    ·simp only [Act.put, List.setIfInBounds_toArray, List.set_cons_zero, List.set_cons_succ, i64_w, i32_w]
     rfl
    refine take_ (i := 5) (N := some 45) (v := ?_) (a' := ?_) #[true, true, true, true, true, true, false, false, false, false, false] rfl rfl (by kernel_rfl) (fun _ _ _ h => h) (Or.inl ⟨by rfl, ?_⟩) hHeld ?_ ?_
    rotate_left
    ·rintro w' ⟨s0, s1, s2, s3, s4, s5⟩
     go_simp
     with_reducible rfl
    rotate_left
    ·simp only [Act.put, List.setIfInBounds_toArray, List.set_cons_zero, List.set_cons_succ, i64_w, i32_w]
     rfl
    refine one_ (i := 6) (N := some 46) #[true, true, true, true, true, true, true, false, false, false, false] rfl rfl (by kernel_rfl) (by decide) (fun K hK => ?_)
    refine Kd.R_lit_step k64 (w0 := w12.drew) w12.drew.heap.size 64 (by rfl) (N := 46) rfl (xs := [(⟨r2, a1_1, a1_2, a1_3, a1_4⟩ : S64)]) (inner := [.int .i64 r2, .int .i64 a1_1, .int .i64 a1_2, .string a1_3, .int .i64 a1_4]) (ok := fun _ => True) (okp := fun _ => True) ?hr ?hp (fun _ hk => hk) trivial (Below.refl _ _) (Nat.le_refl _) (by simp) ?_
    case hr => first | (go_simp; done) | (go_simp; rfl)
    case hp => exact Reps.snoc (Reps.none _ _) (k64_mkM _ _ _ (⟨r2, a1_1, a1_2, a1_3, a1_4⟩ : S64)) rfl
    intro v13 w13 hr13 hb13 hg13 hx13
    clear hg13 hx13
    have c20x : w13.cell? ⟨g2, 0, none⟩ = some (.string r1) := pw_cell_below hb13 c20
    have e30x : w13.cell? ⟨g3, 0, none⟩ = some (.int .i64 r2) := pw_cell_below hb13 e30
    have e31x : w13.cell? ⟨g3, 1, none⟩ = some (.int .i64 a1_1) := pw_cell_below hb13 e31
    have e32x : w13.cell? ⟨g3, 2, none⟩ = some (.int .i64 a1_2) := pw_cell_below hb13 e32
    have e33x : w13.cell? ⟨g3, 3, none⟩ = some (.string a1_3) := pw_cell_below hb13 e33
    have e34x : w13.cell? ⟨g3, 4, none⟩ = some (.int .i64 a1_4) := pw_cell_below hb13 e34
    obtain ⟨gE, cE, rfl, hgE, _⟩ := Kd.R_form hr13 (by simp)
    have HE13 : Aside0 (Kd.C k64 w13 (some ⟨gE, 0, none⟩) 1 [(⟨r2, a1_1, a1_2, a1_3, a1_4⟩ : S64)]) := ⟨(Kd.R_reads' hr13).2.2⟩
    have HL13 := Aside0.mk hb13
    have HGE := Aside0.mk hgE
    clear hr13 hb13 hgE
    refine hK.out _ _ ⟨c20x, e30x, e31x, e32x, e33x, e34x⟩ (fun hHeld => ?_)
    clear hK K
    refine norm_ (a' := ?_) ?_ ?_
    rotate_left
    ·show Act.put _ (some 46) _ = _
     simp only [Act.put, List.setIfInBounds_toArray, List.set_cons_zero, List.set_cons_succ, i64_w, i32_w]
     rfl
    refine one_ (i := 7) (N := some 47) #[true, true, true, true, true, true, true, true, false, false, false] rfl rfl (by kernel_rfl) (by decide) (fun K hK => ?_)
    refine R_append_full_step k64 (by rfl) (.tmp 44) (.tmp 46) 52 64 _ 48 (by rfl) Try.underlying52 info64 (by rfl) (by decide) (by decide) ⟨gL, 5, none⟩ ⟨gE, 0, none⟩ 7 1 cE (l0_2.drop 1) [(⟨r2, a1_1, a1_2, a1_3, a1_4⟩ : S64)] (by rfl) (by rfl) (Kd.C_below (Kd.C_drew HV7.out) HL13.out) HE13.out (by decide) (fun _ _ _ _ _ h => h) (by decide) ?_
    intro v14 w14 hr14 hb14
    have c20y : w14.cell? ⟨g2, 0, none⟩ = some (.string r1) := pw_cell_below hb14 c20x
    have e30y : w14.cell? ⟨g3, 0, none⟩ = some (.int .i64 r2) := pw_cell_below hb14 e30x
    have e31y : w14.cell? ⟨g3, 1, none⟩ = some (.int .i64 a1_1) := pw_cell_below hb14 e31x
    have e32y : w14.cell? ⟨g3, 2, none⟩ = some (.int .i64 a1_2) := pw_cell_below hb14 e32x
    have e33y : w14.cell? ⟨g3, 3, none⟩ = some (.string a1_3) := pw_cell_below hb14 e33x
    have e34y : w14.cell? ⟨g3, 4, none⟩ = some (.int .i64 a1_4) := pw_cell_below hb14 e34x
    have HL14 : Aside0 (Below w12.drew.heap.size w12.drew w14) := ⟨below_step HL13.out hb14⟩
    have HT14 := Aside0.mk (blk_below (blk_drew HP4.out) HL14.out)
    have c40 : w14.cell? ⟨g4, 0, none⟩ = some (.string ⟨#[]⟩) := (blk_cell HT14.out 0).trans rfl
    have c41 : w14.cell? ⟨g4, 1, none⟩ = some (.int .i64 0) := (blk_cell HT14.out 1).trans rfl
    have c42 : w14.cell? ⟨g4, 2, none⟩ = some (.slice none 0 0) := (blk_cell HT14.out 2).trans rfl
    have f40 : w14.frozen? ⟨g4, 0, none⟩ = false := blk_frozen HT14.out 0
    have f41 : w14.frozen? ⟨g4, 1, none⟩ = false := blk_frozen HT14.out 1
    have f42 : w14.frozen? ⟨g4, 2, none⟩ = false := blk_frozen HT14.out 2
    obtain ⟨A14, n14, c14, rfl⟩ := R_shape hr14
    have HV14 := Aside0.mk hr14
    clear hr14 hb14
    refine hK.out _ _ ⟨c20y, e30y, e31y, e32y, e33y, e34y⟩ (fun hHeld => ?_)
    clear hK K
    refine norm_ (a' := ?_) ?_ ?_
    rotate_left
    ·show Act.put _ (some 47) _ = _
     simp only [Act.put, List.setIfInBounds_toArray, List.set_cons_zero, List.set_cons_succ, i64_w, i32_w]
     rfl
    refine pure_ (i := 8) (N := some 48) (v := ?_) (a' := ?_) #[true, true, true, true, true, true, true, true, true, false, false] rfl rfl (by kernel_rfl) (fun _ _ _ h => h) (Or.inl ⟨by rfl, ?_⟩) ?_ ?_
    rotate_left
    ·intro w'
     go_simp
     with_reducible rfl
    rotate_left
    ·simp only [Act.put, List.setIfInBounds_toArray, List.set_cons_zero, List.set_cons_succ, i64_w, i32_w]
     rfl
    refine last_ (i := 9) (N := none) #[true, true, true, true, true, true, true, true, true, true, false] rfl rfl (by kernel_rfl) (by decide) (fun K hK => ?_)
    refine skip_ (w1 := ?_) (by rfl) rfl ?_ ?_
    rotate_left
    ·go_simp
     rfl
    refine hK.out _ _ ?_
    clear hK K
    refine pure_ (i := 10) (N := some 5) (v := ?_) (a' := ?_) #[true, true, true, true, true, true, true, true, true, true, true] rfl rfl (by kernel_rfl) (fun _ _ _ h => h) (Or.inl ⟨by rfl, ?_⟩) ?_ ?_
    rotate_left
    ·intro w'
     go_simp
     with_reducible rfl
    rotate_left
    ·simp only [Act.put, List.setIfInBounds_toArray, List.set_cons_zero, List.set_cons_succ, i64_w, i32_w]
     rfl
    refine done_ (by kernel_rfl) ?_
    have hs12 : w12.drew.heap.size ≤ w13.heap.size := below_size HL13.out
    have hs13 : w.heap.size ≤ w13.heap.size := Nat.le_trans (below_size HLW.out) hs12
    have q1 := blk_set HT14.out 0 (.string r1)
    have q2 := blk_set q1 1 (.int .i64 r2)
    have q3 := blk_set q2 2 (.slice A14 n14 c14)
    have hv1 := Kd.R_set HV14.out HT14.out (by decide) 0 (.string r1)
    have hv2 := Kd.R_set hv1 q1 (by decide) 1 (.int .i64 r2)
    have hv3 := Kd.R_set hv2 q2 (by decide) 2 (.slice A14 n14 c14)
    have hl14 := below_step (below_drew HLW.out) HL14.out
    have hl := below_set (j := 2) (v := .slice A14 n14 c14) (below_set (j := 1) (v := .int .i64 r2) (below_set (j := 0) (v := .string r1) hl14 W4.out) W4.out) W4.out
    have Q3 := Aside0.mk q3
    have HV := Aside0.mk (Kd.R_lower hv3 hs13)
    have HLL := Aside0.mk hl
    clear q1 q2 q3 hv1 hv2 hv3 hl14 hl hHeld
    go_wp2
    refine bodyPost_ret_by (results_ct rfl _ _ g4 56 #[.string r1, .int .i64 r2, .slice A14 n14 c14] (0, 0) _ rfl Q3.out hu56 rfl HI56.out) rfl ?_
    exact ⟨_, rfl, HV.out, HLL.out⟩
   ·rw [if_neg h8] at h0
    have d8 : ((l0_2.length : Int) == 8) = false := beq_eq_false_iff_ne.mpr (by omega)
    by_cases h9 : l0_2.length < 1000000000
    ·rw [if_pos h9] at h0
     cases h0
     have HAL : Aside0 ((([] : List S64).length + l0_2.length) * 48 ≤ 140737488355328) := ⟨by simp; omega⟩
     have HAM : Aside0 ((l0_2.length + 1) * 48 ≤ 140737488355328) := ⟨by omega⟩
     clear h8 h9
     go_upto_region 10 with (first | ((with_reducible refine gate_dst (N := 19) rfl ?_); refine Kd.R_lit k64 _ 64 ?hg (N := 19) ?hd (xs := ([] : List S64)) (inner := []) (ok := fun _ => True) (okp := fun _ => True) ?hr ?hp (fun _ hk => hk) trivial (Below.refl _ _) (Nat.le_refl _) (by simp) ?_; (case hd => rfl); (case hg => rfl); (case hr => first | (go_simp; done) | (go_simp; rfl)); (case hp => exact (Reps.none _ _)); intro v8 w8 hr8 hb8 hg8 hx8; clear hg8 hx8; have HV8 := Aside0.mk hr8; have HL8 := Aside0.mk hb8; have HC8 := Aside0.mk (Kd.C_below HR7.out hb8); have c22b : w8.cell? ⟨g2, 2, none⟩ = some (.slice A0_2 l0_2.length c0_2) := pw_cell_below hb8 c22; clear hr8 hb8) | ((with_reducible refine gate_builtin (b := .append) (xs := #[.tmp 19, .tmp 21]) rfl ?_); at_builtin; refine Kd.R_append_rows k64 (w0 := w7) w7.heap.size rfl (.tmp 19) (.tmp 21) 52 64 _ 48 rfl Try.underlying52 info64 rfl (by decide) (by omega) v8 [] l0_2 _ _ _ (fun _ => True) (fun _ => False) rfl rfl HV8.out HC8.out (fun _ _ h => h) (fun _ h => h.elim) (fun _ _ => trivial) HL8.out (below_size HL8.out) HAL.out ?_; intro v9 w9 hr9 hb9 hg9 hat9; clear hg9 hat9; rw [List.nil_append] at hr9; obtain ⟨A9, n9, c9, rfl⟩ := R_shape hr9; obtain rfl : l0_2.length = n9 := (Kd.R_reads' hr9).1.symm; have HV9 := Aside0.mk hr9; have HL9 := Aside0.mk hb9; clear hr9 hb9 HV8 HL8 HC8 c22b))
     have c20 : w9.cell? ⟨g2, 0, none⟩ = some (.string a0_0) := (blk_cell (blk_below HT2.out HL9.out) 0).trans rfl
     have e30 : w9.cell? ⟨g3, 0, none⟩ = some (.int .i64 r2) := (blk_cell (blk_below HT3.out HL9.out) 0).trans rfl
     have e31 : w9.cell? ⟨g3, 1, none⟩ = some (.int .i64 a1_1) := (blk_cell (blk_below HT3.out HL9.out) 1).trans rfl
     have e32 : w9.cell? ⟨g3, 2, none⟩ = some (.int .i64 a1_2) := (blk_cell (blk_below HT3.out HL9.out) 2).trans rfl
     have e33 : w9.cell? ⟨g3, 3, none⟩ = some (.string a1_3) := (blk_cell (blk_below HT3.out HL9.out) 3).trans rfl
     have e34 : w9.cell? ⟨g3, 4, none⟩ = some (.int .i64 a1_4) := (blk_cell (blk_below HT3.out HL9.out) 4).trans rfl
     clear HR7 c22
     refine start_ (n := 11) (S := fun w' => w'.cell? ⟨g2, 0, none⟩ = some (.string a0_0) ∧ w'.cell? ⟨g3, 0, none⟩ = some (.int .i64 r2) ∧ w'.cell? ⟨g3, 1, none⟩ = some (.int .i64 a1_1) ∧ w'.cell? ⟨g3, 2, none⟩ = some (.int .i64 a1_2) ∧ w'.cell? ⟨g3, 3, none⟩ = some (.string a1_3) ∧ w'.cell? ⟨g3, 4, none⟩ = some (.int .i64 a1_4)) (ds := [9]) #[false, false, false, false, false, false, false, false, false, false, false] (by kernel_rfl) rfl rfl ⟨c20, e30, e31, e32, e33, e34⟩ (fun hHeld => ?_)
     refine pure_ (i := 0) (N := some 40) (v := ?_) (a' := ?_) #[true, false, false, false, false, false, false, false, false, false, false] rfl rfl (by kernel_rfl) (fun _ _ _ h => h) (Or.inl ⟨by rfl, ?_⟩) ?_ ?_
     rotate_left
     ·intro w'
      go_simp
      with_reducible rfl
     rotate_left
     ·simp only [Act.put, List.setIfInBounds_toArray, List.set_cons_zero, List.set_cons_succ, i64_w, i32_w]
      rfl
     refine pure_ (i := 2) (N := some 42) (v := ?_) (a' := ?_) #[true, false, true, false, false, false, false, false, false, false, false] rfl rfl (by kernel_rfl) (fun _ _ _ h => h) (Or.inl ⟨by rfl, ?_⟩) ?_ ?_
     rotate_left
     ·intro w'
      go_simp
      with_reducible rfl
     rotate_left
     ·simp only [Act.put, List.setIfInBounds_toArray, List.set_cons_zero, List.set_cons_succ, i64_w, i32_w]
      rfl
     refine pure_ (i := 4) (N := some 44) (v := ?_) (a' := ?_) #[true, false, true, false, true, false, false, false, false, false, false] rfl rfl (by kernel_rfl) (fun _ _ _ h => h) (Or.inl ⟨by rfl, ?_⟩) ?_ ?_
     rotate_left
     ·intro w'
      go_simp
      with_reducible rfl
     rotate_left
     ·simp only [Act.put, List.setIfInBounds_toArray, List.set_cons_zero, List.set_cons_succ, i64_w, i32_w]
      rfl
     refine take_ (i := 1) (N := some 41) (v := ?_) (a' := ?_) #[true, true, true, false, true, false, false, false, false, false, false] rfl rfl (by kernel_rfl) (fun _ _ _ h => h) (Or.inl ⟨by rfl, ?_⟩) hHeld ?_ ?_
     rotate_left
     ·rintro w' ⟨s0, s1, s2, s3, s4, s5⟩
      go_simp
      with_reducible rfl
     rotate_left
     ·simp only [Act.put, List.setIfInBounds_toArray, List.set_cons_zero, List.set_cons_succ, i64_w, i32_w]
      rfl
     refine take_ (i := 3) (N := some 43) (v := ?_) (a' := ?_) #[true, true, true, true, true, false, false, false, false, false, false] rfl rfl (by kernel_rfl) (fun _ _ _ h => h) (Or.inl ⟨by rfl, ?_⟩) hHeld ?_ ?_
     rotate_left
     ·rintro w' ⟨s0, s1, s2, s3, s4, s5⟩
      go_simp
      with_reducible rfl
     rotate_left
     ·simp only [Act.put, List.setIfInBounds_toArray, List.set_cons_zero, List.set_cons_succ, i64_w, i32_w]
      rfl
     refine take_ (i := 5) (N := some 45) (v := ?_) (a' := ?_) #[true, true, true, true, true, true, false, false, false, false, false] rfl rfl (by kernel_rfl) (fun _ _ _ h => h) (Or.inl ⟨by rfl, ?_⟩) hHeld ?_ ?_
     rotate_left
     ·rintro w' ⟨s0, s1, s2, s3, s4, s5⟩
      go_simp
      with_reducible rfl
     rotate_left
     ·simp only [Act.put, List.setIfInBounds_toArray, List.set_cons_zero, List.set_cons_succ, i64_w, i32_w]
      rfl
     refine one_ (i := 6) (N := some 46) #[true, true, true, true, true, true, true, false, false, false, false] rfl rfl (by kernel_rfl) (by decide) (fun K hK => ?_)
     refine Kd.R_lit_step k64 (w0 := w9.drew) w9.drew.heap.size 64 (by rfl) (N := 46) rfl (xs := [(⟨r2, a1_1, a1_2, a1_3, a1_4⟩ : S64)]) (inner := [.int .i64 r2, .int .i64 a1_1, .int .i64 a1_2, .string a1_3, .int .i64 a1_4]) (ok := fun _ => True) (okp := fun _ => True) ?hr ?hp (fun _ hk => hk) trivial (Below.refl _ _) (Nat.le_refl _) (by simp) ?_
     case hr => first | (go_simp; done) | (go_simp; rfl)
     case hp => exact Reps.snoc (Reps.none _ _) (k64_mkM _ _ _ (⟨r2, a1_1, a1_2, a1_3, a1_4⟩ : S64)) rfl
     intro v13 w13 hr13 hb13 hg13 hx13
     clear hg13 hx13
     have c20x : w13.cell? ⟨g2, 0, none⟩ = some (.string a0_0) := pw_cell_below hb13 c20
     have e30x : w13.cell? ⟨g3, 0, none⟩ = some (.int .i64 r2) := pw_cell_below hb13 e30
     have e31x : w13.cell? ⟨g3, 1, none⟩ = some (.int .i64 a1_1) := pw_cell_below hb13 e31
     have e32x : w13.cell? ⟨g3, 2, none⟩ = some (.int .i64 a1_2) := pw_cell_below hb13 e32
     have e33x : w13.cell? ⟨g3, 3, none⟩ = some (.string a1_3) := pw_cell_below hb13 e33
     have e34x : w13.cell? ⟨g3, 4, none⟩ = some (.int .i64 a1_4) := pw_cell_below hb13 e34
     obtain ⟨gE, cE, rfl, hgE, _⟩ := Kd.R_form hr13 (by simp)
     have HE13 : Aside0 (Kd.C k64 w13 (some ⟨gE, 0, none⟩) 1 [(⟨r2, a1_1, a1_2, a1_3, a1_4⟩ : S64)]) := ⟨(Kd.R_reads' hr13).2.2⟩
     have HL13 := Aside0.mk hb13
     have HGE := Aside0.mk hgE
     clear hr13 hb13 hgE
     refine hK.out _ _ ⟨c20x, e30x, e31x, e32x, e33x, e34x⟩ (fun hHeld => ?_)
     clear hK K
     refine norm_ (a' := ?_) ?_ ?_
     rotate_left
     ·show Act.put _ (some 46) _ = _
      simp only [Act.put, List.setIfInBounds_toArray, List.set_cons_zero, List.set_cons_succ, i64_w, i32_w]
      rfl
     refine one_ (i := 7) (N := some 47) #[true, true, true, true, true, true, true, true, false, false, false] rfl rfl (by kernel_rfl) (by decide) (fun K hK => ?_)
     refine Kd.R_append_rows_step k64 (w0 := w7) w7.heap.size (by rfl) (.tmp 44) (.tmp 46) 52 64 _ 48 (by rfl) Try.underlying52 info64 (by rfl) (by decide) (by decide) (.slice A9 l0_2.length c9) l0_2 [(⟨r2, a1_1, a1_2, a1_3, a1_4⟩ : S64)] _ _ _ (fun _ => True) (fun _ => False) rfl rfl (Kd.R_below (Kd.R_drew HV9.out) HL13.out) HE13.out (fun _ _ h => h) (fun _ h => h.elim) (fun _ _ => trivial) (below_step (below_drew HL9.out) HL13.out) (below_size (below_step (below_drew HL9.out) HL13.out)) HAM.out ?_
     intro v14 w14 hr14 hb14 hg14 hat14
     clear hg14 hat14
     have c20y : w14.cell? ⟨g2, 0, none⟩ = some (.string a0_0) := (blk_cell (blk_below HT2.out hb14) 0).trans rfl
     have e30y : w14.cell? ⟨g3, 0, none⟩ = some (.int .i64 r2) := (blk_cell (blk_below HT3.out hb14) 0).trans rfl
     have e31y : w14.cell? ⟨g3, 1, none⟩ = some (.int .i64 a1_1) := (blk_cell (blk_below HT3.out hb14) 1).trans rfl
     have e32y : w14.cell? ⟨g3, 2, none⟩ = some (.int .i64 a1_2) := (blk_cell (blk_below HT3.out hb14) 2).trans rfl
     have e33y : w14.cell? ⟨g3, 3, none⟩ = some (.string a1_3) := (blk_cell (blk_below HT3.out hb14) 3).trans rfl
     have e34y : w14.cell? ⟨g3, 4, none⟩ = some (.int .i64 a1_4) := (blk_cell (blk_below HT3.out hb14) 4).trans rfl
     have HL14 := Aside0.mk hb14
     have HT14 := Aside0.mk (blk_below HT4.out hb14)
     have c40 : w14.cell? ⟨g4, 0, none⟩ = some (.string ⟨#[]⟩) := (blk_cell HT14.out 0).trans rfl
     have c41 : w14.cell? ⟨g4, 1, none⟩ = some (.int .i64 0) := (blk_cell HT14.out 1).trans rfl
     have c42 : w14.cell? ⟨g4, 2, none⟩ = some (.slice none 0 0) := (blk_cell HT14.out 2).trans rfl
     have f40 : w14.frozen? ⟨g4, 0, none⟩ = false := blk_frozen HT14.out 0
     have f41 : w14.frozen? ⟨g4, 1, none⟩ = false := blk_frozen HT14.out 1
     have f42 : w14.frozen? ⟨g4, 2, none⟩ = false := blk_frozen HT14.out 2
     obtain ⟨A14, n14, c14, rfl⟩ := R_shape hr14
     have HV14 := Aside0.mk hr14
     clear hr14 hb14
     refine hK.out _ _ ⟨c20y, e30y, e31y, e32y, e33y, e34y⟩ (fun hHeld => ?_)
     clear hK K
     refine norm_ (a' := ?_) ?_ ?_
     rotate_left
     ·show Act.put _ (some 47) _ = _
      simp only [Act.put, List.setIfInBounds_toArray, List.set_cons_zero, List.set_cons_succ, i64_w, i32_w]
      rfl
     refine pure_ (i := 8) (N := some 48) (v := ?_) (a' := ?_) #[true, true, true, true, true, true, true, true, true, false, false] rfl rfl (by kernel_rfl) (fun _ _ _ h => h) (Or.inl ⟨by rfl, ?_⟩) ?_ ?_
     rotate_left
     ·intro w'
      go_simp
      with_reducible rfl
     rotate_left
     ·simp only [Act.put, List.setIfInBounds_toArray, List.set_cons_zero, List.set_cons_succ, i64_w, i32_w]
      rfl
     refine last_ (i := 9) (N := none) #[true, true, true, true, true, true, true, true, true, true, false] rfl rfl (by kernel_rfl) (by decide) (fun K hK => ?_)
     refine skip_ (w1 := ?_) (by rfl) rfl ?_ ?_
     rotate_left
     ·go_simp
      rfl
     refine hK.out _ _ ?_
     clear hK K
     refine pure_ (i := 10) (N := some 5) (v := ?_) (a' := ?_) #[true, true, true, true, true, true, true, true, true, true, true] rfl rfl (by kernel_rfl) (fun _ _ _ h => h) (Or.inl ⟨by rfl, ?_⟩) ?_ ?_
     rotate_left
     ·intro w'
      go_simp
      with_reducible rfl
     rotate_left
     ·simp only [Act.put, List.setIfInBounds_toArray, List.set_cons_zero, List.set_cons_succ, i64_w, i32_w]
      rfl
     refine done_ (by kernel_rfl) ?_
     have q1 := blk_set HT14.out 0 (.string a0_0)
     have q2 := blk_set q1 1 (.int .i64 r2)
     have q3 := blk_set q2 2 (.slice A14 n14 c14)
     have hv1 := Kd.R_set HV14.out HT14.out (by decide) 0 (.string a0_0)
     have hv2 := Kd.R_set hv1 q1 (by decide) 1 (.int .i64 r2)
     have hv3 := Kd.R_set hv2 q2 (by decide) 2 (.slice A14 n14 c14)
     have hl14 := below_step HL7.out HL14.out
     have hl := below_set (j := 2) (v := .slice A14 n14 c14) (below_set (j := 1) (v := .int .i64 r2) (below_set (j := 0) (v := .string a0_0) hl14 W4.out) W4.out) W4.out
     have Q3 := Aside0.mk q3
     have HV := Aside0.mk (Kd.R_lower hv3 (below_size HL7.out))
     have HLL := Aside0.mk hl
     clear q1 q2 q3 hv1 hv2 hv3 hl14 hl hHeld
     go_wp2
     refine bodyPost_ret_by (results_ct rfl _ _ g4 56 #[.string a0_0, .int .i64 r2, .slice A14 n14 c14] (0, 0) _ rfl Q3.out hu56 rfl HI56.out) rfl ?_
     exact ⟨_, rfl, HV.out, HLL.out⟩
    ·rw [if_neg h9] at h0
     cases h0
end Go.Proofs.Ytcdnmlfnfhoieaa.A

namespace Go.Proofs.Ytcdnmlfnfhoieaa.A
open Go.RowKit Go.Proofs.YtcdnmlfnfhoieaaW.PrintWords Go.Proofs.YtcdnmlfnfhoieaaW.PrintLast Go.Proofs.YtcdnmlfnfhoieaaW.PrintMore
attribute [local go_sem] max2_int min2_int max_two min_two max_three min_three max_four min_four
set_option linter.unusedVariables false
set_option linter.unusedSimpArgs false
/-! ### audit_New: function 35 -/
def audit_New.f  : Option (ByteArray × Int × (List (S64))) := if 32 ≤ 281474976710656 then (some (strOfNums (List.replicate 32 0), 0, ([] : List (S64)))) else (none)
set_option maxHeartbeats 8000000 in
set_option maxRecDepth 100000 in
theorem audit_New.calls  (r1 : ByteArray) (r2 : Int) (r3 : List (S64)) (w : World) (h : audit_New.f  = some (r1, r2, r3)) :
  Calls Try.prog 35 #[] w fun e w' => ∃ v2_ : Value, e = .returned (.agg #[.string r1, .int .i64 r2, v2_]) ∧ Kd.R k64 64 w' w.heap.size (fun _ => True) v2_ r3 ∧ Below w.heap.size w w' := by
 have hu56 := Try.underlying56
 have HB := Aside0.mk (Below.refl w.heap.size w)
 have H : (if 32 ≤ 281474976710656 then (some (strOfNums (List.replicate 32 0), 0, ([] : List (S64)))) else (none)) = some (r1, r2, r3) := h
 clear h
 by_cases c1 : 32 ≤ 281474976710656
 ·rw [if_pos c1] at H
  have c1b0 := eq_true c1
  have c1b1 : decide (32 ≤ 281474976710656) = true := decide_eq_true c1
  clear c1
  obtain ⟨y251, hy251⟩ : ∃ y_ : List Int, y_ = (List.replicate 32 0) := ⟨_, rfl⟩
  replace H : (some (strOfNums y251, 0, ([] : List (S64)))) = some (r1, r2, r3) := by first | (rw [hy251]; with_reducible exact H) | (have H2_ := (Option.bind_some _ _).symm.trans H; rw [hy251]; with_reducible exact H2_) | (have H2_ := (Option.bind_some _ _).symm.trans H; with_reducible exact H2_) | with_reducible exact H | (rw [hy251]; exact H) | exact H
  have Ny251 := Aside0.mk hy251
  clear hy251
  simp only [Option.some.injEq, Prod.mk.injEq] at H
  obtain ⟨rfl, rfl, rfl⟩ := H
  go_enter Try.func35, Try.ntmps35
  go_wp2_with (first | ((with_reducible refine gate_dst (N := 0) rfl ?_); refine box_event ?hg (N := 0) ?hd (cs := #[.string (⟨#[]⟩ : ByteArray), .int .i64 0, .slice none 0 0]) (t := 56) ?hr ?_; (case hd => rfl); (case hg => rfl); (case hr => first | (go_simp; done) | (go_simp; rfl)); intro gb250 hg w2 hbox hb; have n0_ := Aside0.mk (below_step (by repeat (first | (with_reducible first | exact HB.out | apply below_alloc | apply pw_below_drewN | apply below_drew1) | exact HB.out)) hb); have n1_ := Aside0.mk (hbox); have n2_ := Aside0.mk ((by rw [hg]; exact (below_size (by repeat (first | (with_reducible first | exact HB.out | apply below_alloc | apply pw_below_drewN | apply below_drew1) | exact HB.out))) : w.heap.size ≤ gb250)); have n3_ := Aside0.mk ((by rw [hg]; exact (below_size (by repeat (first | (with_reducible first | exact HB.out | apply below_alloc | apply pw_below_drewN | apply below_drew1) | exact HB.out))) : w.heap.size ≤ gb250)); clear HB; have HB := n0_; have BK250 := n1_; have GW250 := n2_; have GE250 := n3_; clear n0_ n1_ n2_ n3_; clear hb hbox hg) | ((with_reducible refine gate_dst (N := 1) rfl ?_); refine Kd.R_make (Kd.int .u8) _ 5 rfl (N := 1) rfl 23 _ _ rfl 32 rfl rfl Try.underlying23 (.int .u8 0) 1 info5 rfl (by decide) (by omega) 0 (ok := fun _ => True) (okp := fun _ => True) rfl (fun _ hk => hk) trivial (by omega) (by omega) (Below.refl _ _) (Nat.le_refl _) ?_; intro v252 w3 ho4 hb hg_ hnew_; clear hg_ hnew_; (first | rw [← Ny251.out] at ho4 | (simp only [Int.reduceToNat] at ho4; rw [← Ny251.out] at ho4)); have n0_ := Aside0.mk (Kd.R_lower ho4 (below_size (by repeat (first | (with_reducible first | exact HB.out | apply below_alloc | apply pw_below_drewN | apply below_drew1 | refine below_set ?_ GE250.out) | exact HB.out)))); have n1_ := Aside0.mk (blk_below (g := gb250) (o := .cells #[.string (⟨#[]⟩ : ByteArray), .int .i64 0, .slice none 0 0] 56 (0, 0)) (by (with_reducible repeat (first | refine blk_drewN ?_ _ | refine blk_drew ?_ | refine blk_alloc ?_ _)); exact BK250.out) hb); have n2_ := Aside0.mk (below_step (by repeat (first | (with_reducible first | exact HB.out | apply below_alloc | apply pw_below_drewN | apply below_drew1 | refine below_set ?_ GE250.out) | exact HB.out)) hb); clear BK250; clear HB; have HO253 := n0_; have BK250 := n1_; have HB := n2_; clear n0_ n1_ n2_; clear hb ho4; have hcv5 := own_string (P := Try.prog) Try.underlying23 Try.underlying5 Try.underlying9 (Kd.own_of_R HO253.out); have hcz6_0 : w3.cell? ⟨gb250, 0, none⟩ = some (.string (⟨#[]⟩ : ByteArray)) := (blk_cell BK250.out 0).trans rfl; have hcz6_1 : w3.cell? ⟨gb250, 1, none⟩ = some (.int .i64 0) := (blk_cell BK250.out 1).trans rfl; have hcz6_2 : w3.cell? ⟨gb250, 2, none⟩ = some (.slice none 0 0) := (blk_cell BK250.out 2).trans rfl; have hfz6_0 := blk_frozen BK250.out 0; have hfz6_1 := blk_frozen BK250.out 1; have hfz6_2 := blk_frozen BK250.out 2))
  refine bodyPost_ret (results_cell_row rfl _ _ gb250 56 #[.string (strOfNums y251), .int .i64 0, .slice none 0 0] (0, 0) _ rfl (by (with_reducible repeat (first | refine blk_drewN ?_ _ | refine blk_drew ?_ | refine blk_alloc ?_ _)); refine blk_put (cs := #[.string (strOfNums y251), .int .i64 0, .slice none 0 0]) ?_ 2 _ rfl; (with_reducible repeat (first | refine blk_drewN ?_ _ | refine blk_drew ?_ | refine blk_alloc ?_ _)); refine blk_put (cs := #[.string (strOfNums y251), .int .i64 0, .slice none 0 0]) ?_ 1 _ rfl; (with_reducible repeat (first | refine blk_drewN ?_ _ | refine blk_drew ?_ | refine blk_alloc ?_ _)); refine blk_put (cs := #[.string (⟨#[]⟩ : ByteArray), .int .i64 0, .slice none 0 0]) ?_ 0 _ rfl; (with_reducible repeat (first | refine blk_drewN ?_ _ | refine blk_drew ?_ | refine blk_alloc ?_ _)); exact BK250.out) Try.underlying56 rfl (by kernel_rfl)) rfl ?_
  exact ⟨_, by first | rfl | (simp [errW_none, errW_some] <;> rfl) | (simp [*, errW_none, errW_some] <;> rfl), by first | exact Kd.R_nil _ _ _ _ _ | exact Kd.N_nil _ _ _ _ _ | exact Kd.V_nil _ _ _ _ _ | exact Kd.Q_nil _ _ _ _ _ | exact Kd.S_nil _ _ _ _ _, by repeat (first | (with_reducible first | exact HB.out | apply below_alloc | apply pw_below_drewN | apply below_drew1 | refine below_set ?_ GE250.out) | exact HB.out)⟩
 ·rw [if_neg c1] at H
  exact absurd H (by simp)
end Go.Proofs.Ytcdnmlfnfhoieaa.A
