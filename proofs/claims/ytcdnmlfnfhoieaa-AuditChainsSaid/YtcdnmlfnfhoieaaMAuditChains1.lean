/- What the claim's last text reaches, in build order (part 2 of 5): each text's own remark stands at its head. No condition beyond those. -/
import Derived.Test.YtcdnmlfnfhoieaaMSha0
import Derived.Test.YtcdnmlfnfhoieaaMAuditChains0

namespace Go.Proofs.Ytcdnmlfnfhoieaa.A
open Go.RowKit Go.Proofs.YtcdnmlfnfhoieaaW.PrintWords Go.Proofs.YtcdnmlfnfhoieaaW.PrintLast Go.Proofs.YtcdnmlfnfhoieaaW.PrintMore
attribute [local go_sem] max2_int min2_int max_two min_two max_three min_three max_four min_four
set_option linter.unusedVariables false
set_option linter.unusedSimpArgs false

/-! ### strongroomref13_Bytes: function 48 -/
def strongroomref13_Bytes.f (k : Nat) (a0_0 : Int) (a0_1 : Int) (a0_2 : Int) (a0_3 : ByteArray) (a0_4 : Int) : Option (ByteArray) := (strongroomref01_Put.f k (IntKind.u64.wrap (a0_0))).bind fun t293 => ((strongroomref01_Put.f k (IntKind.u64.wrap (a0_1))).bind fun t294 => (if t293.size + t294.size ≤ 9223372036854775807 then ((strongroomref01_Put.f k (IntKind.u64.wrap (a0_2))).bind fun t295 => (if (t293 ++ t294).size + t295.size ≤ 9223372036854775807 then ((strongroomref01_Text.f k a0_3).bind fun t296 => (if ((t293 ++ t294) ++ t295).size + t296.size ≤ 9223372036854775807 then ((strongroomref01_Put.f k (IntKind.u64.wrap (a0_4))).bind fun t297 => (if (((t293 ++ t294) ++ t295) ++ t296).size + t297.size ≤ 9223372036854775807 then (some ((((t293 ++ t294) ++ t295) ++ t296) ++ t297)) else (none))) else (none))) else (none))) else (none)))
theorem strongroomref13_Bytes.mono : ∀ a0 a1 a2 a3 a4 k, LeO (strongroomref13_Bytes.f k a0 a1 a2 a3 a4) (strongroomref13_Bytes.f (k + 1) a0 a1 a2 a3 a4) := by
 intro a0 a1 a2 a3 a4 k
 unfold strongroomref13_Bytes.f
 repeat' first
   | (with_reducible exact strongroomref01_Put.mono _ _)
   | (with_reducible exact strongroomref01_Text.mono _ _)
   | (with_reducible exact LeO.refl _)
   | (with_reducible exact LeO.none _)
   | (with_reducible refine LeO.ite ?_ ?_)
   | (with_reducible refine LeO.bind ?_ (fun _ => ?_))
   | exact strongroomref01_Put.mono _ _
   | exact strongroomref01_Text.mono _ _
   | exact LeO.none _
   | refine LeO.ite ?_ ?_
   | refine LeO.bind ?_ (fun _ => ?_)
def strongroomref13_Bytes.T1 : Bool × List (List Nat × List Nat) := (true, [([], []), ([0], [0]), ([1], [1]), ([2], [2]), ([], []), ([4], [4]), ([5], [5]), ([6, 3], [6]), ([3, 7], [3, 7]), ([], []), ([9], [9]), ([10], [10]), ([11, 7], [11]), ([8, 12], [8, 12]), ([], []), ([14], [14]), ([15, 12], [15]), ([13, 16], [13, 16]), ([], []), ([18], [18]), ([19], [19]), ([20, 16], [20]), ([17, 21], [17, 21]), ([22, 21, 0, 1, 2, 3, 4, 5, 6, 7, 8, 9, 10, 11, 12, 13, 14, 15, 16, 17, 18, 19, 20, 21, 22], [22])])
def strongroomref13_Bytes.B1 : List Nat := [0, 1, 3, 7, 0, 16, 48, 127, 255, 0, 512, 1536, 3839, 8191, 0, 16384, 57087, 131071, 0, 262144, 786432, 1957631, 4194303, 8388607]
theorem strongroomref13_Bytes.tab1 : rtab .any (opsOf Try.f48 1) = strongroomref13_Bytes.T1 := by kernel_rfl
theorem strongroomref13_Bytes.bits1 : waitsOk strongroomref13_Bytes.T1.2 strongroomref13_Bytes.B1 = true := by kernel_rfl
set_option maxHeartbeats 8000000 in
set_option maxRecDepth 100000 in
theorem strongroomref13_Bytes.calls (k : Nat) (a0_0 : Int) (a0_1 : Int) (a0_2 : Int) (a0_3 : ByteArray) (a0_4 : Int) (r : ByteArray) (w : World) (h : strongroomref13_Bytes.f k a0_0 a0_1 a0_2 a0_3 a0_4 = some r) :
  Calls Try.prog 48 #[.agg #[.int .i64 a0_0, .int .i64 a0_1, .int .i64 a0_2, .string a0_3, .int .i64 a0_4]] w fun e w' => e = .returned (.string r) ∧ Below w.heap.size w w' := by
 have hu64 := Try.underlying64
 have HB := Aside0.mk (Below.refl w.heap.size w)
 have H : ((strongroomref01_Put.f k (IntKind.u64.wrap (a0_0))).bind fun t293 => ((strongroomref01_Put.f k (IntKind.u64.wrap (a0_1))).bind fun t294 => (if t293.size + t294.size ≤ 9223372036854775807 then ((strongroomref01_Put.f k (IntKind.u64.wrap (a0_2))).bind fun t295 => (if (t293 ++ t294).size + t295.size ≤ 9223372036854775807 then ((strongroomref01_Text.f k a0_3).bind fun t296 => (if ((t293 ++ t294) ++ t295).size + t296.size ≤ 9223372036854775807 then ((strongroomref01_Put.f k (IntKind.u64.wrap (a0_4))).bind fun t297 => (if (((t293 ++ t294) ++ t295) ++ t296).size + t297.size ≤ 9223372036854775807 then (some ((((t293 ++ t294) ++ t295) ++ t296) ++ t297)) else (none))) else (none))) else (none))) else (none)))) = some r := h
 clear h
 replace H := Option.bind_eq_some_iff.mp H
 obtain ⟨t293, A20, H⟩ := H
 replace H : ((strongroomref01_Put.f k (IntKind.u64.wrap (a0_1))).bind fun t294 => (if t293.size + t294.size ≤ 9223372036854775807 then ((strongroomref01_Put.f k (IntKind.u64.wrap (a0_2))).bind fun t295 => (if (t293 ++ t294).size + t295.size ≤ 9223372036854775807 then ((strongroomref01_Text.f k a0_3).bind fun t296 => (if ((t293 ++ t294) ++ t295).size + t296.size ≤ 9223372036854775807 then ((strongroomref01_Put.f k (IntKind.u64.wrap (a0_4))).bind fun t297 => (if (((t293 ++ t294) ++ t295) ++ t296).size + t297.size ≤ 9223372036854775807 then (some ((((t293 ++ t294) ++ t295) ++ t296) ++ t297)) else (none))) else (none))) else (none))) else (none))) = some r := H
 have A2 := Aside0.mk A20
 clear A20
 replace H := Option.bind_eq_some_iff.mp H
 obtain ⟨t294, A30, H⟩ := H
 replace H : (if t293.size + t294.size ≤ 9223372036854775807 then ((strongroomref01_Put.f k (IntKind.u64.wrap (a0_2))).bind fun t295 => (if (t293 ++ t294).size + t295.size ≤ 9223372036854775807 then ((strongroomref01_Text.f k a0_3).bind fun t296 => (if ((t293 ++ t294) ++ t295).size + t296.size ≤ 9223372036854775807 then ((strongroomref01_Put.f k (IntKind.u64.wrap (a0_4))).bind fun t297 => (if (((t293 ++ t294) ++ t295) ++ t296).size + t297.size ≤ 9223372036854775807 then (some ((((t293 ++ t294) ++ t295) ++ t296) ++ t297)) else (none))) else (none))) else (none))) else (none)) = some r := H
 have A3 := Aside0.mk A30
 clear A30
 by_cases c4 : t293.size + t294.size ≤ 9223372036854775807
 ·rw [if_pos c4] at H
  have c4b0 := eq_true c4
  have c4b1 : decide (t293.size + t294.size ≤ 9223372036854775807) = true := decide_eq_true c4
  try have c4b2 : (9223372036854775807 < t293.size + t294.size) = False := eq_false (Nat.not_lt.2 c4)
  replace H := Option.bind_eq_some_iff.mp H
  obtain ⟨t295, A50, H⟩ := H
  replace H : (if (t293 ++ t294).size + t295.size ≤ 9223372036854775807 then ((strongroomref01_Text.f k a0_3).bind fun t296 => (if ((t293 ++ t294) ++ t295).size + t296.size ≤ 9223372036854775807 then ((strongroomref01_Put.f k (IntKind.u64.wrap (a0_4))).bind fun t297 => (if (((t293 ++ t294) ++ t295) ++ t296).size + t297.size ≤ 9223372036854775807 then (some ((((t293 ++ t294) ++ t295) ++ t296) ++ t297)) else (none))) else (none))) else (none)) = some r := H
  have A5 := Aside0.mk A50
  clear A50
  by_cases c6 : (t293 ++ t294).size + t295.size ≤ 9223372036854775807
  ·rw [if_pos c6] at H
   have c6b0 := eq_true c6
   have c6b1 : decide ((t293 ++ t294).size + t295.size ≤ 9223372036854775807) = true := decide_eq_true c6
   try have c6b2 : (9223372036854775807 < (t293 ++ t294).size + t295.size) = False := eq_false (Nat.not_lt.2 c6)
   try have c6b3 := c6b2
   try simp only [ByteArray.size_append] at c6b3
   replace H := Option.bind_eq_some_iff.mp H
   obtain ⟨t296, A70, H⟩ := H
   replace H : (if ((t293 ++ t294) ++ t295).size + t296.size ≤ 9223372036854775807 then ((strongroomref01_Put.f k (IntKind.u64.wrap (a0_4))).bind fun t297 => (if (((t293 ++ t294) ++ t295) ++ t296).size + t297.size ≤ 9223372036854775807 then (some ((((t293 ++ t294) ++ t295) ++ t296) ++ t297)) else (none))) else (none)) = some r := H
   have A7 := Aside0.mk A70
   clear A70
   by_cases c8 : ((t293 ++ t294) ++ t295).size + t296.size ≤ 9223372036854775807
   ·rw [if_pos c8] at H
    have c8b0 := eq_true c8
    have c8b1 : decide (((t293 ++ t294) ++ t295).size + t296.size ≤ 9223372036854775807) = true := decide_eq_true c8
    try have c8b2 : (9223372036854775807 < ((t293 ++ t294) ++ t295).size + t296.size) = False := eq_false (Nat.not_lt.2 c8)
    try have c8b3 := c8b2
    try simp only [ByteArray.size_append] at c8b3
    replace H := Option.bind_eq_some_iff.mp H
    obtain ⟨t297, A90, H⟩ := H
    replace H : (if (((t293 ++ t294) ++ t295) ++ t296).size + t297.size ≤ 9223372036854775807 then (some ((((t293 ++ t294) ++ t295) ++ t296) ++ t297)) else (none)) = some r := H
    have A9 := Aside0.mk A90
    clear A90
    by_cases c10 : (((t293 ++ t294) ++ t295) ++ t296).size + t297.size ≤ 9223372036854775807
    ·rw [if_pos c10] at H
     have c10b0 := eq_true c10
     have c10b1 : decide ((((t293 ++ t294) ++ t295) ++ t296).size + t297.size ≤ 9223372036854775807) = true := decide_eq_true c10
     try have c10b2 : (9223372036854775807 < (((t293 ++ t294) ++ t295) ++ t296).size + t297.size) = False := eq_false (Nat.not_lt.2 c10)
     try have c10b3 := c10b2
     try simp only [ByteArray.size_append] at c10b3
     obtain rfl := Option.some.inj H
     go_enter Try.func48, Try.ntmps48
     try go_wp2_with (first | ((with_reducible refine gate_dst (N := 1) rfl ?_); refine box_event ?hg (N := 1) ?hd (cs := #[.int .i64 a0_0, .int .i64 a0_1, .int .i64 a0_2, .string a0_3, .int .i64 a0_4]) (t := 64) ?hr ?_; (case hd => rfl); (case hg => rfl); (case hr => first | (go_simp; done) | (go_simp; rfl)); intro gb292 hg w11 hbox hb; have n0_ := Aside0.mk (below_step (by repeat (first | (with_reducible first | exact HB.out | apply below_alloc | apply pw_below_drewN | apply below_drew1) | exact HB.out)) hb); have n1_ := Aside0.mk (hbox); have n2_ := Aside0.mk ((by rw [hg]; exact (below_size (by repeat (first | (with_reducible first | exact HB.out | apply below_alloc | apply pw_below_drewN | apply below_drew1) | exact HB.out))) : w.heap.size ≤ gb292)); have n3_ := Aside0.mk ((by rw [hg]; exact (below_size (by repeat (first | (with_reducible first | exact HB.out | apply below_alloc | apply pw_below_drewN | apply below_drew1) | exact HB.out))) : w.heap.size ≤ gb292)); clear HB; have HB := n0_; have BK292 := n1_; have GW292 := n2_; have GE292 := n3_; clear n0_ n1_ n2_ n3_; clear hb hbox hg))
     have n0_ := Aside0.mk (blk_drew BK292.out)
     have n1_ := Aside0.mk (below_drew1 HB.out)
     clear BK292
     clear HB
     have BK292 := n0_
     have HB := n1_
     clear n0_ n1_
     refine start_ (n := 24) (S := fun w' => w'.cell? ⟨gb292, 0, none⟩ = some (.int .i64 a0_0) ∧ w'.cell? ⟨gb292, 1, none⟩ = some (.int .i64 a0_1) ∧ w'.cell? ⟨gb292, 2, none⟩ = some (.int .i64 a0_2) ∧ w'.cell? ⟨gb292, 3, none⟩ = some (.string a0_3) ∧ w'.cell? ⟨gb292, 4, none⟩ = some (.int .i64 a0_4)) (ds := []) #[false, false, false, false, false, false, false, false, false, false, false, false, false, false, false, false, false, false, false, false, false, false, false, false] (by kernel_rfl) rfl rfl ⟨(blk_cell BK292.out 0).trans rfl, (blk_cell BK292.out 1).trans rfl, (blk_cell BK292.out 2).trans rfl, (blk_cell BK292.out 3).trans rfl, (blk_cell BK292.out 4).trans rfl⟩ (fun hHeld => ?_); refine with_tabW strongroomref13_Bytes.tab1 strongroomref13_Bytes.bits1 (fun HT_ HW_ => ?_)
     generalize w11.drew = w12 at BK292 HB hHeld ⊢
     refine pure_ (i := 0) (N := some 3) (v := ?_) (a' := ?_) #[true, false, false, false, false, false, false, false, false, false, false, false, false, false, false, false, false, false, false, false, false, false, false, false] rfl rfl (any_of HT_.out (by kernel_rfl)) (fun _ _ _ h => h) (Or.inl ⟨by rfl, ?_⟩) ?_ ?_
     rotate_left
     ·intro w'
      go_simp
      with_reducible rfl
     rotate_left
     ·simp only [Act.put, List.setIfInBounds_toArray, List.set_cons_zero, List.set_cons_succ, i64_w, i32_w]
      rfl
     refine pure_ (i := 4) (N := some 7) (v := ?_) (a' := ?_) #[true, false, false, false, true, false, false, false, false, false, false, false, false, false, false, false, false, false, false, false, false, false, false, false] rfl rfl (any_of HT_.out (by kernel_rfl)) (fun _ _ _ h => h) (Or.inl ⟨by rfl, ?_⟩) ?_ ?_
     rotate_left
     ·intro w'
      go_simp
      with_reducible rfl
     rotate_left
     ·simp only [Act.put, List.setIfInBounds_toArray, List.set_cons_zero, List.set_cons_succ, i64_w, i32_w]
      rfl
     refine pure_ (i := 9) (N := some 12) (v := ?_) (a' := ?_) #[true, false, false, false, true, false, false, false, false, true, false, false, false, false, false, false, false, false, false, false, false, false, false, false] rfl rfl (any_of HT_.out (by kernel_rfl)) (fun _ _ _ h => h) (Or.inl ⟨by rfl, ?_⟩) ?_ ?_
     rotate_left
     ·intro w'
      go_simp
      with_reducible rfl
     rotate_left
     ·simp only [Act.put, List.setIfInBounds_toArray, List.set_cons_zero, List.set_cons_succ, i64_w, i32_w]
      rfl
     refine pure_ (i := 14) (N := some 17) (v := ?_) (a' := ?_) #[true, false, false, false, true, false, false, false, false, true, false, false, false, false, true, false, false, false, false, false, false, false, false, false] rfl rfl (any_of HT_.out (by kernel_rfl)) (fun _ _ _ h => h) (Or.inl ⟨by rfl, ?_⟩) ?_ ?_
     rotate_left
     ·intro w'
      go_simp
      with_reducible rfl
     rotate_left
     ·simp only [Act.put, List.setIfInBounds_toArray, List.set_cons_zero, List.set_cons_succ, i64_w, i32_w]
      rfl
     refine pure_ (i := 18) (N := some 21) (v := ?_) (a' := ?_) #[true, false, false, false, true, false, false, false, false, true, false, false, false, false, true, false, false, false, true, false, false, false, false, false] rfl rfl (any_of HT_.out (by kernel_rfl)) (fun _ _ _ h => h) (Or.inl ⟨by rfl, ?_⟩) ?_ ?_
     rotate_left
     ·intro w'
      go_simp
      with_reducible rfl
     rotate_left
     ·simp only [Act.put, List.setIfInBounds_toArray, List.set_cons_zero, List.set_cons_succ, i64_w, i32_w]
      rfl
     refine take_ (i := 1) (N := some 4) (v := ?_) (a' := ?_) #[true, true, false, false, true, false, false, false, false, true, false, false, false, false, true, false, false, false, true, false, false, false, false, false] rfl rfl (take_ofW HT_.out HW_.out (by kernel_rfl)) (fun _ _ _ h => h) (Or.inl ⟨by rfl, ?_⟩) hHeld ?_ ?_
     rotate_left
     ·rintro w' ⟨s0, s1, s2, s3, s4⟩
      go_simp
      with_reducible rfl
     rotate_left
     ·simp only [Act.put, List.setIfInBounds_toArray, List.set_cons_zero, List.set_cons_succ, i64_w, i32_w]
      rfl
     refine pure_ (i := 2) (N := some 5) (v := ?_) (a' := ?_) #[true, true, true, false, true, false, false, false, false, true, false, false, false, false, true, false, false, false, true, false, false, false, false, false] rfl rfl (any_of HT_.out (by kernel_rfl)) (fun _ _ _ h => h) (Or.inl ⟨by rfl, ?_⟩) ?_ ?_
     rotate_left
     ·intro w'
      go_simp
      with_reducible rfl
     rotate_left
     ·simp only [Act.put, List.setIfInBounds_toArray, List.set_cons_zero, List.set_cons_succ, i64_w, i32_w]
      rfl
     refine take_ (i := 5) (N := some 8) (v := ?_) (a' := ?_) #[true, true, true, false, true, true, false, false, false, true, false, false, false, false, true, false, false, false, true, false, false, false, false, false] rfl rfl (take_ofW HT_.out HW_.out (by kernel_rfl)) (fun _ _ _ h => h) (Or.inl ⟨by rfl, ?_⟩) hHeld ?_ ?_
     rotate_left
     ·rintro w' ⟨s0, s1, s2, s3, s4⟩
      go_simp
      with_reducible rfl
     rotate_left
     ·simp only [Act.put, List.setIfInBounds_toArray, List.set_cons_zero, List.set_cons_succ, i64_w, i32_w]
      rfl
     refine pure_ (i := 6) (N := some 9) (v := ?_) (a' := ?_) #[true, true, true, false, true, true, true, false, false, true, false, false, false, false, true, false, false, false, true, false, false, false, false, false] rfl rfl (any_of HT_.out (by kernel_rfl)) (fun _ _ _ h => h) (Or.inl ⟨by rfl, ?_⟩) ?_ ?_
     rotate_left
     ·intro w'
      go_simp
      with_reducible rfl
     rotate_left
     ·simp only [Act.put, List.setIfInBounds_toArray, List.set_cons_zero, List.set_cons_succ, i64_w, i32_w]
      rfl
     refine take_ (i := 10) (N := some 13) (v := ?_) (a' := ?_) #[true, true, true, false, true, true, true, false, false, true, true, false, false, false, true, false, false, false, true, false, false, false, false, false] rfl rfl (take_ofW HT_.out HW_.out (by kernel_rfl)) (fun _ _ _ h => h) (Or.inl ⟨by rfl, ?_⟩) hHeld ?_ ?_
     rotate_left
     ·rintro w' ⟨s0, s1, s2, s3, s4⟩
      go_simp
      with_reducible rfl
     rotate_left
     ·simp only [Act.put, List.setIfInBounds_toArray, List.set_cons_zero, List.set_cons_succ, i64_w, i32_w]
      rfl
     refine pure_ (i := 11) (N := some 14) (v := ?_) (a' := ?_) #[true, true, true, false, true, true, true, false, false, true, true, true, false, false, true, false, false, false, true, false, false, false, false, false] rfl rfl (any_of HT_.out (by kernel_rfl)) (fun _ _ _ h => h) (Or.inl ⟨by rfl, ?_⟩) ?_ ?_
     rotate_left
     ·intro w'
      go_simp
      with_reducible rfl
     rotate_left
     ·simp only [Act.put, List.setIfInBounds_toArray, List.set_cons_zero, List.set_cons_succ, i64_w, i32_w]
      rfl
     refine take_ (i := 15) (N := some 18) (v := ?_) (a' := ?_) #[true, true, true, false, true, true, true, false, false, true, true, true, false, false, true, true, false, false, true, false, false, false, false, false] rfl rfl (take_ofW HT_.out HW_.out (by kernel_rfl)) (fun _ _ _ h => h) (Or.inl ⟨by rfl, ?_⟩) hHeld ?_ ?_
     rotate_left
     ·rintro w' ⟨s0, s1, s2, s3, s4⟩
      go_simp
      with_reducible rfl
     rotate_left
     ·simp only [Act.put, List.setIfInBounds_toArray, List.set_cons_zero, List.set_cons_succ, i64_w, i32_w]
      rfl
     refine take_ (i := 19) (N := some 22) (v := ?_) (a' := ?_) #[true, true, true, false, true, true, true, false, false, true, true, true, false, false, true, true, false, false, true, true, false, false, false, false] rfl rfl (take_ofW HT_.out HW_.out (by kernel_rfl)) (fun _ _ _ h => h) (Or.inl ⟨by rfl, ?_⟩) hHeld ?_ ?_
     rotate_left
     ·rintro w' ⟨s0, s1, s2, s3, s4⟩
      go_simp
      with_reducible rfl
     rotate_left
     ·simp only [Act.put, List.setIfInBounds_toArray, List.set_cons_zero, List.set_cons_succ, i64_w, i32_w]
      rfl
     refine pure_ (i := 20) (N := some 23) (v := ?_) (a' := ?_) #[true, true, true, false, true, true, true, false, false, true, true, true, false, false, true, true, false, false, true, true, true, false, false, false] rfl rfl (any_of HT_.out (by kernel_rfl)) (fun _ _ _ h => h) (Or.inl ⟨by rfl, ?_⟩) ?_ ?_
     rotate_left
     ·intro w'
      go_simp
      with_reducible rfl
     rotate_left
     ·simp only [Act.put, List.setIfInBounds_toArray, List.set_cons_zero, List.set_cons_succ, i64_w, i32_w]
      rfl
     refine one_ (i := 3) (N := some 6) #[true, true, true, true, true, true, true, false, false, true, true, true, false, false, true, true, false, false, true, true, true, false, false, false] rfl rfl (one_of HT_.out (by kernel_rfl)) (by decide) (fun K hK => ?_)
     refine goes_ Try.func67 (by kernel_rfl) rfl #[.int .u64 (IntKind.u64.wrap (a0_0))] (by rfl) rfl rfl (by (try simp only [List.map_toArray, List.map_cons, List.map_nil]); first | done | rfl | (simp only [List.length_drop, List.length_take]; rfl)) ?_
     with_reducible refine (strongroomref01_Put.calls k (IntKind.u64.wrap (a0_0)) t293 _ A2.out).mono ?_
     rintro e w13 ⟨rfl, hb⟩
     refine ⟨_, rfl, ?_⟩
     have n0_ := Aside0.mk (blk_below (g := gb292) (o := .cells #[.int .i64 a0_0, .int .i64 a0_1, .int .i64 a0_2, .string a0_3, .int .i64 a0_4] 64 (0, 0)) (by (with_reducible repeat (first | refine blk_drewN ?_ _ | refine blk_drew ?_ | refine blk_alloc ?_ _)); exact BK292.out) hb)
     have n1_ := Aside0.mk (below_step (by repeat (first | (with_reducible first | exact HB.out | apply below_alloc | apply pw_below_drewN | apply below_drew1 | refine below_set ?_ GE292.out) | exact HB.out)) hb)
     clear BK292
     clear HB
     have BK292 := n0_
     have HB := n1_
     clear n0_ n1_
     (try clear hb)
     (try clear hb2)
     (try clear hk)
     (try clear hi)
     refine hK.out _ _ ⟨(blk_cell BK292.out 0).trans rfl, (blk_cell BK292.out 1).trans rfl, (blk_cell BK292.out 2).trans rfl, (blk_cell BK292.out 3).trans rfl, (blk_cell BK292.out 4).trans rfl⟩ (fun hHeld => ?_)
     clear hK K
     refine norm_ (a' := ?_) ?_ ?_
     rotate_left
     ·show Act.put _ (some 6) _ = _
      simp only [Act.put, List.setIfInBounds_toArray, List.set_cons_zero, List.set_cons_succ, i64_w, i32_w]
      rfl
     refine one_ (i := 7) (N := some 10) #[true, true, true, true, true, true, true, true, false, true, true, true, false, false, true, true, false, false, true, true, true, false, false, false] rfl rfl (one_of HT_.out (by kernel_rfl)) (by decide) (fun K hK => ?_)
     refine goes_ Try.func67 (by kernel_rfl) rfl #[.int .u64 (IntKind.u64.wrap (a0_1))] (by rfl) rfl rfl (by (try simp only [List.map_toArray, List.map_cons, List.map_nil]); first | done | rfl | (simp only [List.length_drop, List.length_take]; rfl)) ?_
     with_reducible refine (strongroomref01_Put.calls k (IntKind.u64.wrap (a0_1)) t294 _ A3.out).mono ?_
     rintro e w14 ⟨rfl, hb⟩
     refine ⟨_, rfl, ?_⟩
     have n0_ := Aside0.mk (blk_below (g := gb292) (o := .cells #[.int .i64 a0_0, .int .i64 a0_1, .int .i64 a0_2, .string a0_3, .int .i64 a0_4] 64 (0, 0)) (by (with_reducible repeat (first | refine blk_drewN ?_ _ | refine blk_drew ?_ | refine blk_alloc ?_ _)); exact BK292.out) hb)
     have n1_ := Aside0.mk (below_step (by repeat (first | (with_reducible first | exact HB.out | apply below_alloc | apply pw_below_drewN | apply below_drew1 | refine below_set ?_ GE292.out) | exact HB.out)) hb)
     clear BK292
     clear HB
     have BK292 := n0_
     have HB := n1_
     clear n0_ n1_
     (try clear hb)
     (try clear hb2)
     (try clear hk)
     (try clear hi)
     refine hK.out _ _ ⟨(blk_cell BK292.out 0).trans rfl, (blk_cell BK292.out 1).trans rfl, (blk_cell BK292.out 2).trans rfl, (blk_cell BK292.out 3).trans rfl, (blk_cell BK292.out 4).trans rfl⟩ (fun hHeld => ?_)
     clear hK K
     refine norm_ (a' := ?_) ?_ ?_
     rotate_left
     ·show Act.put _ (some 10) _ = _
      simp only [Act.put, List.setIfInBounds_toArray, List.set_cons_zero, List.set_cons_succ, i64_w, i32_w]
      rfl
     refine pure_ (i := 8) (N := some 11) (v := ?_) (a' := ?_) #[true, true, true, true, true, true, true, true, true, true, true, true, false, false, true, true, false, false, true, true, true, false, false, false] rfl rfl (any_of HT_.out (by kernel_rfl)) (fun _ _ _ h => h) (Or.inl ⟨by rfl, ?_⟩) ?_ ?_
     rotate_left
     ·intro w'
      go_simp
      with_reducible rfl
     rotate_left
     ·simp only [Act.put, List.setIfInBounds_toArray, List.set_cons_zero, List.set_cons_succ, i64_w, i32_w]
      rfl
     refine one_ (i := 12) (N := some 15) #[true, true, true, true, true, true, true, true, true, true, true, true, true, false, true, true, false, false, true, true, true, false, false, false] rfl rfl (one_of HT_.out (by kernel_rfl)) (by decide) (fun K hK => ?_)
     refine goes_ Try.func67 (by kernel_rfl) rfl #[.int .u64 (IntKind.u64.wrap (a0_2))] (by rfl) rfl rfl (by (try simp only [List.map_toArray, List.map_cons, List.map_nil]); first | done | rfl | (simp only [List.length_drop, List.length_take]; rfl)) ?_
     with_reducible refine (strongroomref01_Put.calls k (IntKind.u64.wrap (a0_2)) t295 _ A5.out).mono ?_
     rintro e w15 ⟨rfl, hb⟩
     refine ⟨_, rfl, ?_⟩
     have n0_ := Aside0.mk (blk_below (g := gb292) (o := .cells #[.int .i64 a0_0, .int .i64 a0_1, .int .i64 a0_2, .string a0_3, .int .i64 a0_4] 64 (0, 0)) (by (with_reducible repeat (first | refine blk_drewN ?_ _ | refine blk_drew ?_ | refine blk_alloc ?_ _)); exact BK292.out) hb)
     have n1_ := Aside0.mk (below_step (by repeat (first | (with_reducible first | exact HB.out | apply below_alloc | apply pw_below_drewN | apply below_drew1 | refine below_set ?_ GE292.out) | exact HB.out)) hb)
     clear BK292
     clear HB
     have BK292 := n0_
     have HB := n1_
     clear n0_ n1_
     (try clear hb)
     (try clear hb2)
     (try clear hk)
     (try clear hi)
     refine hK.out _ _ ⟨(blk_cell BK292.out 0).trans rfl, (blk_cell BK292.out 1).trans rfl, (blk_cell BK292.out 2).trans rfl, (blk_cell BK292.out 3).trans rfl, (blk_cell BK292.out 4).trans rfl⟩ (fun hHeld => ?_)
     clear hK K
     refine norm_ (a' := ?_) ?_ ?_
     rotate_left
     ·show Act.put _ (some 15) _ = _
      simp only [Act.put, List.setIfInBounds_toArray, List.set_cons_zero, List.set_cons_succ, i64_w, i32_w]
      rfl
     refine pure_ (i := 13) (N := some 16) (v := ?_) (a' := ?_) #[true, true, true, true, true, true, true, true, true, true, true, true, true, true, true, true, false, false, true, true, true, false, false, false] rfl rfl (any_of HT_.out (by kernel_rfl)) (fun _ _ _ h => h) (Or.inl ⟨by rfl, ?_⟩) ?_ ?_
     rotate_left
     ·intro w'
      go_simp
      with_reducible rfl
     rotate_left
     ·simp only [Act.put, List.setIfInBounds_toArray, List.set_cons_zero, List.set_cons_succ, i64_w, i32_w]
      rfl
     refine one_ (i := 16) (N := some 19) #[true, true, true, true, true, true, true, true, true, true, true, true, true, true, true, true, true, false, true, true, true, false, false, false] rfl rfl (one_of HT_.out (by kernel_rfl)) (by decide) (fun K hK => ?_)
     refine goes_ Try.func81 (by kernel_rfl) rfl #[.string a0_3] (by rfl) rfl rfl (by (try simp only [List.map_toArray, List.map_cons, List.map_nil]); first | done | rfl | (simp only [List.length_drop, List.length_take]; rfl)) ?_
     with_reducible refine (strongroomref01_Text.calls k a0_3 t296 _ A7.out).mono ?_
     rintro e w16 ⟨rfl, hb⟩
     refine ⟨_, rfl, ?_⟩
     have n0_ := Aside0.mk (blk_below (g := gb292) (o := .cells #[.int .i64 a0_0, .int .i64 a0_1, .int .i64 a0_2, .string a0_3, .int .i64 a0_4] 64 (0, 0)) (by (with_reducible repeat (first | refine blk_drewN ?_ _ | refine blk_drew ?_ | refine blk_alloc ?_ _)); exact BK292.out) hb)
     have n1_ := Aside0.mk (below_step (by repeat (first | (with_reducible first | exact HB.out | apply below_alloc | apply pw_below_drewN | apply below_drew1 | refine below_set ?_ GE292.out) | exact HB.out)) hb)
     clear BK292
     clear HB
     have BK292 := n0_
     have HB := n1_
     clear n0_ n1_
     (try clear hb)
     (try clear hb2)
     (try clear hk)
     (try clear hi)
     refine hK.out _ _ ⟨(blk_cell BK292.out 0).trans rfl, (blk_cell BK292.out 1).trans rfl, (blk_cell BK292.out 2).trans rfl, (blk_cell BK292.out 3).trans rfl, (blk_cell BK292.out 4).trans rfl⟩ (fun hHeld => ?_)
     clear hK K
     refine norm_ (a' := ?_) ?_ ?_
     rotate_left
     ·show Act.put _ (some 19) _ = _
      simp only [Act.put, List.setIfInBounds_toArray, List.set_cons_zero, List.set_cons_succ, i64_w, i32_w]
      rfl
     refine pure_ (i := 17) (N := some 20) (v := ?_) (a' := ?_) #[true, true, true, true, true, true, true, true, true, true, true, true, true, true, true, true, true, true, true, true, true, false, false, false] rfl rfl (any_of HT_.out (by kernel_rfl)) (fun _ _ _ h => h) (Or.inl ⟨by rfl, ?_⟩) ?_ ?_
     rotate_left
     ·intro w'
      go_simp
      with_reducible rfl
     rotate_left
     ·simp only [Act.put, List.setIfInBounds_toArray, List.set_cons_zero, List.set_cons_succ, i64_w, i32_w]
      rfl
     refine one_ (i := 21) (N := some 24) #[true, true, true, true, true, true, true, true, true, true, true, true, true, true, true, true, true, true, true, true, true, true, false, false] rfl rfl (one_of HT_.out (by kernel_rfl)) (by decide) (fun K hK => ?_)
     refine goes_ Try.func67 (by kernel_rfl) rfl #[.int .u64 (IntKind.u64.wrap (a0_4))] (by rfl) rfl rfl (by (try simp only [List.map_toArray, List.map_cons, List.map_nil]); first | done | rfl | (simp only [List.length_drop, List.length_take]; rfl)) ?_
     with_reducible refine (strongroomref01_Put.calls k (IntKind.u64.wrap (a0_4)) t297 _ A9.out).mono ?_
     rintro e w17 ⟨rfl, hb⟩
     refine ⟨_, rfl, ?_⟩
     have n0_ := Aside0.mk (blk_below (g := gb292) (o := .cells #[.int .i64 a0_0, .int .i64 a0_1, .int .i64 a0_2, .string a0_3, .int .i64 a0_4] 64 (0, 0)) (by (with_reducible repeat (first | refine blk_drewN ?_ _ | refine blk_drew ?_ | refine blk_alloc ?_ _)); exact BK292.out) hb)
     have n1_ := Aside0.mk (below_step (by repeat (first | (with_reducible first | exact HB.out | apply below_alloc | apply pw_below_drewN | apply below_drew1 | refine below_set ?_ GE292.out) | exact HB.out)) hb)
     clear BK292
     clear HB
     have BK292 := n0_
     have HB := n1_
     clear n0_ n1_
     (try clear hb)
     (try clear hb2)
     (try clear hk)
     (try clear hi)
     refine hK.out _ _ ⟨(blk_cell BK292.out 0).trans rfl, (blk_cell BK292.out 1).trans rfl, (blk_cell BK292.out 2).trans rfl, (blk_cell BK292.out 3).trans rfl, (blk_cell BK292.out 4).trans rfl⟩ (fun hHeld => ?_)
     clear hK K
     refine norm_ (a' := ?_) ?_ ?_
     rotate_left
     ·show Act.put _ (some 24) _ = _
      simp only [Act.put, List.setIfInBounds_toArray, List.set_cons_zero, List.set_cons_succ, i64_w, i32_w]
      rfl
     refine pure_ (i := 22) (N := some 25) (v := ?_) (a' := ?_) #[true, true, true, true, true, true, true, true, true, true, true, true, true, true, true, true, true, true, true, true, true, true, true, false] rfl rfl (any_of HT_.out (by kernel_rfl)) (fun _ _ _ h => h) (Or.inl ⟨by rfl, ?_⟩) ?_ ?_
     rotate_left
     ·intro w'
      go_simp
      with_reducible rfl
     rotate_left
     ·simp only [Act.put, List.setIfInBounds_toArray, List.set_cons_zero, List.set_cons_succ, i64_w, i32_w]
      rfl
     refine pure_ (i := 23) (N := some 2) (v := ?_) (a' := ?_) #[true, true, true, true, true, true, true, true, true, true, true, true, true, true, true, true, true, true, true, true, true, true, true, true] rfl rfl (any_of HT_.out (by kernel_rfl)) (fun _ _ _ h => h) (Or.inl ⟨by rfl, ?_⟩) ?_ ?_
     rotate_left
     ·intro w'
      go_simp
      with_reducible rfl
     rotate_left
     ·simp only [Act.put, List.setIfInBounds_toArray, List.set_cons_zero, List.set_cons_succ, i64_w, i32_w]
      rfl
     refine done_ (done_of HT_.out (by kernel_rfl)) ?_
     try go_wp2
     go_ret
     exact ⟨by first | rfl | (simp [errW_none, errW_some] <;> rfl) | (simp [*, errW_none, errW_some] <;> rfl), by repeat (first | (with_reducible first | exact HB.out | apply below_alloc | apply pw_below_drewN | apply below_drew1 | refine below_set ?_ GE292.out) | exact HB.out)⟩
    ·rw [if_neg c10] at H
     exact absurd H (by simp)
   ·rw [if_neg c8] at H
    exact absurd H (by simp)
  ·rw [if_neg c6] at H
   exact absurd H (by simp)
 ·rw [if_neg c4] at H
  exact absurd H (by simp)

end Go.Proofs.Ytcdnmlfnfhoieaa.A

namespace Go.Proofs.Ytcdnmlfnfhoieaa.A
open Go.RowKit Go.Proofs.YtcdnmlfnfhoieaaW.PrintWords Go.Proofs.YtcdnmlfnfhoieaaW.PrintLast Go.Proofs.YtcdnmlfnfhoieaaW.PrintMore
attribute [local go_sem] max2_int min2_int max_two min_two max_three min_three max_four min_four
set_option linter.unusedVariables false
set_option linter.unusedSimpArgs false

theorem eqA64 (d : Nat) (w : World) (x0 y0 : Int) (x1 y1 : Int) (x2 y2 : Int) (x3 y3 : ByteArray) (x4 y4 : Int) :
  (Op.equalIn (d + 2) 64 (.agg #[.int .i64 x0, .int .i64 x1, .int .i64 x2, .string x3, .int .i64 x4]) (.agg #[.int .i64 y0, .int .i64 y1, .int .i64 y2, .string y3, .int .i64 y4])).run Try.prog w = .ok (x0 == y0 && (x1 == y1 && (x2 == y2 && (x3.toList == y3.toList && (x4 == y4))))) w := by
 refine eqA_of Try.underlying64 (by kernel_rfl) ?_
 refine eqf_cons (by rfl) (by go_simp; rfl) (by go_simp; rfl) (by go_simp) ?_
 refine eqf_cons (by rfl) (by go_simp; rfl) (by go_simp; rfl) (by go_simp) ?_
 refine eqf_cons (by rfl) (by go_simp; rfl) (by go_simp; rfl) (by go_simp) ?_
 refine eqf_cons (by rfl) (by go_simp; rfl) (by go_simp; rfl) (by go_simp) ?_
 exact eqf_last (by rfl) (by go_simp; rfl) (by go_simp; rfl) (by go_simp)
end Go.Proofs.Ytcdnmlfnfhoieaa.A

namespace Go.Proofs.Ytcdnmlfnfhoieaa.A
open Go.RowKit Go.Proofs.YtcdnmlfnfhoieaaW.PrintWords Go.Proofs.YtcdnmlfnfhoieaaW.PrintLast Go.Proofs.YtcdnmlfnfhoieaaW.PrintMore
attribute [local go_sem] max2_int min2_int max_two min_two max_three min_three max_four min_four
set_option linter.unusedVariables false
set_option linter.unusedSimpArgs false

attribute [local go_sem high] eqA64
/-! ### audit_Follows: function 49 -/
mutual
def audit_Follows.j0 : Nat → Bool → ByteArray → Int → List (S64) → ByteArray → Int → List (S64) → Option (Bool)
 | 0, _, _, _, _, _, _, _ => none
 | k + 1, x22, x444000, x444001, x444002, x445000, x445001, x445002 => if x22 = true then (some false) else (audit_Follows.l0 k (wrap64 ((wrap64 (x445001 - (x445002.length : Int))) + 1)) x444002 (x444002.length : Int) 0 x444000 x444001 x444002 x445000 x445001 x445002)
def audit_Follows.l0 : Nat → Int → List (S64) → Int → Int → ByteArray → Int → List (S64) → ByteArray → Int → List (S64) → Option (Bool)
 | 0, _, _, _, _, _, _, _, _, _, _ => none
 | k + 1, x5, x31, x32, x33, x444000, x444001, x444002, x445000, x445001, x445002 => if x33 < x32 then (if 0 ≤ x33 then (if x33 < (x31.length : Int) then (if ((rd_T64 x31 x33).f0) ≥ x5 then (if 0 ≤ (wrap64 (((rd_T64 x31 x33).f0) - x5)) then (if (wrap64 (((rd_T64 x31 x33).f0) - x5)) < (x445002.length : Int) then (if (!(((rd_T64 x445002 (wrap64 (((rd_T64 x31 x33).f0) - x5))).f0) == ((rd_T64 x31 x33).f0)) || (!(((rd_T64 x445002 (wrap64 (((rd_T64 x31 x33).f0) - x5))).f1) == ((rd_T64 x31 x33).f1)) || (!(((rd_T64 x445002 (wrap64 (((rd_T64 x31 x33).f0) - x5))).f2) == ((rd_T64 x31 x33).f2)) || (!((((rd_T64 x445002 (wrap64 (((rd_T64 x31 x33).f0) - x5))).f3).toList) == (((rd_T64 x31 x33).f3).toList)) || (!(((rd_T64 x445002 (wrap64 (((rd_T64 x31 x33).f0) - x5))).f4) == ((rd_T64 x31 x33).f4))))))) = true then (some false) else (audit_Follows.l0 k x5 x31 x32 (wrap64 (x33 + 1)) x444000 x444001 x444002 x445000 x445001 x445002)) else (none)) else (none)) else (audit_Follows.l0 k x5 x31 x32 (wrap64 (x33 + 1)) x444000 x444001 x444002 x445000 x445001 x445002)) else (none)) else (none)) else (if x444001 < (wrap64 (x5 - 1)) then (some true) else ((audit_Digest.f k x444000 x444001 x444002).bind fun t450 => (if 0 ≤ (wrap64 ((wrap64 (x444001 - x5)) + 1)) then (if (wrap64 ((wrap64 (x444001 - x5)) + 1)) ≤ (x445002.length : Int) then ((audit_chain.f k x445000 (x445002.take ((wrap64 ((wrap64 (x444001 - x5)) + 1)) : Int).toNat)).bind fun t455 => (some (t450.toList == t455.toList))) else (none)) else (none))))
end
def audit_Follows.f (k : Nat) (a0_0 : ByteArray) (a0_1 : Int) (l0_2 : List (S64)) (a1_0 : ByteArray) (a1_1 : Int) (l1_2 : List (S64)) : Option (Bool) := (audit_May.f k a0_0 a0_1 l0_2).bind fun t445 => (if t445 = true then ((audit_May.f k a1_0 a1_1 l1_2).bind fun t446 => (if t446 = true then (audit_Follows.j0 k (decide (a0_1 > a1_1)) a0_0 a0_1 l0_2 a1_0 a1_1 l1_2) else (audit_Follows.j0 k true a0_0 a0_1 l0_2 a1_0 a1_1 l1_2))) else (audit_Follows.j0 k true a0_0 a0_1 l0_2 a1_0 a1_1 l1_2))
theorem audit_Follows.mono_l : ∀ k, (∀ y0 y1 y2 y3 y4 y5 y6, LeO (audit_Follows.j0 k y0 y1 y2 y3 y4 y5 y6) (audit_Follows.j0 (k + 1) y0 y1 y2 y3 y4 y5 y6)) ∧ (∀ y0 y1 y2 y3 y4 y5 y6 y7 y8 y9, LeO (audit_Follows.l0 k y0 y1 y2 y3 y4 y5 y6 y7 y8 y9) (audit_Follows.l0 (k + 1) y0 y1 y2 y3 y4 y5 y6 y7 y8 y9))
 | 0 => ⟨fun _ _ _ _ _ _ _ r h => by simp [audit_Follows.j0] at h, fun _ _ _ _ _ _ _ _ _ _ r h => by simp [audit_Follows.l0] at h⟩
 | k + 1 => by
  obtain ⟨ih0, ih1⟩ := audit_Follows.mono_l k
  refine ⟨?_, ?_⟩
  ·intro y0 y1 y2 y3 y4 y5 y6
   unfold audit_Follows.j0
   repeat' first
   | (with_reducible exact ih0 _ _ _ _ _ _ _)
   | (with_reducible exact ih1 _ _ _ _ _ _ _ _ _ _)
   | (with_reducible exact audit_Digest.mono _ _ _ _)
   | (with_reducible exact audit_May.mono _ _ _ _)
   | (with_reducible exact audit_chain.mono _ _ _)
   | (with_reducible exact LeO.refl _)
   | (with_reducible exact LeO.none _)
   | (with_reducible refine LeO.ite ?_ ?_)
   | (with_reducible refine LeO.bind ?_ (fun _ => ?_))
   | exact ih0 _ _ _ _ _ _ _
   | exact ih1 _ _ _ _ _ _ _ _ _ _
   | exact audit_Digest.mono _ _ _ _
   | exact audit_May.mono _ _ _ _
   | exact audit_chain.mono _ _ _
   | exact LeO.none _
   | refine LeO.ite ?_ ?_
   | refine LeO.bind ?_ (fun _ => ?_)
  ·intro y0 y1 y2 y3 y4 y5 y6 y7 y8 y9
   unfold audit_Follows.l0
   repeat' first
   | (with_reducible exact ih0 _ _ _ _ _ _ _)
   | (with_reducible exact ih1 _ _ _ _ _ _ _ _ _ _)
   | (with_reducible exact audit_Digest.mono _ _ _ _)
   | (with_reducible exact audit_May.mono _ _ _ _)
   | (with_reducible exact audit_chain.mono _ _ _)
   | (with_reducible exact LeO.refl _)
   | (with_reducible exact LeO.none _)
   | (with_reducible refine LeO.ite ?_ ?_)
   | (with_reducible refine LeO.bind ?_ (fun _ => ?_))
   | exact ih0 _ _ _ _ _ _ _
   | exact ih1 _ _ _ _ _ _ _ _ _ _
   | exact audit_Digest.mono _ _ _ _
   | exact audit_May.mono _ _ _ _
   | exact audit_chain.mono _ _ _
   | exact LeO.none _
   | refine LeO.ite ?_ ?_
   | refine LeO.bind ?_ (fun _ => ?_)
theorem audit_Follows.mono : ∀ a0 a1 a2 a3 a4 a5 k, LeO (audit_Follows.f k a0 a1 a2 a3 a4 a5) (audit_Follows.f (k + 1) a0 a1 a2 a3 a4 a5) := by
 intro a0 a1 a2 a3 a4 a5 k
 obtain ⟨ih0, ih1⟩ := audit_Follows.mono_l k
 unfold audit_Follows.f
 repeat' first
   | (with_reducible exact ih0 _ _ _ _ _ _ _)
   | (with_reducible exact ih1 _ _ _ _ _ _ _ _ _ _)
   | (with_reducible exact audit_Digest.mono _ _ _ _)
   | (with_reducible exact audit_May.mono _ _ _ _)
   | (with_reducible exact audit_chain.mono _ _ _)
   | (with_reducible exact LeO.refl _)
   | (with_reducible exact LeO.none _)
   | (with_reducible refine LeO.ite ?_ ?_)
   | (with_reducible refine LeO.bind ?_ (fun _ => ?_))
   | exact ih0 _ _ _ _ _ _ _
   | exact ih1 _ _ _ _ _ _ _ _ _ _
   | exact audit_Digest.mono _ _ _ _
   | exact audit_May.mono _ _ _ _
   | exact audit_chain.mono _ _ _
   | exact LeO.none _
   | refine LeO.ite ?_ ?_
   | refine LeO.bind ?_ (fun _ => ?_)
def audit_Follows.T7 : Bool × List (List Nat × List Nat) := (true, [([], []), ([0], [0]), ([], []), ([1, 2], [1, 2]), ([3], [3]), ([4], [4]), ([5, 4], [4, 5]), ([4], [4]), ([7, 4], [4, 7]), ([4], [4]), ([8, 9, 4], [4, 8, 9]), ([6, 10, 4], [4, 6, 10]), ([11, 4], [4, 11]), ([4], [4]), ([12, 13, 4], [4, 12, 13]), ([4, 14], [4, 14])])
def audit_Follows.B7 : List Nat := [0, 1, 0, 7, 15, 31, 63, 31, 159, 31, 927, 2047, 4095, 31, 16383, 32767]
theorem audit_Follows.tab7 : rtab .any (opsOf Try.f49 7) = audit_Follows.T7 := by kernel_rfl
theorem audit_Follows.bits7 : waitsOk audit_Follows.T7.2 audit_Follows.B7 = true := by kernel_rfl
def audit_Follows.T12 : Bool × List (List Nat × List Nat) := (true, [([], []), ([0], [0]), ([], []), ([2], [2]), ([], []), ([4], [4]), ([], []), ([6], [6]), ([], []), ([7, 8], [7, 8]), ([9], [9]), ([5, 10], [5, 10]), ([3, 11, 1], [3, 11]), ([1, 12], [1, 12]), ([13, 12, 0, 1, 2, 3, 4, 5, 6, 7, 8, 9, 10, 11, 12, 13], [13])])
def audit_Follows.B12 : List Nat := [0, 1, 0, 4, 0, 16, 0, 64, 0, 448, 960, 2032, 4095, 8191, 16383]
theorem audit_Follows.tab12 : rtab .any (opsOf Try.f49 12) = audit_Follows.T12 := by kernel_rfl
theorem audit_Follows.bits12 : waitsOk audit_Follows.T12.2 audit_Follows.B12 = true := by kernel_rfl
set_option maxHeartbeats 8000000 in
set_option maxRecDepth 100000 in
theorem audit_Follows.calls (k : Nat) (a0_0 : ByteArray) (a0_1 : Int) (A0_2 : Option Addr) (c0_2 : Nat) (l0_2 : List (S64)) (a1_0 : ByteArray) (a1_1 : Int) (A1_2 : Option Addr) (c1_2 : Nat) (l1_2 : List (S64)) (r : Bool) (w : World) (hr0_2 : Kd.C k64 w A0_2 l0_2.length l0_2) (hc0_2 : l0_2.length ≤ c0_2) (hr1_2 : Kd.C k64 w A1_2 l1_2.length l1_2) (hc1_2 : l1_2.length ≤ c1_2) (h : audit_Follows.f k a0_0 a0_1 l0_2 a1_0 a1_1 l1_2 = some r) :
  Calls Try.prog 49 #[.agg #[.string a0_0, .int .i64 a0_1, .slice A0_2 l0_2.length c0_2], .agg #[.string a1_0, .int .i64 a1_1, .slice A1_2 l1_2.length c1_2]] w fun e w' => e = .returned (.bool r) ∧ Below w.heap.size w w' := by
 have hu56 := Try.underlying56
 have hu64 := Try.underlying64
 have HR0_2 := Aside0.mk hr0_2
 have HC0_2 := Aside0.mk hc0_2
 clear hr0_2 hc0_2
 have HR1_2 := Aside0.mk hr1_2
 have HC1_2 := Aside0.mk hc1_2
 clear hr1_2 hc1_2
 have HB := Aside0.mk (Below.refl w.heap.size w)
 have H : ((audit_May.f k a0_0 a0_1 l0_2).bind fun t445 => (if t445 = true then ((audit_May.f k a1_0 a1_1 l1_2).bind fun t446 => (if t446 = true then (audit_Follows.j0 k (decide (a0_1 > a1_1)) a0_0 a0_1 l0_2 a1_0 a1_1 l1_2) else (audit_Follows.j0 k true a0_0 a0_1 l0_2 a1_0 a1_1 l1_2))) else (audit_Follows.j0 k true a0_0 a0_1 l0_2 a1_0 a1_1 l1_2))) = some r := h
 clear h
 have HC3 := Aside0.mk H
 clear H
 go_enter Try.func49, Try.ntmps49
 go_upto_region 1 with (first | ((with_reducible refine gate_dst (N := 2) rfl ?_); refine box_event ?hg (N := 2) ?hd (cs := #[.string a0_0, .int .i64 a0_1, .slice A0_2 l0_2.length c0_2]) (t := 56) ?hr ?_; (case hd => rfl); (case hg => rfl); (case hr => first | (go_simp; done) | (go_simp; rfl)); intro gb443 hg w4 hbox hb; have n0_ := Aside0.mk (below_step (by repeat (first | (with_reducible first | exact HB.out | apply below_alloc | apply pw_below_drewN | apply below_drew1) | exact HB.out)) hb); have n1_ := Aside0.mk (hbox); have n2_ := Aside0.mk ((by rw [hg]; exact (below_size (by repeat (first | (with_reducible first | exact HB.out | apply below_alloc | apply pw_below_drewN | apply below_drew1) | exact HB.out))) : w.heap.size ≤ gb443)); have n3_ := Aside0.mk ((by rw [hg]; exact (below_size (by repeat (first | (with_reducible first | exact HB.out | apply below_alloc | apply pw_below_drewN | apply below_drew1) | exact HB.out))) : w.heap.size ≤ gb443)); clear HB; have HB := n0_; have BK443 := n1_; have GW443 := n2_; have GE443 := n3_; clear n0_ n1_ n2_ n3_; clear hb hbox hg) | ((with_reducible refine gate_dst (N := 3) rfl ?_); refine box_event ?hg (N := 3) ?hd (cs := #[.string a1_0, .int .i64 a1_1, .slice A1_2 l1_2.length c1_2]) (t := 56) ?hr ?_; (case hd => rfl); (case hg => rfl); (case hr => first | (go_simp; done) | (go_simp; rfl)); intro gb444 hg w5 hbox hb; have n0_ := Aside0.mk (blk_below (g := gb443) (o := .cells #[.string a0_0, .int .i64 a0_1, .slice A0_2 l0_2.length c0_2] 56 (0, 0)) (by (with_reducible repeat (first | refine blk_drewN ?_ _ | refine blk_drew ?_ | refine blk_alloc ?_ _)); exact BK443.out) hb); have n1_ := Aside0.mk (below_step (by repeat (first | (with_reducible first | exact HB.out | apply below_alloc | apply pw_below_drewN | apply below_drew1 | refine below_set ?_ GE443.out) | exact HB.out)) hb); have n2_ := Aside0.mk (hbox); have n3_ := Aside0.mk ((by rw [hg]; exact (below_size (by repeat (first | (with_reducible first | exact HB.out | apply below_alloc | apply pw_below_drewN | apply below_drew1 | refine below_set ?_ GE443.out) | exact HB.out))) : w.heap.size ≤ gb444)); have n4_ := Aside0.mk ((by rw [hg]; exact (below_size (by repeat (first | (with_reducible first | exact HB.out | apply below_alloc | apply pw_below_drewN | apply below_drew1 | refine below_set ?_ GE443.out) | exact HB.out))) : w.heap.size ≤ gb444)); have n5_ := Aside0.mk ((by rw [hg]; exact Nat.ne_of_lt (blk_lt (g := gb443) (o := .cells #[.string a0_0, .int .i64 a0_1, .slice A0_2 l0_2.length c0_2] 56 (0, 0)) (by (with_reducible repeat (first | refine blk_drewN ?_ _ | refine blk_drew ?_ | refine blk_alloc ?_ _)); exact BK443.out)) : gb443 ≠ gb444)); have n6_ := Aside0.mk ((by rw [hg]; exact Nat.ne_of_gt (blk_lt (g := gb443) (o := .cells #[.string a0_0, .int .i64 a0_1, .slice A0_2 l0_2.length c0_2] 56 (0, 0)) (by (with_reducible repeat (first | refine blk_drewN ?_ _ | refine blk_drew ?_ | refine blk_alloc ?_ _)); exact BK443.out)) : gb444 ≠ gb443)); clear BK443; clear HB; have BK443 := n0_; have HB := n1_; have BK444 := n2_; have GW444 := n3_; have GE444 := n4_; have NB443_444 := n5_; have NB444_443 := n6_; clear n0_ n1_ n2_ n3_ n4_ n5_ n6_; clear hb hbox hg))
 (try simp only [Act.put, List.setIfInBounds_toArray, List.set_cons_zero, List.set_cons_succ])
 go_cut [22] (fun v22 wc => ∃ (kq : Nat) (x22_2 : Bool), v22 = .bool x22_2 ∧ Aside0 (audit_Follows.j0 kq x22_2 a0_0 a0_1 l0_2 a1_0 a1_1 l1_2 = some r) ∧ Aside0 (kq ≤ k) ∧ Aside0 (wc.heap[gb443]? = some (.cells #[.string a0_0, .int .i64 a0_1, (.slice A0_2 l0_2.length c0_2)] 56 (0, 0))) ∧ Aside0 (wc.heap[gb444]? = some (.cells #[.string a1_0, .int .i64 a1_1, (.slice A1_2 l1_2.length c1_2)] 56 (0, 0))) ∧ Aside0 (Below w.heap.size w wc))
 case first =>
  have H := HC3.out
  clear HC3
  replace H := Option.bind_eq_some_iff.mp H
  obtain ⟨t445, A60, H⟩ := H
  replace H : (if t445 = true then ((audit_May.f k a1_0 a1_1 l1_2).bind fun t446 => (if t446 = true then (audit_Follows.j0 k (decide (a0_1 > a1_1)) a0_0 a0_1 l0_2 a1_0 a1_1 l1_2) else (audit_Follows.j0 k true a0_0 a0_1 l0_2 a1_0 a1_1 l1_2))) else (audit_Follows.j0 k true a0_0 a0_1 l0_2 a1_0 a1_1 l1_2)) = some r := H
  have A6 := Aside0.mk A60
  clear A60
  by_cases c7 : t445 = true
  ·subst c7
   have H1 : ((audit_May.f k a1_0 a1_1 l1_2).bind fun t446 => (if t446 = true then (audit_Follows.j0 k (decide (a0_1 > a1_1)) a0_0 a0_1 l0_2 a1_0 a1_1 l1_2) else (audit_Follows.j0 k true a0_0 a0_1 l0_2 a1_0 a1_1 l1_2))) = some r := by rw [if_pos rfl] at H; exact H
   clear H
   have H := H1
   clear H1
   replace H := Option.bind_eq_some_iff.mp H
   obtain ⟨t446, A80, H⟩ := H
   replace H : (if t446 = true then (audit_Follows.j0 k (decide (a0_1 > a1_1)) a0_0 a0_1 l0_2 a1_0 a1_1 l1_2) else (audit_Follows.j0 k true a0_0 a0_1 l0_2 a1_0 a1_1 l1_2)) = some r := H
   have A8 := Aside0.mk A80
   clear A80
   by_cases c9 : t446 = true
   ·subst c9
    have H1 : (audit_Follows.j0 k (decide (a0_1 > a1_1)) a0_0 a0_1 l0_2 a1_0 a1_1 l1_2) = some r := by rw [if_pos rfl] at H; exact H
    clear H
    have H := H1
    clear H1
    have H' := Aside0.mk H
    clear H
    have hnb10 := NB443_444.out
    have hnc10 := NB444_443.out
    have hcz11_0 : w5.cell? ⟨gb443, 0, none⟩ = some (.string a0_0) := (blk_cell BK443.out 0).trans rfl
    have hcz11_1 : w5.cell? ⟨gb443, 1, none⟩ = some (.int .i64 a0_1) := (blk_cell BK443.out 1).trans rfl
    have hcz11_2 : w5.cell? ⟨gb443, 2, none⟩ = some (.slice A0_2 l0_2.length c0_2) := (blk_cell BK443.out 2).trans rfl
    have hfz11_0 := blk_frozen BK443.out 0
    have hfz11_1 := blk_frozen BK443.out 1
    have hfz11_2 := blk_frozen BK443.out 2
    go_wp2_with (first | ((with_reducible refine gate_callee (f := 39) rfl ?_); refine goesL_ (some 9) rfl rfl Try.func39 (by kernel_rfl) rfl #[.agg #[.string a0_0, .int .i64 a0_1, .slice A0_2 l0_2.length c0_2]] rfl (by (try simp only [List.map_toArray, List.map_cons, List.map_nil]); first | done | rfl | (simp only [List.length_drop, List.length_take]; rfl)) ?_; (with_reducible refine (audit_May.calls k a0_0 a0_1 _ _ l0_2 true _ ?side1 ?side2 A6.out).mono ?_); (case side1 => repeat (first | exact (Kd.C_below HR0_2.out HB.out) | (with_reducible refine Kd.C_alloc ?_ _) | (with_reducible refine Kd.C_drewN ?_ _) | (with_reducible refine Kd.C_drew ?_))); (case side2 => exact HC0_2.out); rintro e w12 ⟨rfl, hb⟩; refine ⟨_, rfl, ?_⟩; have n0_ := Aside0.mk (blk_below (g := gb443) (o := .cells #[.string a0_0, .int .i64 a0_1, .slice A0_2 l0_2.length c0_2] 56 (0, 0)) (by (with_reducible repeat (first | refine blk_drewN ?_ _ | refine blk_drew ?_ | refine blk_alloc ?_ _)); exact BK443.out) hb); have n1_ := Aside0.mk (blk_below (g := gb444) (o := .cells #[.string a1_0, .int .i64 a1_1, .slice A1_2 l1_2.length c1_2] 56 (0, 0)) (by (with_reducible repeat (first | refine blk_drewN ?_ _ | refine blk_drew ?_ | refine blk_alloc ?_ _)); exact BK444.out) hb); have n2_ := Aside0.mk (below_step (by repeat (first | (with_reducible first | exact HB.out | apply below_alloc | apply pw_below_drewN | apply below_drew1 | refine below_set ?_ GE443.out | refine below_set ?_ GE444.out) | exact HB.out)) hb); clear BK443; clear BK444; clear HB; have BK443 := n0_; have BK444 := n1_; have HB := n2_; clear n0_ n1_ n2_; (try clear hb); (try clear hb2); (try clear hk); (try clear hi); have hcz13_0 : w12.cell? ⟨gb444, 0, none⟩ = some (.string a1_0) := (blk_cell BK444.out 0).trans rfl; have hcz13_1 : w12.cell? ⟨gb444, 1, none⟩ = some (.int .i64 a1_1) := (blk_cell BK444.out 1).trans rfl; have hcz13_2 : w12.cell? ⟨gb444, 2, none⟩ = some (.slice A1_2 l1_2.length c1_2) := (blk_cell BK444.out 2).trans rfl; have hfz13_0 := blk_frozen BK444.out 0; have hfz13_1 := blk_frozen BK444.out 1; have hfz13_2 := blk_frozen BK444.out 2) | (go_at_call 39; (with_reducible refine (audit_May.calls k a1_0 a1_1 _ _ l1_2 true _ ?side1 ?side2 A8.out).mono ?_); (case side1 => repeat (first | exact (Kd.C_below HR1_2.out HB.out) | (with_reducible refine Kd.C_alloc ?_ _) | (with_reducible refine Kd.C_drewN ?_ _) | (with_reducible refine Kd.C_drew ?_))); (case side2 => exact HC1_2.out); rintro e w14 ⟨rfl, hb⟩; have n0_ := Aside0.mk (blk_below (g := gb443) (o := .cells #[.string a0_0, .int .i64 a0_1, .slice A0_2 l0_2.length c0_2] 56 (0, 0)) (by (with_reducible repeat (first | refine blk_drewN ?_ _ | refine blk_drew ?_ | refine blk_alloc ?_ _)); exact BK443.out) hb); have n1_ := Aside0.mk (blk_below (g := gb444) (o := .cells #[.string a1_0, .int .i64 a1_1, .slice A1_2 l1_2.length c1_2] 56 (0, 0)) (by (with_reducible repeat (first | refine blk_drewN ?_ _ | refine blk_drew ?_ | refine blk_alloc ?_ _)); exact BK444.out) hb); have n2_ := Aside0.mk (below_step (by repeat (first | (with_reducible first | exact HB.out | apply below_alloc | apply pw_below_drewN | apply below_drew1 | refine below_set ?_ GE443.out | refine below_set ?_ GE444.out) | exact HB.out)) hb); clear BK443; clear BK444; clear HB; have BK443 := n0_; have BK444 := n1_; have HB := n2_; clear n0_ n1_ n2_; (try clear hb); (try clear hb2); (try clear hk); (try clear hi); have hcz15_0 : w14.cell? ⟨gb443, 0, none⟩ = some (.string a0_0) := (blk_cell BK443.out 0).trans rfl; have hcz15_1 : w14.cell? ⟨gb443, 1, none⟩ = some (.int .i64 a0_1) := (blk_cell BK443.out 1).trans rfl; have hcz15_2 : w14.cell? ⟨gb443, 2, none⟩ = some (.slice A0_2 l0_2.length c0_2) := (blk_cell BK443.out 2).trans rfl; have hfz15_0 := blk_frozen BK443.out 0; have hfz15_1 := blk_frozen BK443.out 1; have hfz15_2 := blk_frozen BK443.out 2; have hcz16_0 : w14.cell? ⟨gb444, 0, none⟩ = some (.string a1_0) := (blk_cell BK444.out 0).trans rfl; have hcz16_1 : w14.cell? ⟨gb444, 1, none⟩ = some (.int .i64 a1_1) := (blk_cell BK444.out 1).trans rfl; have hcz16_2 : w14.cell? ⟨gb444, 2, none⟩ = some (.slice A1_2 l1_2.length c1_2) := (blk_cell BK444.out 2).trans rfl; have hfz16_0 := blk_frozen BK444.out 0; have hfz16_1 := blk_frozen BK444.out 1; have hfz16_2 := blk_frozen BK444.out 2))
    go_meet
    case rel => exact ⟨_, (decide (a0_1 > a1_1)), (by first | rfl | (simp; done) | (simp [*]; done)), H', ⟨by first | omega | exact Nat.le_refl _⟩, ⟨by (with_reducible repeat (first | refine blk_drewN ?_ _ | refine blk_drew ?_ | refine blk_alloc ?_ _)); exact BK443.out⟩, ⟨by (with_reducible repeat (first | refine blk_drewN ?_ _ | refine blk_drew ?_ | refine blk_alloc ?_ _)); exact BK444.out⟩, ⟨by repeat (first | (with_reducible first | exact HB.out | apply below_alloc | apply pw_below_drewN | apply below_drew1 | refine below_set ?_ GE443.out | refine below_set ?_ GE444.out) | exact HB.out)⟩⟩
   ·replace c9 := Bool.eq_false_iff.mpr c9
    subst c9
    have H1 : (audit_Follows.j0 k true a0_0 a0_1 l0_2 a1_0 a1_1 l1_2) = some r := by rw [if_neg (show ¬ (false = true) by decide)] at H; exact H
    clear H
    have H := H1
    clear H1
    have H' := Aside0.mk H
    clear H
    have hnb17 := NB443_444.out
    have hnc17 := NB444_443.out
    have hcz18_0 : w5.cell? ⟨gb443, 0, none⟩ = some (.string a0_0) := (blk_cell BK443.out 0).trans rfl
    have hcz18_1 : w5.cell? ⟨gb443, 1, none⟩ = some (.int .i64 a0_1) := (blk_cell BK443.out 1).trans rfl
    have hcz18_2 : w5.cell? ⟨gb443, 2, none⟩ = some (.slice A0_2 l0_2.length c0_2) := (blk_cell BK443.out 2).trans rfl
    have hfz18_0 := blk_frozen BK443.out 0
    have hfz18_1 := blk_frozen BK443.out 1
    have hfz18_2 := blk_frozen BK443.out 2
    go_wp2_with (first | ((with_reducible refine gate_callee (f := 39) rfl ?_); refine goesL_ (some 9) rfl rfl Try.func39 (by kernel_rfl) rfl #[.agg #[.string a0_0, .int .i64 a0_1, .slice A0_2 l0_2.length c0_2]] rfl (by (try simp only [List.map_toArray, List.map_cons, List.map_nil]); first | done | rfl | (simp only [List.length_drop, List.length_take]; rfl)) ?_; (with_reducible refine (audit_May.calls k a0_0 a0_1 _ _ l0_2 true _ ?side1 ?side2 A6.out).mono ?_); (case side1 => repeat (first | exact (Kd.C_below HR0_2.out HB.out) | (with_reducible refine Kd.C_alloc ?_ _) | (with_reducible refine Kd.C_drewN ?_ _) | (with_reducible refine Kd.C_drew ?_))); (case side2 => exact HC0_2.out); rintro e w19 ⟨rfl, hb⟩; refine ⟨_, rfl, ?_⟩; have n0_ := Aside0.mk (blk_below (g := gb443) (o := .cells #[.string a0_0, .int .i64 a0_1, .slice A0_2 l0_2.length c0_2] 56 (0, 0)) (by (with_reducible repeat (first | refine blk_drewN ?_ _ | refine blk_drew ?_ | refine blk_alloc ?_ _)); exact BK443.out) hb); have n1_ := Aside0.mk (blk_below (g := gb444) (o := .cells #[.string a1_0, .int .i64 a1_1, .slice A1_2 l1_2.length c1_2] 56 (0, 0)) (by (with_reducible repeat (first | refine blk_drewN ?_ _ | refine blk_drew ?_ | refine blk_alloc ?_ _)); exact BK444.out) hb); have n2_ := Aside0.mk (below_step (by repeat (first | (with_reducible first | exact HB.out | apply below_alloc | apply pw_below_drewN | apply below_drew1 | refine below_set ?_ GE443.out | refine below_set ?_ GE444.out) | exact HB.out)) hb); clear BK443; clear BK444; clear HB; have BK443 := n0_; have BK444 := n1_; have HB := n2_; clear n0_ n1_ n2_; (try clear hb); (try clear hb2); (try clear hk); (try clear hi); have hcz20_0 : w19.cell? ⟨gb444, 0, none⟩ = some (.string a1_0) := (blk_cell BK444.out 0).trans rfl; have hcz20_1 : w19.cell? ⟨gb444, 1, none⟩ = some (.int .i64 a1_1) := (blk_cell BK444.out 1).trans rfl; have hcz20_2 : w19.cell? ⟨gb444, 2, none⟩ = some (.slice A1_2 l1_2.length c1_2) := (blk_cell BK444.out 2).trans rfl; have hfz20_0 := blk_frozen BK444.out 0; have hfz20_1 := blk_frozen BK444.out 1; have hfz20_2 := blk_frozen BK444.out 2) | (go_at_call 39; (with_reducible refine (audit_May.calls k a1_0 a1_1 _ _ l1_2 false _ ?side1 ?side2 A8.out).mono ?_); (case side1 => repeat (first | exact (Kd.C_below HR1_2.out HB.out) | (with_reducible refine Kd.C_alloc ?_ _) | (with_reducible refine Kd.C_drewN ?_ _) | (with_reducible refine Kd.C_drew ?_))); (case side2 => exact HC1_2.out); rintro e w21 ⟨rfl, hb⟩; have n0_ := Aside0.mk (blk_below (g := gb443) (o := .cells #[.string a0_0, .int .i64 a0_1, .slice A0_2 l0_2.length c0_2] 56 (0, 0)) (by (with_reducible repeat (first | refine blk_drewN ?_ _ | refine blk_drew ?_ | refine blk_alloc ?_ _)); exact BK443.out) hb); have n1_ := Aside0.mk (blk_below (g := gb444) (o := .cells #[.string a1_0, .int .i64 a1_1, .slice A1_2 l1_2.length c1_2] 56 (0, 0)) (by (with_reducible repeat (first | refine blk_drewN ?_ _ | refine blk_drew ?_ | refine blk_alloc ?_ _)); exact BK444.out) hb); have n2_ := Aside0.mk (below_step (by repeat (first | (with_reducible first | exact HB.out | apply below_alloc | apply pw_below_drewN | apply below_drew1 | refine below_set ?_ GE443.out | refine below_set ?_ GE444.out) | exact HB.out)) hb); clear BK443; clear BK444; clear HB; have BK443 := n0_; have BK444 := n1_; have HB := n2_; clear n0_ n1_ n2_; (try clear hb); (try clear hb2); (try clear hk); (try clear hi)))
    go_meet
    case rel => exact ⟨_, (true), (by first | rfl | (simp; done) | (simp [*]; done)), H', ⟨by first | omega | exact Nat.le_refl _⟩, ⟨by (with_reducible repeat (first | refine blk_drewN ?_ _ | refine blk_drew ?_ | refine blk_alloc ?_ _)); exact BK443.out⟩, ⟨by (with_reducible repeat (first | refine blk_drewN ?_ _ | refine blk_drew ?_ | refine blk_alloc ?_ _)); exact BK444.out⟩, ⟨by repeat (first | (with_reducible first | exact HB.out | apply below_alloc | apply pw_below_drewN | apply below_drew1 | refine below_set ?_ GE443.out | refine below_set ?_ GE444.out) | exact HB.out)⟩⟩
  ·replace c7 := Bool.eq_false_iff.mpr c7
   subst c7
   have H1 : (audit_Follows.j0 k true a0_0 a0_1 l0_2 a1_0 a1_1 l1_2) = some r := by rw [if_neg (show ¬ (false = true) by decide)] at H; exact H
   clear H
   have H := H1
   clear H1
   have H' := Aside0.mk H
   clear H
   have hnb22 := NB443_444.out
   have hnc22 := NB444_443.out
   have hcz23_0 : w5.cell? ⟨gb443, 0, none⟩ = some (.string a0_0) := (blk_cell BK443.out 0).trans rfl
   have hcz23_1 : w5.cell? ⟨gb443, 1, none⟩ = some (.int .i64 a0_1) := (blk_cell BK443.out 1).trans rfl
   have hcz23_2 : w5.cell? ⟨gb443, 2, none⟩ = some (.slice A0_2 l0_2.length c0_2) := (blk_cell BK443.out 2).trans rfl
   have hfz23_0 := blk_frozen BK443.out 0
   have hfz23_1 := blk_frozen BK443.out 1
   have hfz23_2 := blk_frozen BK443.out 2
   go_wp2_with (first | ((with_reducible refine gate_callee (f := 39) rfl ?_); refine goesL_ (some 9) rfl rfl Try.func39 (by kernel_rfl) rfl #[.agg #[.string a0_0, .int .i64 a0_1, .slice A0_2 l0_2.length c0_2]] rfl (by (try simp only [List.map_toArray, List.map_cons, List.map_nil]); first | done | rfl | (simp only [List.length_drop, List.length_take]; rfl)) ?_; (with_reducible refine (audit_May.calls k a0_0 a0_1 _ _ l0_2 false _ ?side1 ?side2 A6.out).mono ?_); (case side1 => repeat (first | exact (Kd.C_below HR0_2.out HB.out) | (with_reducible refine Kd.C_alloc ?_ _) | (with_reducible refine Kd.C_drewN ?_ _) | (with_reducible refine Kd.C_drew ?_))); (case side2 => exact HC0_2.out); rintro e w24 ⟨rfl, hb⟩; refine ⟨_, rfl, ?_⟩; have n0_ := Aside0.mk (blk_below (g := gb443) (o := .cells #[.string a0_0, .int .i64 a0_1, .slice A0_2 l0_2.length c0_2] 56 (0, 0)) (by (with_reducible repeat (first | refine blk_drewN ?_ _ | refine blk_drew ?_ | refine blk_alloc ?_ _)); exact BK443.out) hb); have n1_ := Aside0.mk (blk_below (g := gb444) (o := .cells #[.string a1_0, .int .i64 a1_1, .slice A1_2 l1_2.length c1_2] 56 (0, 0)) (by (with_reducible repeat (first | refine blk_drewN ?_ _ | refine blk_drew ?_ | refine blk_alloc ?_ _)); exact BK444.out) hb); have n2_ := Aside0.mk (below_step (by repeat (first | (with_reducible first | exact HB.out | apply below_alloc | apply pw_below_drewN | apply below_drew1 | refine below_set ?_ GE443.out | refine below_set ?_ GE444.out) | exact HB.out)) hb); clear BK443; clear BK444; clear HB; have BK443 := n0_; have BK444 := n1_; have HB := n2_; clear n0_ n1_ n2_; (try clear hb); (try clear hb2); (try clear hk); (try clear hi)))
   go_meet
   case rel => exact ⟨_, (true), (by first | rfl | (simp; done) | (simp [*]; done)), H', ⟨by first | omega | exact Nat.le_refl _⟩, ⟨by (with_reducible repeat (first | refine blk_drewN ?_ _ | refine blk_drew ?_ | refine blk_alloc ?_ _)); exact BK443.out⟩, ⟨by (with_reducible repeat (first | refine blk_drewN ?_ _ | refine blk_drew ?_ | refine blk_alloc ?_ _)); exact BK444.out⟩, ⟨by repeat (first | (with_reducible first | exact HB.out | apply below_alloc | apply pw_below_drewN | apply below_drew1 | refine below_set ?_ GE443.out | refine below_set ?_ GE444.out) | exact HB.out)⟩⟩
 case rest =>
  clear HC3
  try clear c1
  try clear c2
  try clear p2
  try clear c3
  try clear c4
  try clear c7
  try clear c9
  try clear c10
  try clear c17
  try clear c22
  try clear hcz11_0
  try clear hcz11_1
  try clear hcz11_2
  try clear hcz13_0
  try clear hcz13_1
  try clear hcz13_2
  try clear hcz15_0
  try clear hcz15_1
  try clear hcz15_2
  try clear hcz16_0
  try clear hcz16_1
  try clear hcz16_2
  try clear hcz18_0
  try clear hcz18_1
  try clear hcz18_2
  try clear hcz20_0
  try clear hcz20_1
  try clear hcz20_2
  try clear hcz23_0
  try clear hcz23_1
  try clear hcz23_2
  try clear hfz11_0
  try clear hfz11_1
  try clear hfz11_2
  try clear hfz13_0
  try clear hfz13_1
  try clear hfz13_2
  try clear hfz15_0
  try clear hfz15_1
  try clear hfz15_2
  try clear hfz16_0
  try clear hfz16_1
  try clear hfz16_2
  try clear hfz18_0
  try clear hfz18_1
  try clear hfz18_2
  try clear hfz20_0
  try clear hfz20_1
  try clear hfz20_2
  try clear hfz23_0
  try clear hfz23_1
  try clear hfz23_2
  obtain ⟨kq, x22_2, rfl, HA, HJ2, BK443, BK444, HB⟩ := hcut
  cases kq with
  | zero => exact absurd HA.out (by simp [audit_Follows.j0])
  | succ kj2 =>
   have H := HA.out
   clear HA
   simp only [audit_Follows.j0] at H
   by_cases c25 : x22_2 = true
   ·subst c25
    have H1 : (some false) = some r := by rw [if_pos rfl] at H; exact H
    clear H
    have H := H1
    clear H1
    obtain rfl := Option.some.inj H
    go_wp2
    go_ret
    exact ⟨by first | rfl | (simp [errW_none, errW_some] <;> rfl) | (simp [*, errW_none, errW_some] <;> rfl), by repeat (first | (with_reducible first | exact HB.out | apply below_alloc | apply pw_below_drewN | apply below_drew1 | refine below_set ?_ GE443.out | refine below_set ?_ GE444.out) | exact HB.out)⟩
   ·replace c25 := Bool.eq_false_iff.mpr c25
    subst c25
    have H1 : (audit_Follows.l0 kj2 (wrap64 ((wrap64 (a1_1 - (l1_2.length : Int))) + 1)) l0_2 (l0_2.length : Int) 0 a0_0 a0_1 l0_2 a1_0 a1_1 l1_2) = some r := by rw [if_neg (show ¬ (false = true) by decide)] at H; exact H
    clear H
    have H := H1
    clear H1
    have H' := Aside0.mk H
    clear H
    have hnb26 := NB444_443.out
    have hnc26 := NB443_444.out
    have hcz27_0 : wc.cell? ⟨gb444, 0, none⟩ = some (.string a1_0) := (blk_cell BK444.out 0).trans rfl
    have hcz27_1 : wc.cell? ⟨gb444, 1, none⟩ = some (.int .i64 a1_1) := (blk_cell BK444.out 1).trans rfl
    have hcz27_2 : wc.cell? ⟨gb444, 2, none⟩ = some (.slice A1_2 l1_2.length c1_2) := (blk_cell BK444.out 2).trans rfl
    have hfz27_0 := blk_frozen BK444.out 0
    have hfz27_1 := blk_frozen BK444.out 1
    have hfz27_2 := blk_frozen BK444.out 2
    have hcz28_0 : wc.cell? ⟨gb443, 0, none⟩ = some (.string a0_0) := (blk_cell BK443.out 0).trans rfl
    have hcz28_1 : wc.cell? ⟨gb443, 1, none⟩ = some (.int .i64 a0_1) := (blk_cell BK443.out 1).trans rfl
    have hcz28_2 : wc.cell? ⟨gb443, 2, none⟩ = some (.slice A0_2 l0_2.length c0_2) := (blk_cell BK443.out 2).trans rfl
    have hfz28_0 := blk_frozen BK443.out 0
    have hfz28_1 := blk_frozen BK443.out 1
    have hfz28_2 := blk_frozen BK443.out 2
    go_wp2
    go_loopg [33] kj2 (fun kq v33 w' => ∃ (x33_2 : Int), v33 = .int .i64 x33_2 ∧ Aside0 (audit_Follows.l0 kq (wrap64 ((wrap64 (a1_1 - (l1_2.length : Int))) + 1)) l0_2 (l0_2.length : Int) x33_2 a0_0 a0_1 l0_2 a1_0 a1_1 l1_2 = some r) ∧ Aside0 (kq ≤ kj2) ∧ Aside0 (w'.heap[gb443]? = some (.cells #[.string a0_0, .int .i64 a0_1, (.slice A0_2 l0_2.length c0_2)] 56 (0, 0))) ∧ Aside0 (w'.heap[gb444]? = some (.cells #[.string a1_0, .int .i64 a1_1, (.slice A1_2 l1_2.length c1_2)] 56 (0, 0))) ∧ Aside0 (Below w.heap.size w w'))
    case atStart => exact ⟨(0), (by first | rfl | (simp; done) | (simp [*]; done)), H', ⟨Nat.le_refl _⟩, ⟨by (with_reducible repeat (first | refine blk_drewN ?_ _ | refine blk_drew ?_ | refine blk_alloc ?_ _)); exact BK443.out⟩, ⟨by (with_reducible repeat (first | refine blk_drewN ?_ _ | refine blk_drew ?_ | refine blk_alloc ?_ _)); exact BK444.out⟩, ⟨by repeat (first | (with_reducible first | exact HB.out | apply below_alloc | apply pw_below_drewN | apply below_drew1 | refine below_set ?_ GE443.out | refine below_set ?_ GE444.out) | exact HB.out)⟩⟩
    case round =>
     clear H'
     try clear c1
     try clear c2
     try clear p2
     try clear c3
     try clear c4
     try clear p6
     try clear c7
     try clear c9
     try clear c10
     try clear c17
     try clear c22
     try clear c25
     try clear c26
     try clear hcz11_0
     try clear hcz11_1
     try clear hcz11_2
     try clear hcz13_0
     try clear hcz13_1
     try clear hcz13_2
     try clear hcz15_0
     try clear hcz15_1
     try clear hcz15_2
     try clear hcz16_0
     try clear hcz16_1
     try clear hcz16_2
     try clear hcz18_0
     try clear hcz18_1
     try clear hcz18_2
     try clear hcz20_0
     try clear hcz20_1
     try clear hcz20_2
     try clear hcz23_0
     try clear hcz23_1
     try clear hcz23_2
     try clear hcz27_0
     try clear hcz27_1
     try clear hcz27_2
     try clear hcz28_0
     try clear hcz28_1
     try clear hcz28_2
     try clear hfz11_0
     try clear hfz11_1
     try clear hfz11_2
     try clear hfz13_0
     try clear hfz13_1
     try clear hfz13_2
     try clear hfz15_0
     try clear hfz15_1
     try clear hfz15_2
     try clear hfz16_0
     try clear hfz16_1
     try clear hfz16_2
     try clear hfz18_0
     try clear hfz18_1
     try clear hfz18_2
     try clear hfz20_0
     try clear hfz20_1
     try clear hfz20_2
     try clear hfz23_0
     try clear hfz23_1
     try clear hfz23_2
     try clear hfz27_0
     try clear hfz27_1
     try clear hfz27_2
     try clear hfz28_0
     try clear hfz28_1
     try clear hfz28_2
     try clear p2
     obtain ⟨x33_2, rfl, HA, HK2, BK443, BK444, HB⟩ := hrel
     cases gk with
     | zero => exact absurd HA.out (by simp [audit_Follows.l0])
     | succ k2 =>
      have H := HA.out
      clear HA
      simp only [audit_Follows.l0] at H
      by_cases c29 : x33_2 < (l0_2.length : Int)
      ·rw [if_pos c29] at H
       have c29b0 : decide (x33_2 < (l0_2.length : Int)) = true := decide_eq_true c29
       clear c29
       by_cases c30 : 0 ≤ x33_2
       ·rw [if_pos c30] at H
        have c30b0 : decide (0 ≤ x33_2) = true := decide_eq_true c30
        clear c30
        by_cases c31 : x33_2 < (l0_2.length : Int)
        ·rw [if_pos c31] at H
         have c31b0 : decide (x33_2 < (l0_2.length : Int)) = true := decide_eq_true c31
         clear c31
         by_cases c32 : ((rd_T64 l0_2 x33_2).f0) ≥ (wrap64 ((wrap64 (a1_1 - (l1_2.length : Int))) + 1))
         ·rw [if_pos c32] at H
          have c32b0 : decide ((wrap64 ((wrap64 (a1_1 - (l1_2.length : Int))) + 1)) ≤ ((rd_T64 l0_2 x33_2).f0)) = true := decide_eq_true c32
          clear c32
          obtain ⟨ji33, hji33⟩ : ∃ j_ : Int, (wrap64 (((rd_T64 l0_2 x33_2).f0) - (wrap64 ((wrap64 (a1_1 - (l1_2.length : Int))) + 1)))) = j_ := ⟨_, rfl⟩
          replace H : (if 0 ≤ (ji33) then (if (ji33) < (l1_2.length : Int) then (if (!(((rd_T64 l1_2 (ji33)).f0) == ((rd_T64 l0_2 x33_2).f0)) || (!(((rd_T64 l1_2 (ji33)).f1) == ((rd_T64 l0_2 x33_2).f1)) || (!(((rd_T64 l1_2 (ji33)).f2) == ((rd_T64 l0_2 x33_2).f2)) || (!((((rd_T64 l1_2 (ji33)).f3).toList) == (((rd_T64 l0_2 x33_2).f3).toList)) || (!(((rd_T64 l1_2 (ji33)).f4) == ((rd_T64 l0_2 x33_2).f4))))))) = true then (some false) else (audit_Follows.l0 k2 (wrap64 ((wrap64 (a1_1 - (l1_2.length : Int))) + 1)) l0_2 (l0_2.length : Int) (wrap64 (x33_2 + 1)) a0_0 a0_1 l0_2 a1_0 a1_1 l1_2)) else (none)) else (none)) = some r := by first | (rw [hji33] at H; exact H) | (simp only [hji33] at H ⊢; exact H)
          have hji33w : (IntKind.i64.wrap (((rd_T64 l0_2 x33_2).f0) - (wrap64 ((wrap64 (a1_1 - (l1_2.length : Int))) + 1)))) = ji33 := (i64_w _).trans hji33
          by_cases c34 : 0 ≤ (ji33)
          ·rw [if_pos c34] at H
           have c34b0 : decide (0 ≤ (ji33)) = true := decide_eq_true c34
           clear c34
           by_cases c35 : (ji33) < (l1_2.length : Int)
           ·rw [if_pos c35] at H
            have c35b0 : decide ((ji33) < (l1_2.length : Int)) = true := decide_eq_true c35
            clear c35
            by_cases c36 : (!(((rd_T64 l1_2 (ji33)).f0) == ((rd_T64 l0_2 x33_2).f0)) || (!(((rd_T64 l1_2 (ji33)).f1) == ((rd_T64 l0_2 x33_2).f1)) || (!(((rd_T64 l1_2 (ji33)).f2) == ((rd_T64 l0_2 x33_2).f2)) || (!((((rd_T64 l1_2 (ji33)).f3).toList) == (((rd_T64 l0_2 x33_2).f3).toList)) || (!(((rd_T64 l1_2 (ji33)).f4) == ((rd_T64 l0_2 x33_2).f4))))))) = true
            ·rw [if_pos c36] at H
             have c36b0 : (!(((rd_T64 l1_2 (ji33)).f0) == ((rd_T64 l0_2 x33_2).f0)) || (!(((rd_T64 l1_2 (ji33)).f1) == ((rd_T64 l0_2 x33_2).f1)) || (!(((rd_T64 l1_2 (ji33)).f2) == ((rd_T64 l0_2 x33_2).f2)) || (!((((rd_T64 l1_2 (ji33)).f3).toList) == (((rd_T64 l0_2 x33_2).f3).toList)) || (!(((rd_T64 l1_2 (ji33)).f4) == ((rd_T64 l0_2 x33_2).f4))))))) = true := c36
             clear c36
             obtain rfl := Option.some.inj H
             have p447 : 0 ≤ (x33_2 : Int) := of_decide_eq_true (by first | (with_reducible assumption) | assumption)
             have q447 : x33_2 < (l0_2.length : Int) := of_decide_eq_true (by first | (with_reducible assumption) | assumption)
             obtain ⟨ad447, e447, hx447_0, hx447_1, hx447_2, hx447_3, hx447_4⟩ := at_T64 HR0_2.out x33_2 p447 q447
             cases e447
             replace hx447_0 := (HB.out.cell (World.block_lt_of_cell? w _ hx447_0)).trans hx447_0
             replace hx447_1 := (HB.out.cell (World.block_lt_of_cell? w _ hx447_1)).trans hx447_1
             replace hx447_2 := (HB.out.cell (World.block_lt_of_cell? w _ hx447_2)).trans hx447_2
             replace hx447_3 := (HB.out.cell (World.block_lt_of_cell? w _ hx447_3)).trans hx447_3
             replace hx447_4 := (HB.out.cell (World.block_lt_of_cell? w _ hx447_4)).trans hx447_4
             replace p447 := eq_true p447
             replace q447 := eq_true q447
             try go_wp2_with (first | ((with_reducible refine gate_dst (N := 7) rfl ?_); refine box_event ?hg (N := 7) ?hd (cs := #[.int .i64 0, .int .i64 0, .int .i64 0, .string (⟨#[]⟩ : ByteArray), .int .i64 0]) (t := 64) ?hr ?_; (case hd => rfl); (case hg => rfl); (case hr => first | (go_simp; done) | (go_simp; rfl)); intro gb448 hg w37 hbox hb; have n0_ := Aside0.mk (blk_below (g := gb443) (o := .cells #[.string a0_0, .int .i64 a0_1, .slice (some ad447) l0_2.length c0_2] 56 (0, 0)) (by (with_reducible repeat (first | refine blk_drewN ?_ _ | refine blk_drew ?_ | refine blk_alloc ?_ _)); exact BK443.out) hb); have n1_ := Aside0.mk (blk_below (g := gb444) (o := .cells #[.string a1_0, .int .i64 a1_1, .slice A1_2 l1_2.length c1_2] 56 (0, 0)) (by (with_reducible repeat (first | refine blk_drewN ?_ _ | refine blk_drew ?_ | refine blk_alloc ?_ _)); exact BK444.out) hb); have n2_ := Aside0.mk (below_step (by repeat (first | (with_reducible first | exact HB.out | apply below_alloc | apply pw_below_drewN | apply below_drew1 | refine below_set ?_ GE443.out | refine below_set ?_ GE444.out) | exact HB.out)) hb); have n3_ := Aside0.mk (hbox); have n4_ := Aside0.mk ((by rw [hg]; exact (below_size (by repeat (first | (with_reducible first | exact HB.out | apply below_alloc | apply pw_below_drewN | apply below_drew1 | refine below_set ?_ GE443.out | refine below_set ?_ GE444.out) | exact HB.out))) : w.heap.size ≤ gb448)); have n5_ := Aside0.mk ((by rw [hg]; exact (below_size (by repeat (first | (with_reducible first | exact HB.out | apply below_alloc | apply pw_below_drewN | apply below_drew1 | refine below_set ?_ GE443.out | refine below_set ?_ GE444.out) | exact HB.out))) : w.heap.size ≤ gb448)); have n6_ := Aside0.mk ((by rw [hg]; exact Nat.ne_of_lt (blk_lt (g := gb443) (o := .cells #[.string a0_0, .int .i64 a0_1, .slice (some ad447) l0_2.length c0_2] 56 (0, 0)) (by (with_reducible repeat (first | refine blk_drewN ?_ _ | refine blk_drew ?_ | refine blk_alloc ?_ _)); exact BK443.out)) : gb443 ≠ gb448)); have n7_ := Aside0.mk ((by rw [hg]; exact Nat.ne_of_gt (blk_lt (g := gb443) (o := .cells #[.string a0_0, .int .i64 a0_1, .slice (some ad447) l0_2.length c0_2] 56 (0, 0)) (by (with_reducible repeat (first | refine blk_drewN ?_ _ | refine blk_drew ?_ | refine blk_alloc ?_ _)); exact BK443.out)) : gb448 ≠ gb443)); have n8_ := Aside0.mk ((by rw [hg]; exact Nat.ne_of_lt (blk_lt (g := gb444) (o := .cells #[.string a1_0, .int .i64 a1_1, .slice A1_2 l1_2.length c1_2] 56 (0, 0)) (by (with_reducible repeat (first | refine blk_drewN ?_ _ | refine blk_drew ?_ | refine blk_alloc ?_ _)); exact BK444.out)) : gb444 ≠ gb448)); have n9_ := Aside0.mk ((by rw [hg]; exact Nat.ne_of_gt (blk_lt (g := gb444) (o := .cells #[.string a1_0, .int .i64 a1_1, .slice A1_2 l1_2.length c1_2] 56 (0, 0)) (by (with_reducible repeat (first | refine blk_drewN ?_ _ | refine blk_drew ?_ | refine blk_alloc ?_ _)); exact BK444.out)) : gb448 ≠ gb444)); clear BK443; clear BK444; clear HB; have BK443 := n0_; have BK444 := n1_; have HB := n2_; have BK448 := n3_; have GW448 := n4_; have GE448 := n5_; have NB443_448 := n6_; have NB448_443 := n7_; have NB444_448 := n8_; have NB448_444 := n9_; clear n0_ n1_ n2_ n3_ n4_ n5_ n6_ n7_ n8_ n9_; clear hb hbox hg; have hnb38 := NB448_443.out; have hnc38 := NB443_448.out; have hnb39 := NB448_444.out; have hnc39 := NB444_448.out; have hcz40_0 : w37.cell? ⟨gb448, 0, none⟩ = some (.int .i64 0) := (blk_cell BK448.out 0).trans rfl; have hcz40_1 : w37.cell? ⟨gb448, 1, none⟩ = some (.int .i64 0) := (blk_cell BK448.out 1).trans rfl; have hcz40_2 : w37.cell? ⟨gb448, 2, none⟩ = some (.int .i64 0) := (blk_cell BK448.out 2).trans rfl; have hcz40_3 : w37.cell? ⟨gb448, 3, none⟩ = some (.string (⟨#[]⟩ : ByteArray)) := (blk_cell BK448.out 3).trans rfl; have hcz40_4 : w37.cell? ⟨gb448, 4, none⟩ = some (.int .i64 0) := (blk_cell BK448.out 4).trans rfl; have hfz40_0 := blk_frozen BK448.out 0; have hfz40_1 := blk_frozen BK448.out 1; have hfz40_2 := blk_frozen BK448.out 2; have hfz40_3 := blk_frozen BK448.out 3; have hfz40_4 := blk_frozen BK448.out 4))
             have n0_ : Aside0 ((((((w37.setCell ⟨gb448, 0, none⟩ (.int .i64 ((rd_T64 l0_2 x33_2).f0))).setCell ⟨gb448, 1, none⟩ (.int .i64 ((rd_T64 l0_2 x33_2).f1))).setCell ⟨gb448, 2, none⟩ (.int .i64 ((rd_T64 l0_2 x33_2).f2))).setCell ⟨gb448, 3, none⟩ (.string ((rd_T64 l0_2 x33_2).f3))).setCell ⟨gb448, 4, none⟩ (.int .i64 ((rd_T64 l0_2 x33_2).f4))).heap[gb443]? = some (.cells #[.string a0_0, .int .i64 a0_1, .slice (some ad447) l0_2.length c0_2] 56 (0, 0))) := ⟨by (with_reducible repeat (first | refine blk_drewN ?_ _ | refine blk_drew ?_ | refine blk_alloc ?_ _)); refine blk_far ?_ NB443_448.out _; (with_reducible repeat (first | refine blk_drewN ?_ _ | refine blk_drew ?_ | refine blk_alloc ?_ _)); refine blk_far ?_ NB443_448.out _; (with_reducible repeat (first | refine blk_drewN ?_ _ | refine blk_drew ?_ | refine blk_alloc ?_ _)); refine blk_far ?_ NB443_448.out _; (with_reducible repeat (first | refine blk_drewN ?_ _ | refine blk_drew ?_ | refine blk_alloc ?_ _)); refine blk_far ?_ NB443_448.out _; (with_reducible repeat (first | refine blk_drewN ?_ _ | refine blk_drew ?_ | refine blk_alloc ?_ _)); refine blk_far ?_ NB443_448.out _; (with_reducible repeat (first | refine blk_drewN ?_ _ | refine blk_drew ?_ | refine blk_alloc ?_ _)); exact BK443.out⟩
             have n1_ : Aside0 ((((((w37.setCell ⟨gb448, 0, none⟩ (.int .i64 ((rd_T64 l0_2 x33_2).f0))).setCell ⟨gb448, 1, none⟩ (.int .i64 ((rd_T64 l0_2 x33_2).f1))).setCell ⟨gb448, 2, none⟩ (.int .i64 ((rd_T64 l0_2 x33_2).f2))).setCell ⟨gb448, 3, none⟩ (.string ((rd_T64 l0_2 x33_2).f3))).setCell ⟨gb448, 4, none⟩ (.int .i64 ((rd_T64 l0_2 x33_2).f4))).heap[gb444]? = some (.cells #[.string a1_0, .int .i64 a1_1, .slice A1_2 l1_2.length c1_2] 56 (0, 0))) := ⟨by (with_reducible repeat (first | refine blk_drewN ?_ _ | refine blk_drew ?_ | refine blk_alloc ?_ _)); refine blk_far ?_ NB444_448.out _; (with_reducible repeat (first | refine blk_drewN ?_ _ | refine blk_drew ?_ | refine blk_alloc ?_ _)); refine blk_far ?_ NB444_448.out _; (with_reducible repeat (first | refine blk_drewN ?_ _ | refine blk_drew ?_ | refine blk_alloc ?_ _)); refine blk_far ?_ NB444_448.out _; (with_reducible repeat (first | refine blk_drewN ?_ _ | refine blk_drew ?_ | refine blk_alloc ?_ _)); refine blk_far ?_ NB444_448.out _; (with_reducible repeat (first | refine blk_drewN ?_ _ | refine blk_drew ?_ | refine blk_alloc ?_ _)); refine blk_far ?_ NB444_448.out _; (with_reducible repeat (first | refine blk_drewN ?_ _ | refine blk_drew ?_ | refine blk_alloc ?_ _)); exact BK444.out⟩
             have n2_ : Aside0 ((((((w37.setCell ⟨gb448, 0, none⟩ (.int .i64 ((rd_T64 l0_2 x33_2).f0))).setCell ⟨gb448, 1, none⟩ (.int .i64 ((rd_T64 l0_2 x33_2).f1))).setCell ⟨gb448, 2, none⟩ (.int .i64 ((rd_T64 l0_2 x33_2).f2))).setCell ⟨gb448, 3, none⟩ (.string ((rd_T64 l0_2 x33_2).f3))).setCell ⟨gb448, 4, none⟩ (.int .i64 ((rd_T64 l0_2 x33_2).f4))).heap[gb448]? = some (.cells #[.int .i64 ((rd_T64 l0_2 x33_2).f0), .int .i64 ((rd_T64 l0_2 x33_2).f1), .int .i64 ((rd_T64 l0_2 x33_2).f2), .string ((rd_T64 l0_2 x33_2).f3), .int .i64 ((rd_T64 l0_2 x33_2).f4)] 64 (0, 0))) := ⟨by (with_reducible repeat (first | refine blk_drewN ?_ _ | refine blk_drew ?_ | refine blk_alloc ?_ _)); refine blk_put (cs := #[.int .i64 ((rd_T64 l0_2 x33_2).f0), .int .i64 ((rd_T64 l0_2 x33_2).f1), .int .i64 ((rd_T64 l0_2 x33_2).f2), .string ((rd_T64 l0_2 x33_2).f3), .int .i64 0]) ?_ 4 _ rfl; (with_reducible repeat (first | refine blk_drewN ?_ _ | refine blk_drew ?_ | refine blk_alloc ?_ _)); refine blk_put (cs := #[.int .i64 ((rd_T64 l0_2 x33_2).f0), .int .i64 ((rd_T64 l0_2 x33_2).f1), .int .i64 ((rd_T64 l0_2 x33_2).f2), .string (⟨#[]⟩ : ByteArray), .int .i64 0]) ?_ 3 _ rfl; (with_reducible repeat (first | refine blk_drewN ?_ _ | refine blk_drew ?_ | refine blk_alloc ?_ _)); refine blk_put (cs := #[.int .i64 ((rd_T64 l0_2 x33_2).f0), .int .i64 ((rd_T64 l0_2 x33_2).f1), .int .i64 0, .string (⟨#[]⟩ : ByteArray), .int .i64 0]) ?_ 2 _ rfl; (with_reducible repeat (first | refine blk_drewN ?_ _ | refine blk_drew ?_ | refine blk_alloc ?_ _)); refine blk_put (cs := #[.int .i64 ((rd_T64 l0_2 x33_2).f0), .int .i64 0, .int .i64 0, .string (⟨#[]⟩ : ByteArray), .int .i64 0]) ?_ 1 _ rfl; (with_reducible repeat (first | refine blk_drewN ?_ _ | refine blk_drew ?_ | refine blk_alloc ?_ _)); refine blk_put (cs := #[.int .i64 0, .int .i64 0, .int .i64 0, .string (⟨#[]⟩ : ByteArray), .int .i64 0]) ?_ 0 _ rfl; (with_reducible repeat (first | refine blk_drewN ?_ _ | refine blk_drew ?_ | refine blk_alloc ?_ _)); exact BK448.out⟩
             have n3_ : Aside0 (Below w.heap.size w (((((w37.setCell ⟨gb448, 0, none⟩ (.int .i64 ((rd_T64 l0_2 x33_2).f0))).setCell ⟨gb448, 1, none⟩ (.int .i64 ((rd_T64 l0_2 x33_2).f1))).setCell ⟨gb448, 2, none⟩ (.int .i64 ((rd_T64 l0_2 x33_2).f2))).setCell ⟨gb448, 3, none⟩ (.string ((rd_T64 l0_2 x33_2).f3))).setCell ⟨gb448, 4, none⟩ (.int .i64 ((rd_T64 l0_2 x33_2).f4)))) := ⟨by repeat (first | (with_reducible first | exact HB.out | apply below_alloc | apply pw_below_drewN | apply below_drew1 | refine below_set ?_ GE443.out | refine below_set ?_ GE444.out | refine below_set ?_ GE448.out) | exact HB.out)⟩
             (try clear BK443)
             (try clear BK444)
             (try clear BK448)
             (try clear HB)
             generalize (((((w37.setCell ⟨gb448, 0, none⟩ (.int .i64 ((rd_T64 l0_2 x33_2).f0))).setCell ⟨gb448, 1, none⟩ (.int .i64 ((rd_T64 l0_2 x33_2).f1))).setCell ⟨gb448, 2, none⟩ (.int .i64 ((rd_T64 l0_2 x33_2).f2))).setCell ⟨gb448, 3, none⟩ (.string ((rd_T64 l0_2 x33_2).f3))).setCell ⟨gb448, 4, none⟩ (.int .i64 ((rd_T64 l0_2 x33_2).f4))) = w41 at n0_ n1_ n2_ n3_ ⊢
             have BK443 := n0_
             have BK444 := n1_
             have BK448 := n2_
             have HB := n3_
             clear n0_ n1_ n2_ n3_
             have n0_ := Aside0.mk (blk_drew BK443.out)
             have n1_ := Aside0.mk (blk_drew BK444.out)
             have n2_ := Aside0.mk (blk_drew BK448.out)
             have n3_ := Aside0.mk (below_drew1 HB.out)
             clear BK443
             clear BK444
             clear BK448
             clear HB
             have BK443 := n0_
             have BK444 := n1_
             have BK448 := n2_
             have HB := n3_
             clear n0_ n1_ n2_ n3_
             have p449 : 0 ≤ ((ji33) : Int) := of_decide_eq_true (by first | (with_reducible assumption) | assumption)
             have q449 : (ji33) < (l1_2.length : Int) := of_decide_eq_true (by first | (with_reducible assumption) | assumption)
             obtain ⟨ad449, e449, hx449_0, hx449_1, hx449_2, hx449_3, hx449_4⟩ := at_T64 HR1_2.out (ji33) p449 q449
             have hw449_4 := hx449_4
             have hw449_3 := hx449_3
             have hw449_2 := hx449_2
             have hw449_1 := hx449_1
             have hw449_0 := hx449_0
             cases e449
             replace hx449_0 := (HB.out.cell (World.block_lt_of_cell? w _ hx449_0)).trans hx449_0
             replace hx449_1 := (HB.out.cell (World.block_lt_of_cell? w _ hx449_1)).trans hx449_1
             replace hx449_2 := (HB.out.cell (World.block_lt_of_cell? w _ hx449_2)).trans hx449_2
             replace hx449_3 := (HB.out.cell (World.block_lt_of_cell? w _ hx449_3)).trans hx449_3
             replace hx449_4 := (HB.out.cell (World.block_lt_of_cell? w _ hx449_4)).trans hx449_4
             replace p449 := eq_true p449
             replace q449 := eq_true q449
             refine start_ (n := 16) (S := fun w' => w'.cell? ⟨gb448, 0, none⟩ = some (.int .i64 ((rd_T64 l0_2 x33_2).f0)) ∧ w'.cell? ⟨gb448, 1, none⟩ = some (.int .i64 ((rd_T64 l0_2 x33_2).f1)) ∧ w'.cell? ⟨gb448, 2, none⟩ = some (.int .i64 ((rd_T64 l0_2 x33_2).f2)) ∧ w'.cell? ⟨gb448, 3, none⟩ = some (.string ((rd_T64 l0_2 x33_2).f3)) ∧ w'.cell? ⟨gb448, 4, none⟩ = some (.int .i64 ((rd_T64 l0_2 x33_2).f4)) ∧ w'.cell? ⟨gb444, 0, none⟩ = some (.string a1_0) ∧ w'.cell? ⟨gb444, 1, none⟩ = some (.int .i64 a1_1) ∧ w'.cell? ⟨gb444, 2, none⟩ = some (.slice (some ad449) l1_2.length c1_2) ∧ w'.cell? (ad449.add (((ji33)).toNat * 5)) = some (.int .i64 ((rd_T64 l1_2 (ji33)).f0)) ∧ w'.cell? ⟨(ad449.add (((ji33)).toNat * 5)).block, (ad449.add (((ji33)).toNat * 5)).off + 1, none⟩ = some (.int .i64 ((rd_T64 l1_2 (ji33)).f1)) ∧ w'.cell? ⟨(ad449.add (((ji33)).toNat * 5)).block, (ad449.add (((ji33)).toNat * 5)).off + 2, none⟩ = some (.int .i64 ((rd_T64 l1_2 (ji33)).f2)) ∧ w'.cell? ⟨(ad449.add (((ji33)).toNat * 5)).block, (ad449.add (((ji33)).toNat * 5)).off + 3, none⟩ = some (.string ((rd_T64 l1_2 (ji33)).f3)) ∧ w'.cell? ⟨(ad449.add (((ji33)).toNat * 5)).block, (ad449.add (((ji33)).toNat * 5)).off + 4, none⟩ = some (.int .i64 ((rd_T64 l1_2 (ji33)).f4))) (ds := []) #[false, false, false, false, false, false, false, false, false, false, false, false, false, false, false, false] (by kernel_rfl) rfl rfl ⟨(blk_cell BK448.out 0).trans rfl, (blk_cell BK448.out 1).trans rfl, (blk_cell BK448.out 2).trans rfl, (blk_cell BK448.out 3).trans rfl, (blk_cell BK448.out 4).trans rfl, (blk_cell BK444.out 0).trans rfl, (blk_cell BK444.out 1).trans rfl, (blk_cell BK444.out 2).trans rfl, ((HB.out.cell (World.block_lt_of_cell? w _ hw449_0)).trans hw449_0), ((HB.out.cell (World.block_lt_of_cell? w _ hw449_1)).trans hw449_1), ((HB.out.cell (World.block_lt_of_cell? w _ hw449_2)).trans hw449_2), ((HB.out.cell (World.block_lt_of_cell? w _ hw449_3)).trans hw449_3), ((HB.out.cell (World.block_lt_of_cell? w _ hw449_4)).trans hw449_4)⟩ (fun hHeld => ?_); refine with_tabW audit_Follows.tab7 audit_Follows.bits7 (fun HT_ HW_ => ?_)
             generalize w41.drew = w42 at BK443 BK444 BK448 HB hx449_0 hx449_1 hx449_2 hx449_3 hx449_4 hHeld ⊢
             refine pure_ (i := 0) (N := some 37) (v := ?_) (a' := ?_) #[true, false, false, false, false, false, false, false, false, false, false, false, false, false, false, false] rfl rfl (any_of HT_.out (by kernel_rfl)) (fun _ _ _ h => h) (Or.inl ⟨by rfl, ?_⟩) ?_ ?_
             rotate_left
             ·intro w'
              go_simp
              with_reducible rfl
             rotate_left
             ·simp only [Act.put, List.setIfInBounds_toArray, List.set_cons_zero, List.set_cons_succ, i64_w, i32_w]
              rfl
             refine pure_ (i := 2) (N := some 39) (v := ?_) (a' := ?_) #[true, false, true, false, false, false, false, false, false, false, false, false, false, false, false, false] rfl rfl (any_of HT_.out (by kernel_rfl)) (fun _ _ _ h => h) (Or.inl ⟨by rfl, ?_⟩) ?_ ?_
             rotate_left
             ·intro w'
              go_simp
              with_reducible rfl
             rotate_left
             ·simp only [Act.put, List.setIfInBounds_toArray, List.set_cons_zero, List.set_cons_succ, i64_w, i32_w]
              rfl
             refine take_ (i := 1) (N := some 38) (v := ?_) (a' := ?_) #[true, true, true, false, false, false, false, false, false, false, false, false, false, false, false, false] rfl rfl (take_ofW HT_.out HW_.out (by kernel_rfl)) (fun _ _ _ h => h) (Or.inl ⟨by rfl, ?_⟩) hHeld ?_ ?_
             rotate_left
             ·rintro w' ⟨s0, s1, s2, s3, s4, s5, s6, s7, s8, s9, s10, s11, s12⟩
              go_simp
              with_reducible rfl
             rotate_left
             ·simp only [Act.put, List.setIfInBounds_toArray, List.set_cons_zero, List.set_cons_succ, i64_w, i32_w]
              rfl
             refine pure_ (i := 3) (N := some 40) (v := ?_) (a' := ?_) #[true, true, true, true, false, false, false, false, false, false, false, false, false, false, false, false] rfl rfl (any_of HT_.out (by kernel_rfl)) (fun _ _ _ h => h) (Or.inl ⟨by rfl, ?_⟩) ?_ ?_
             rotate_left
             ·intro w'
              go_simp
              with_reducible rfl
             rotate_left
             ·simp only [Act.put, List.setIfInBounds_toArray, List.set_cons_zero, List.set_cons_succ, i64_w, i32_w]
              rfl
             refine pure_ (i := 4) (N := some 41) (v := ?_) (a' := ?_) #[true, true, true, true, true, false, false, false, false, false, false, false, false, false, false, false] rfl rfl (any_of HT_.out (by kernel_rfl)) (fun _ _ _ h => h) (Or.inl ⟨by rfl, ?_⟩) ?_ ?_
             rotate_left
             ·intro w'
              go_simp
              with_reducible rfl
             rotate_left
             ·simp only [Act.put, List.setIfInBounds_toArray, List.set_cons_zero, List.set_cons_succ, i64_w, i32_w]
              rfl
             refine pure_ (i := 5) (N := some 42) (v := ?_) (a' := ?_) #[true, true, true, true, true, true, false, false, false, false, false, false, false, false, false, false] rfl rfl (any_of HT_.out (by kernel_rfl)) (fun _ _ _ h => h) (Or.inl ⟨by rfl, ?_⟩) ?_ ?_
             rotate_left
             ·intro w'
              go_simp
              with_reducible rfl
             rotate_left
             ·simp only [Act.put, List.setIfInBounds_toArray, List.set_cons_zero, List.set_cons_succ, i64_w, i32_w]
              rfl
             refine pure_ (i := 7) (N := some 44) (v := ?_) (a' := ?_) #[true, true, true, true, true, true, false, true, false, false, false, false, false, false, false, false] rfl rfl (any_of HT_.out (by kernel_rfl)) (fun _ _ _ h => h) (Or.inl ⟨by rfl, ?_⟩) ?_ ?_
             rotate_left
             ·intro w'
              go_simp
              with_reducible rfl
             rotate_left
             ·simp only [Act.put, List.setIfInBounds_toArray, List.set_cons_zero, List.set_cons_succ, i64_w, i32_w]
              rfl
             refine pure_ (i := 9) (N := some 46) (v := ?_) (a' := ?_) #[true, true, true, true, true, true, false, true, false, true, false, false, false, false, false, false] rfl rfl (any_of HT_.out (by kernel_rfl)) (fun _ _ _ h => h) (Or.inl ⟨by rfl, ?_⟩) ?_ ?_
             rotate_left
             ·intro w'
              go_simp
              with_reducible rfl
             rotate_left
             ·simp only [Act.put, List.setIfInBounds_toArray, List.set_cons_zero, List.set_cons_succ, i64_w, i32_w]
              rfl
             refine take_ (i := 6) (N := some 43) (v := ?_) (a' := ?_) #[true, true, true, true, true, true, true, true, false, true, false, false, false, false, false, false] rfl rfl (take_ofW HT_.out HW_.out (by kernel_rfl)) (fun _ _ _ h => h) (Or.inl ⟨by rfl, ?_⟩) hHeld ?_ ?_
             rotate_left
             ·rintro w' ⟨s0, s1, s2, s3, s4, s5, s6, s7, s8, s9, s10, s11, s12⟩
              go_simp
              with_reducible rfl
             rotate_left
             ·simp only [Act.put, List.setIfInBounds_toArray, List.set_cons_zero, List.set_cons_succ, i64_w, i32_w]
              rfl
             refine take_ (i := 8) (N := some 45) (v := ?_) (a' := ?_) #[true, true, true, true, true, true, true, true, true, true, false, false, false, false, false, false] rfl rfl (take_ofW HT_.out HW_.out (by kernel_rfl)) (fun _ _ _ h => h) (Or.inl ⟨by rfl, ?_⟩) hHeld ?_ ?_
             rotate_left
             ·rintro w' ⟨s0, s1, s2, s3, s4, s5, s6, s7, s8, s9, s10, s11, s12⟩
              go_simp
              with_reducible rfl
             rotate_left
             ·simp only [Act.put, List.setIfInBounds_toArray, List.set_cons_zero, List.set_cons_succ, i64_w, i32_w]
              rfl
             refine pure_ (i := 10) (N := some 47) (v := ?_) (a' := ?_) #[true, true, true, true, true, true, true, true, true, true, true, false, false, false, false, false] rfl rfl (any_of HT_.out (by kernel_rfl)) (fun _ _ _ h => h) (Or.inl ⟨by rfl, ?_⟩) ?_ ?_
             rotate_left
             ·intro w'
              go_simp
              with_reducible rfl
             rotate_left
             ·simp only [Act.put, List.setIfInBounds_toArray, List.set_cons_zero, List.set_cons_succ, i64_w, i32_w]
              rfl
             refine pure_ (i := 11) (N := some 48) (v := ?_) (a' := ?_) #[true, true, true, true, true, true, true, true, true, true, true, true, false, false, false, false] rfl rfl (any_of HT_.out (by kernel_rfl)) (fun _ _ _ h => h) (Or.inl ⟨by rfl, ?_⟩) ?_ ?_
             rotate_left
             ·intro w'
              go_simp
              with_reducible rfl
             rotate_left
             ·simp only [Act.put, List.setIfInBounds_toArray, List.set_cons_zero, List.set_cons_succ, i64_w, i32_w]
              rfl
             refine take_ (i := 12) (N := some 49) (v := ?_) (a' := ?_) #[true, true, true, true, true, true, true, true, true, true, true, true, true, false, false, false] rfl rfl (take_ofW HT_.out HW_.out (by kernel_rfl)) (fun _ _ _ h => h) (Or.inl ⟨by rfl, ?_⟩) hHeld ?_ ?_
             rotate_left
             ·rintro w' ⟨s0, s1, s2, s3, s4, s5, s6, s7, s8, s9, s10, s11, s12⟩
              go_simp
              with_reducible rfl
             rotate_left
             ·simp only [Act.put, List.setIfInBounds_toArray, List.set_cons_zero, List.set_cons_succ, i64_w, i32_w]
              rfl
             refine take_ (i := 13) (N := some 50) (v := ?_) (a' := ?_) #[true, true, true, true, true, true, true, true, true, true, true, true, true, true, false, false] rfl rfl (take_ofW HT_.out HW_.out (by kernel_rfl)) (fun _ _ _ h => h) (Or.inl ⟨by rfl, ?_⟩) hHeld ?_ ?_
             rotate_left
             ·rintro w' ⟨s0, s1, s2, s3, s4, s5, s6, s7, s8, s9, s10, s11, s12⟩
              go_simp
              with_reducible rfl
             rotate_left
             ·simp only [Act.put, List.setIfInBounds_toArray, List.set_cons_zero, List.set_cons_succ, i64_w, i32_w]
              rfl
             refine pure_ (i := 14) (N := some 51) (v := ?_) (a' := ?_) #[true, true, true, true, true, true, true, true, true, true, true, true, true, true, true, false] rfl rfl (any_of HT_.out (by kernel_rfl)) (fun _ _ _ h => h) (Or.inl ⟨by rfl, ?_⟩) ?_ ?_
             rotate_left
             ·intro w'
              go_simp
              with_reducible rfl
             rotate_left
             ·simp only [Act.put, List.setIfInBounds_toArray, List.set_cons_zero, List.set_cons_succ, i64_w, i32_w]
              rfl
             refine pure_ (i := 15) (N := some 52) (v := ?_) (a' := ?_) #[true, true, true, true, true, true, true, true, true, true, true, true, true, true, true, true] rfl rfl (any_of HT_.out (by kernel_rfl)) (fun _ _ _ h => h) (Or.inl ⟨by rfl, ?_⟩) ?_ ?_
             rotate_left
             ·intro w'
              go_simp
              with_reducible rfl
             rotate_left
             ·simp only [Act.put, List.setIfInBounds_toArray, List.set_cons_zero, List.set_cons_succ, i64_w, i32_w]
              rfl
             refine done_ (done_of HT_.out (by kernel_rfl)) ?_
             try go_wp2
             go_ret
             exact ⟨by first | rfl | (simp [errW_none, errW_some] <;> rfl) | (simp only [← hji33]; first | rfl | (simp [errW_none, errW_some] <;> rfl)) | (simp [*, errW_none, errW_some] <;> rfl), by repeat (first | (with_reducible first | exact HB.out | apply below_alloc | apply pw_below_drewN | apply below_drew1 | refine below_set ?_ GE443.out | refine below_set ?_ GE444.out | refine below_set ?_ GE448.out) | exact HB.out)⟩
            ·rw [if_neg c36] at H
             have c36b0 : (!(((rd_T64 l1_2 (ji33)).f0) == ((rd_T64 l0_2 x33_2).f0)) || (!(((rd_T64 l1_2 (ji33)).f1) == ((rd_T64 l0_2 x33_2).f1)) || (!(((rd_T64 l1_2 (ji33)).f2) == ((rd_T64 l0_2 x33_2).f2)) || (!((((rd_T64 l1_2 (ji33)).f3).toList) == (((rd_T64 l0_2 x33_2).f3).toList)) || (!(((rd_T64 l1_2 (ji33)).f4) == ((rd_T64 l0_2 x33_2).f4))))))) = false := by simpa using c36
             clear c36
             have H' := Aside0.mk H
             clear H
             have p447 : 0 ≤ (x33_2 : Int) := of_decide_eq_true (by first | (with_reducible assumption) | assumption)
             have q447 : x33_2 < (l0_2.length : Int) := of_decide_eq_true (by first | (with_reducible assumption) | assumption)
             obtain ⟨ad447, e447, hx447_0, hx447_1, hx447_2, hx447_3, hx447_4⟩ := at_T64 HR0_2.out x33_2 p447 q447
             cases e447
             replace hx447_0 := (HB.out.cell (World.block_lt_of_cell? w _ hx447_0)).trans hx447_0
             replace hx447_1 := (HB.out.cell (World.block_lt_of_cell? w _ hx447_1)).trans hx447_1
             replace hx447_2 := (HB.out.cell (World.block_lt_of_cell? w _ hx447_2)).trans hx447_2
             replace hx447_3 := (HB.out.cell (World.block_lt_of_cell? w _ hx447_3)).trans hx447_3
             replace hx447_4 := (HB.out.cell (World.block_lt_of_cell? w _ hx447_4)).trans hx447_4
             replace p447 := eq_true p447
             replace q447 := eq_true q447
             try go_wp2_with (first | ((with_reducible refine gate_dst (N := 7) rfl ?_); refine box_event ?hg (N := 7) ?hd (cs := #[.int .i64 0, .int .i64 0, .int .i64 0, .string (⟨#[]⟩ : ByteArray), .int .i64 0]) (t := 64) ?hr ?_; (case hd => rfl); (case hg => rfl); (case hr => first | (go_simp; done) | (go_simp; rfl)); intro gb448 hg w43 hbox hb; have n0_ := Aside0.mk (blk_below (g := gb443) (o := .cells #[.string a0_0, .int .i64 a0_1, .slice (some ad447) l0_2.length c0_2] 56 (0, 0)) (by (with_reducible repeat (first | refine blk_drewN ?_ _ | refine blk_drew ?_ | refine blk_alloc ?_ _)); exact BK443.out) hb); have n1_ := Aside0.mk (blk_below (g := gb444) (o := .cells #[.string a1_0, .int .i64 a1_1, .slice A1_2 l1_2.length c1_2] 56 (0, 0)) (by (with_reducible repeat (first | refine blk_drewN ?_ _ | refine blk_drew ?_ | refine blk_alloc ?_ _)); exact BK444.out) hb); have n2_ := Aside0.mk (below_step (by repeat (first | (with_reducible first | exact HB.out | apply below_alloc | apply pw_below_drewN | apply below_drew1 | refine below_set ?_ GE443.out | refine below_set ?_ GE444.out) | exact HB.out)) hb); have n3_ := Aside0.mk (hbox); have n4_ := Aside0.mk ((by rw [hg]; exact (below_size (by repeat (first | (with_reducible first | exact HB.out | apply below_alloc | apply pw_below_drewN | apply below_drew1 | refine below_set ?_ GE443.out | refine below_set ?_ GE444.out) | exact HB.out))) : w.heap.size ≤ gb448)); have n5_ := Aside0.mk ((by rw [hg]; exact (below_size (by repeat (first | (with_reducible first | exact HB.out | apply below_alloc | apply pw_below_drewN | apply below_drew1 | refine below_set ?_ GE443.out | refine below_set ?_ GE444.out) | exact HB.out))) : w.heap.size ≤ gb448)); have n6_ := Aside0.mk ((by rw [hg]; exact Nat.ne_of_lt (blk_lt (g := gb443) (o := .cells #[.string a0_0, .int .i64 a0_1, .slice (some ad447) l0_2.length c0_2] 56 (0, 0)) (by (with_reducible repeat (first | refine blk_drewN ?_ _ | refine blk_drew ?_ | refine blk_alloc ?_ _)); exact BK443.out)) : gb443 ≠ gb448)); have n7_ := Aside0.mk ((by rw [hg]; exact Nat.ne_of_gt (blk_lt (g := gb443) (o := .cells #[.string a0_0, .int .i64 a0_1, .slice (some ad447) l0_2.length c0_2] 56 (0, 0)) (by (with_reducible repeat (first | refine blk_drewN ?_ _ | refine blk_drew ?_ | refine blk_alloc ?_ _)); exact BK443.out)) : gb448 ≠ gb443)); have n8_ := Aside0.mk ((by rw [hg]; exact Nat.ne_of_lt (blk_lt (g := gb444) (o := .cells #[.string a1_0, .int .i64 a1_1, .slice A1_2 l1_2.length c1_2] 56 (0, 0)) (by (with_reducible repeat (first | refine blk_drewN ?_ _ | refine blk_drew ?_ | refine blk_alloc ?_ _)); exact BK444.out)) : gb444 ≠ gb448)); have n9_ := Aside0.mk ((by rw [hg]; exact Nat.ne_of_gt (blk_lt (g := gb444) (o := .cells #[.string a1_0, .int .i64 a1_1, .slice A1_2 l1_2.length c1_2] 56 (0, 0)) (by (with_reducible repeat (first | refine blk_drewN ?_ _ | refine blk_drew ?_ | refine blk_alloc ?_ _)); exact BK444.out)) : gb448 ≠ gb444)); clear BK443; clear BK444; clear HB; have BK443 := n0_; have BK444 := n1_; have HB := n2_; have BK448 := n3_; have GW448 := n4_; have GE448 := n5_; have NB443_448 := n6_; have NB448_443 := n7_; have NB444_448 := n8_; have NB448_444 := n9_; clear n0_ n1_ n2_ n3_ n4_ n5_ n6_ n7_ n8_ n9_; clear hb hbox hg; have hnb44 := NB448_443.out; have hnc44 := NB443_448.out; have hnb45 := NB448_444.out; have hnc45 := NB444_448.out; have hcz46_0 : w43.cell? ⟨gb448, 0, none⟩ = some (.int .i64 0) := (blk_cell BK448.out 0).trans rfl; have hcz46_1 : w43.cell? ⟨gb448, 1, none⟩ = some (.int .i64 0) := (blk_cell BK448.out 1).trans rfl; have hcz46_2 : w43.cell? ⟨gb448, 2, none⟩ = some (.int .i64 0) := (blk_cell BK448.out 2).trans rfl; have hcz46_3 : w43.cell? ⟨gb448, 3, none⟩ = some (.string (⟨#[]⟩ : ByteArray)) := (blk_cell BK448.out 3).trans rfl; have hcz46_4 : w43.cell? ⟨gb448, 4, none⟩ = some (.int .i64 0) := (blk_cell BK448.out 4).trans rfl; have hfz46_0 := blk_frozen BK448.out 0; have hfz46_1 := blk_frozen BK448.out 1; have hfz46_2 := blk_frozen BK448.out 2; have hfz46_3 := blk_frozen BK448.out 3; have hfz46_4 := blk_frozen BK448.out 4))
             have n0_ : Aside0 ((((((w43.setCell ⟨gb448, 0, none⟩ (.int .i64 ((rd_T64 l0_2 x33_2).f0))).setCell ⟨gb448, 1, none⟩ (.int .i64 ((rd_T64 l0_2 x33_2).f1))).setCell ⟨gb448, 2, none⟩ (.int .i64 ((rd_T64 l0_2 x33_2).f2))).setCell ⟨gb448, 3, none⟩ (.string ((rd_T64 l0_2 x33_2).f3))).setCell ⟨gb448, 4, none⟩ (.int .i64 ((rd_T64 l0_2 x33_2).f4))).heap[gb443]? = some (.cells #[.string a0_0, .int .i64 a0_1, .slice (some ad447) l0_2.length c0_2] 56 (0, 0))) := ⟨by (with_reducible repeat (first | refine blk_drewN ?_ _ | refine blk_drew ?_ | refine blk_alloc ?_ _)); refine blk_far ?_ NB443_448.out _; (with_reducible repeat (first | refine blk_drewN ?_ _ | refine blk_drew ?_ | refine blk_alloc ?_ _)); refine blk_far ?_ NB443_448.out _; (with_reducible repeat (first | refine blk_drewN ?_ _ | refine blk_drew ?_ | refine blk_alloc ?_ _)); refine blk_far ?_ NB443_448.out _; (with_reducible repeat (first | refine blk_drewN ?_ _ | refine blk_drew ?_ | refine blk_alloc ?_ _)); refine blk_far ?_ NB443_448.out _; (with_reducible repeat (first | refine blk_drewN ?_ _ | refine blk_drew ?_ | refine blk_alloc ?_ _)); refine blk_far ?_ NB443_448.out _; (with_reducible repeat (first | refine blk_drewN ?_ _ | refine blk_drew ?_ | refine blk_alloc ?_ _)); exact BK443.out⟩
             have n1_ : Aside0 ((((((w43.setCell ⟨gb448, 0, none⟩ (.int .i64 ((rd_T64 l0_2 x33_2).f0))).setCell ⟨gb448, 1, none⟩ (.int .i64 ((rd_T64 l0_2 x33_2).f1))).setCell ⟨gb448, 2, none⟩ (.int .i64 ((rd_T64 l0_2 x33_2).f2))).setCell ⟨gb448, 3, none⟩ (.string ((rd_T64 l0_2 x33_2).f3))).setCell ⟨gb448, 4, none⟩ (.int .i64 ((rd_T64 l0_2 x33_2).f4))).heap[gb444]? = some (.cells #[.string a1_0, .int .i64 a1_1, .slice A1_2 l1_2.length c1_2] 56 (0, 0))) := ⟨by (with_reducible repeat (first | refine blk_drewN ?_ _ | refine blk_drew ?_ | refine blk_alloc ?_ _)); refine blk_far ?_ NB444_448.out _; (with_reducible repeat (first | refine blk_drewN ?_ _ | refine blk_drew ?_ | refine blk_alloc ?_ _)); refine blk_far ?_ NB444_448.out _; (with_reducible repeat (first | refine blk_drewN ?_ _ | refine blk_drew ?_ | refine blk_alloc ?_ _)); refine blk_far ?_ NB444_448.out _; (with_reducible repeat (first | refine blk_drewN ?_ _ | refine blk_drew ?_ | refine blk_alloc ?_ _)); refine blk_far ?_ NB444_448.out _; (with_reducible repeat (first | refine blk_drewN ?_ _ | refine blk_drew ?_ | refine blk_alloc ?_ _)); refine blk_far ?_ NB444_448.out _; (with_reducible repeat (first | refine blk_drewN ?_ _ | refine blk_drew ?_ | refine blk_alloc ?_ _)); exact BK444.out⟩
             have n2_ : Aside0 ((((((w43.setCell ⟨gb448, 0, none⟩ (.int .i64 ((rd_T64 l0_2 x33_2).f0))).setCell ⟨gb448, 1, none⟩ (.int .i64 ((rd_T64 l0_2 x33_2).f1))).setCell ⟨gb448, 2, none⟩ (.int .i64 ((rd_T64 l0_2 x33_2).f2))).setCell ⟨gb448, 3, none⟩ (.string ((rd_T64 l0_2 x33_2).f3))).setCell ⟨gb448, 4, none⟩ (.int .i64 ((rd_T64 l0_2 x33_2).f4))).heap[gb448]? = some (.cells #[.int .i64 ((rd_T64 l0_2 x33_2).f0), .int .i64 ((rd_T64 l0_2 x33_2).f1), .int .i64 ((rd_T64 l0_2 x33_2).f2), .string ((rd_T64 l0_2 x33_2).f3), .int .i64 ((rd_T64 l0_2 x33_2).f4)] 64 (0, 0))) := ⟨by (with_reducible repeat (first | refine blk_drewN ?_ _ | refine blk_drew ?_ | refine blk_alloc ?_ _)); refine blk_put (cs := #[.int .i64 ((rd_T64 l0_2 x33_2).f0), .int .i64 ((rd_T64 l0_2 x33_2).f1), .int .i64 ((rd_T64 l0_2 x33_2).f2), .string ((rd_T64 l0_2 x33_2).f3), .int .i64 0]) ?_ 4 _ rfl; (with_reducible repeat (first | refine blk_drewN ?_ _ | refine blk_drew ?_ | refine blk_alloc ?_ _)); refine blk_put (cs := #[.int .i64 ((rd_T64 l0_2 x33_2).f0), .int .i64 ((rd_T64 l0_2 x33_2).f1), .int .i64 ((rd_T64 l0_2 x33_2).f2), .string (⟨#[]⟩ : ByteArray), .int .i64 0]) ?_ 3 _ rfl; (with_reducible repeat (first | refine blk_drewN ?_ _ | refine blk_drew ?_ | refine blk_alloc ?_ _)); refine blk_put (cs := #[.int .i64 ((rd_T64 l0_2 x33_2).f0), .int .i64 ((rd_T64 l0_2 x33_2).f1), .int .i64 0, .string (⟨#[]⟩ : ByteArray), .int .i64 0]) ?_ 2 _ rfl; (with_reducible repeat (first | refine blk_drewN ?_ _ | refine blk_drew ?_ | refine blk_alloc ?_ _)); refine blk_put (cs := #[.int .i64 ((rd_T64 l0_2 x33_2).f0), .int .i64 0, .int .i64 0, .string (⟨#[]⟩ : ByteArray), .int .i64 0]) ?_ 1 _ rfl; (with_reducible repeat (first | refine blk_drewN ?_ _ | refine blk_drew ?_ | refine blk_alloc ?_ _)); refine blk_put (cs := #[.int .i64 0, .int .i64 0, .int .i64 0, .string (⟨#[]⟩ : ByteArray), .int .i64 0]) ?_ 0 _ rfl; (with_reducible repeat (first | refine blk_drewN ?_ _ | refine blk_drew ?_ | refine blk_alloc ?_ _)); exact BK448.out⟩
             have n3_ : Aside0 (Below w.heap.size w (((((w43.setCell ⟨gb448, 0, none⟩ (.int .i64 ((rd_T64 l0_2 x33_2).f0))).setCell ⟨gb448, 1, none⟩ (.int .i64 ((rd_T64 l0_2 x33_2).f1))).setCell ⟨gb448, 2, none⟩ (.int .i64 ((rd_T64 l0_2 x33_2).f2))).setCell ⟨gb448, 3, none⟩ (.string ((rd_T64 l0_2 x33_2).f3))).setCell ⟨gb448, 4, none⟩ (.int .i64 ((rd_T64 l0_2 x33_2).f4)))) := ⟨by repeat (first | (with_reducible first | exact HB.out | apply below_alloc | apply pw_below_drewN | apply below_drew1 | refine below_set ?_ GE443.out | refine below_set ?_ GE444.out | refine below_set ?_ GE448.out) | exact HB.out)⟩
             (try clear BK443)
             (try clear BK444)
             (try clear BK448)
             (try clear HB)
             generalize (((((w43.setCell ⟨gb448, 0, none⟩ (.int .i64 ((rd_T64 l0_2 x33_2).f0))).setCell ⟨gb448, 1, none⟩ (.int .i64 ((rd_T64 l0_2 x33_2).f1))).setCell ⟨gb448, 2, none⟩ (.int .i64 ((rd_T64 l0_2 x33_2).f2))).setCell ⟨gb448, 3, none⟩ (.string ((rd_T64 l0_2 x33_2).f3))).setCell ⟨gb448, 4, none⟩ (.int .i64 ((rd_T64 l0_2 x33_2).f4))) = w47 at n0_ n1_ n2_ n3_ ⊢
             have BK443 := n0_
             have BK444 := n1_
             have BK448 := n2_
             have HB := n3_
             clear n0_ n1_ n2_ n3_
             have n0_ := Aside0.mk (blk_drew BK443.out)
             have n1_ := Aside0.mk (blk_drew BK444.out)
             have n2_ := Aside0.mk (blk_drew BK448.out)
             have n3_ := Aside0.mk (below_drew1 HB.out)
             clear BK443
             clear BK444
             clear BK448
             clear HB
             have BK443 := n0_
             have BK444 := n1_
             have BK448 := n2_
             have HB := n3_
             clear n0_ n1_ n2_ n3_
             have p449 : 0 ≤ ((ji33) : Int) := of_decide_eq_true (by first | (with_reducible assumption) | assumption)
             have q449 : (ji33) < (l1_2.length : Int) := of_decide_eq_true (by first | (with_reducible assumption) | assumption)
             obtain ⟨ad449, e449, hx449_0, hx449_1, hx449_2, hx449_3, hx449_4⟩ := at_T64 HR1_2.out (ji33) p449 q449
             have hw449_4 := hx449_4
             have hw449_3 := hx449_3
             have hw449_2 := hx449_2
             have hw449_1 := hx449_1
             have hw449_0 := hx449_0
             cases e449
             replace hx449_0 := (HB.out.cell (World.block_lt_of_cell? w _ hx449_0)).trans hx449_0
             replace hx449_1 := (HB.out.cell (World.block_lt_of_cell? w _ hx449_1)).trans hx449_1
             replace hx449_2 := (HB.out.cell (World.block_lt_of_cell? w _ hx449_2)).trans hx449_2
             replace hx449_3 := (HB.out.cell (World.block_lt_of_cell? w _ hx449_3)).trans hx449_3
             replace hx449_4 := (HB.out.cell (World.block_lt_of_cell? w _ hx449_4)).trans hx449_4
             replace p449 := eq_true p449
             replace q449 := eq_true q449
             refine start_ (n := 16) (S := fun w' => w'.cell? ⟨gb448, 0, none⟩ = some (.int .i64 ((rd_T64 l0_2 x33_2).f0)) ∧ w'.cell? ⟨gb448, 1, none⟩ = some (.int .i64 ((rd_T64 l0_2 x33_2).f1)) ∧ w'.cell? ⟨gb448, 2, none⟩ = some (.int .i64 ((rd_T64 l0_2 x33_2).f2)) ∧ w'.cell? ⟨gb448, 3, none⟩ = some (.string ((rd_T64 l0_2 x33_2).f3)) ∧ w'.cell? ⟨gb448, 4, none⟩ = some (.int .i64 ((rd_T64 l0_2 x33_2).f4)) ∧ w'.cell? ⟨gb444, 0, none⟩ = some (.string a1_0) ∧ w'.cell? ⟨gb444, 1, none⟩ = some (.int .i64 a1_1) ∧ w'.cell? ⟨gb444, 2, none⟩ = some (.slice (some ad449) l1_2.length c1_2) ∧ w'.cell? (ad449.add (((ji33)).toNat * 5)) = some (.int .i64 ((rd_T64 l1_2 (ji33)).f0)) ∧ w'.cell? ⟨(ad449.add (((ji33)).toNat * 5)).block, (ad449.add (((ji33)).toNat * 5)).off + 1, none⟩ = some (.int .i64 ((rd_T64 l1_2 (ji33)).f1)) ∧ w'.cell? ⟨(ad449.add (((ji33)).toNat * 5)).block, (ad449.add (((ji33)).toNat * 5)).off + 2, none⟩ = some (.int .i64 ((rd_T64 l1_2 (ji33)).f2)) ∧ w'.cell? ⟨(ad449.add (((ji33)).toNat * 5)).block, (ad449.add (((ji33)).toNat * 5)).off + 3, none⟩ = some (.string ((rd_T64 l1_2 (ji33)).f3)) ∧ w'.cell? ⟨(ad449.add (((ji33)).toNat * 5)).block, (ad449.add (((ji33)).toNat * 5)).off + 4, none⟩ = some (.int .i64 ((rd_T64 l1_2 (ji33)).f4))) (ds := []) #[false, false, false, false, false, false, false, false, false, false, false, false, false, false, false, false] (by kernel_rfl) rfl rfl ⟨(blk_cell BK448.out 0).trans rfl, (blk_cell BK448.out 1).trans rfl, (blk_cell BK448.out 2).trans rfl, (blk_cell BK448.out 3).trans rfl, (blk_cell BK448.out 4).trans rfl, (blk_cell BK444.out 0).trans rfl, (blk_cell BK444.out 1).trans rfl, (blk_cell BK444.out 2).trans rfl, ((HB.out.cell (World.block_lt_of_cell? w _ hw449_0)).trans hw449_0), ((HB.out.cell (World.block_lt_of_cell? w _ hw449_1)).trans hw449_1), ((HB.out.cell (World.block_lt_of_cell? w _ hw449_2)).trans hw449_2), ((HB.out.cell (World.block_lt_of_cell? w _ hw449_3)).trans hw449_3), ((HB.out.cell (World.block_lt_of_cell? w _ hw449_4)).trans hw449_4)⟩ (fun hHeld => ?_); refine with_tabW audit_Follows.tab7 audit_Follows.bits7 (fun HT_ HW_ => ?_)
             generalize w47.drew = w48 at BK443 BK444 BK448 HB hx449_0 hx449_1 hx449_2 hx449_3 hx449_4 hHeld ⊢
             refine pure_ (i := 0) (N := some 37) (v := ?_) (a' := ?_) #[true, false, false, false, false, false, false, false, false, false, false, false, false, false, false, false] rfl rfl (any_of HT_.out (by kernel_rfl)) (fun _ _ _ h => h) (Or.inl ⟨by rfl, ?_⟩) ?_ ?_
             rotate_left
             ·intro w'
              go_simp
              with_reducible rfl
             rotate_left
             ·simp only [Act.put, List.setIfInBounds_toArray, List.set_cons_zero, List.set_cons_succ, i64_w, i32_w]
              rfl
             refine pure_ (i := 2) (N := some 39) (v := ?_) (a' := ?_) #[true, false, true, false, false, false, false, false, false, false, false, false, false, false, false, false] rfl rfl (any_of HT_.out (by kernel_rfl)) (fun _ _ _ h => h) (Or.inl ⟨by rfl, ?_⟩) ?_ ?_
             rotate_left
             ·intro w'
              go_simp
              with_reducible rfl
             rotate_left
             ·simp only [Act.put, List.setIfInBounds_toArray, List.set_cons_zero, List.set_cons_succ, i64_w, i32_w]
              rfl
             refine take_ (i := 1) (N := some 38) (v := ?_) (a' := ?_) #[true, true, true, false, false, false, false, false, false, false, false, false, false, false, false, false] rfl rfl (take_ofW HT_.out HW_.out (by kernel_rfl)) (fun _ _ _ h => h) (Or.inl ⟨by rfl, ?_⟩) hHeld ?_ ?_
             rotate_left
             ·rintro w' ⟨s0, s1, s2, s3, s4, s5, s6, s7, s8, s9, s10, s11, s12⟩
              go_simp
              with_reducible rfl
             rotate_left
             ·simp only [Act.put, List.setIfInBounds_toArray, List.set_cons_zero, List.set_cons_succ, i64_w, i32_w]
              rfl
             refine pure_ (i := 3) (N := some 40) (v := ?_) (a' := ?_) #[true, true, true, true, false, false, false, false, false, false, false, false, false, false, false, false] rfl rfl (any_of HT_.out (by kernel_rfl)) (fun _ _ _ h => h) (Or.inl ⟨by rfl, ?_⟩) ?_ ?_
             rotate_left
             ·intro w'
              go_simp
              with_reducible rfl
             rotate_left
             ·simp only [Act.put, List.setIfInBounds_toArray, List.set_cons_zero, List.set_cons_succ, i64_w, i32_w]
              rfl
             refine pure_ (i := 4) (N := some 41) (v := ?_) (a' := ?_) #[true, true, true, true, true, false, false, false, false, false, false, false, false, false, false, false] rfl rfl (any_of HT_.out (by kernel_rfl)) (fun _ _ _ h => h) (Or.inl ⟨by rfl, ?_⟩) ?_ ?_
             rotate_left
             ·intro w'
              go_simp
              with_reducible rfl
             rotate_left
             ·simp only [Act.put, List.setIfInBounds_toArray, List.set_cons_zero, List.set_cons_succ, i64_w, i32_w]
              rfl
             refine pure_ (i := 5) (N := some 42) (v := ?_) (a' := ?_) #[true, true, true, true, true, true, false, false, false, false, false, false, false, false, false, false] rfl rfl (any_of HT_.out (by kernel_rfl)) (fun _ _ _ h => h) (Or.inl ⟨by rfl, ?_⟩) ?_ ?_
             rotate_left
             ·intro w'
              go_simp
              with_reducible rfl
             rotate_left
             ·simp only [Act.put, List.setIfInBounds_toArray, List.set_cons_zero, List.set_cons_succ, i64_w, i32_w]
              rfl
             refine pure_ (i := 7) (N := some 44) (v := ?_) (a' := ?_) #[true, true, true, true, true, true, false, true, false, false, false, false, false, false, false, false] rfl rfl (any_of HT_.out (by kernel_rfl)) (fun _ _ _ h => h) (Or.inl ⟨by rfl, ?_⟩) ?_ ?_
             rotate_left
             ·intro w'
              go_simp
              with_reducible rfl
             rotate_left
             ·simp only [Act.put, List.setIfInBounds_toArray, List.set_cons_zero, List.set_cons_succ, i64_w, i32_w]
              rfl
             refine pure_ (i := 9) (N := some 46) (v := ?_) (a' := ?_) #[true, true, true, true, true, true, false, true, false, true, false, false, false, false, false, false] rfl rfl (any_of HT_.out (by kernel_rfl)) (fun _ _ _ h => h) (Or.inl ⟨by rfl, ?_⟩) ?_ ?_
             rotate_left
             ·intro w'
              go_simp
              with_reducible rfl
             rotate_left
             ·simp only [Act.put, List.setIfInBounds_toArray, List.set_cons_zero, List.set_cons_succ, i64_w, i32_w]
              rfl
             refine take_ (i := 6) (N := some 43) (v := ?_) (a' := ?_) #[true, true, true, true, true, true, true, true, false, true, false, false, false, false, false, false] rfl rfl (take_ofW HT_.out HW_.out (by kernel_rfl)) (fun _ _ _ h => h) (Or.inl ⟨by rfl, ?_⟩) hHeld ?_ ?_
             rotate_left
             ·rintro w' ⟨s0, s1, s2, s3, s4, s5, s6, s7, s8, s9, s10, s11, s12⟩
              go_simp
              with_reducible rfl
             rotate_left
             ·simp only [Act.put, List.setIfInBounds_toArray, List.set_cons_zero, List.set_cons_succ, i64_w, i32_w]
              rfl
             refine take_ (i := 8) (N := some 45) (v := ?_) (a' := ?_) #[true, true, true, true, true, true, true, true, true, true, false, false, false, false, false, false] rfl rfl (take_ofW HT_.out HW_.out (by kernel_rfl)) (fun _ _ _ h => h) (Or.inl ⟨by rfl, ?_⟩) hHeld ?_ ?_
             rotate_left
             ·rintro w' ⟨s0, s1, s2, s3, s4, s5, s6, s7, s8, s9, s10, s11, s12⟩
              go_simp
              with_reducible rfl
             rotate_left
             ·simp only [Act.put, List.setIfInBounds_toArray, List.set_cons_zero, List.set_cons_succ, i64_w, i32_w]
              rfl
             refine pure_ (i := 10) (N := some 47) (v := ?_) (a' := ?_) #[true, true, true, true, true, true, true, true, true, true, true, false, false, false, false, false] rfl rfl (any_of HT_.out (by kernel_rfl)) (fun _ _ _ h => h) (Or.inl ⟨by rfl, ?_⟩) ?_ ?_
             rotate_left
             ·intro w'
              go_simp
              with_reducible rfl
             rotate_left
             ·simp only [Act.put, List.setIfInBounds_toArray, List.set_cons_zero, List.set_cons_succ, i64_w, i32_w]
              rfl
             refine pure_ (i := 11) (N := some 48) (v := ?_) (a' := ?_) #[true, true, true, true, true, true, true, true, true, true, true, true, false, false, false, false] rfl rfl (any_of HT_.out (by kernel_rfl)) (fun _ _ _ h => h) (Or.inl ⟨by rfl, ?_⟩) ?_ ?_
             rotate_left
             ·intro w'
              go_simp
              with_reducible rfl
             rotate_left
             ·simp only [Act.put, List.setIfInBounds_toArray, List.set_cons_zero, List.set_cons_succ, i64_w, i32_w]
              rfl
             refine take_ (i := 12) (N := some 49) (v := ?_) (a' := ?_) #[true, true, true, true, true, true, true, true, true, true, true, true, true, false, false, false] rfl rfl (take_ofW HT_.out HW_.out (by kernel_rfl)) (fun _ _ _ h => h) (Or.inl ⟨by rfl, ?_⟩) hHeld ?_ ?_
             rotate_left
             ·rintro w' ⟨s0, s1, s2, s3, s4, s5, s6, s7, s8, s9, s10, s11, s12⟩
              go_simp
              with_reducible rfl
             rotate_left
             ·simp only [Act.put, List.setIfInBounds_toArray, List.set_cons_zero, List.set_cons_succ, i64_w, i32_w]
              rfl
             refine take_ (i := 13) (N := some 50) (v := ?_) (a' := ?_) #[true, true, true, true, true, true, true, true, true, true, true, true, true, true, false, false] rfl rfl (take_ofW HT_.out HW_.out (by kernel_rfl)) (fun _ _ _ h => h) (Or.inl ⟨by rfl, ?_⟩) hHeld ?_ ?_
             rotate_left
             ·rintro w' ⟨s0, s1, s2, s3, s4, s5, s6, s7, s8, s9, s10, s11, s12⟩
              go_simp
              with_reducible rfl
             rotate_left
             ·simp only [Act.put, List.setIfInBounds_toArray, List.set_cons_zero, List.set_cons_succ, i64_w, i32_w]
              rfl
             refine pure_ (i := 14) (N := some 51) (v := ?_) (a' := ?_) #[true, true, true, true, true, true, true, true, true, true, true, true, true, true, true, false] rfl rfl (any_of HT_.out (by kernel_rfl)) (fun _ _ _ h => h) (Or.inl ⟨by rfl, ?_⟩) ?_ ?_
             rotate_left
             ·intro w'
              go_simp
              with_reducible rfl
             rotate_left
             ·simp only [Act.put, List.setIfInBounds_toArray, List.set_cons_zero, List.set_cons_succ, i64_w, i32_w]
              rfl
             refine pure_ (i := 15) (N := some 52) (v := ?_) (a' := ?_) #[true, true, true, true, true, true, true, true, true, true, true, true, true, true, true, true] rfl rfl (any_of HT_.out (by kernel_rfl)) (fun _ _ _ h => h) (Or.inl ⟨by rfl, ?_⟩) ?_ ?_
             rotate_left
             ·intro w'
              go_simp
              with_reducible rfl
             rotate_left
             ·simp only [Act.put, List.setIfInBounds_toArray, List.set_cons_zero, List.set_cons_succ, i64_w, i32_w]
              rfl
             refine done_ (done_of HT_.out (by kernel_rfl)) ?_
             try go_wp2
             go_roundg k2
             case measure => have := HJ2.out; have := HK2.out; omega
             case rel => exact ⟨(wrap64 (x33_2 + 1)), (by first | rfl | (simp; done) | (simp [*]; done)), H', ⟨by have := HJ2.out; have := HK2.out; omega⟩, ⟨by (with_reducible repeat (first | refine blk_drewN ?_ _ | refine blk_drew ?_ | refine blk_alloc ?_ _)); exact BK443.out⟩, ⟨by (with_reducible repeat (first | refine blk_drewN ?_ _ | refine blk_drew ?_ | refine blk_alloc ?_ _)); exact BK444.out⟩, ⟨by repeat (first | (with_reducible first | exact HB.out | apply below_alloc | apply pw_below_drewN | apply below_drew1 | refine below_set ?_ GE443.out | refine below_set ?_ GE444.out | refine below_set ?_ GE448.out) | exact HB.out)⟩⟩
           ·rw [if_neg c35] at H
            exact absurd H (by simp)
          ·rw [if_neg c34] at H
           exact absurd H (by simp)
         ·rw [if_neg c32] at H
          have c32b0 : decide ((wrap64 ((wrap64 (a1_1 - (l1_2.length : Int))) + 1)) ≤ ((rd_T64 l0_2 x33_2).f0)) = false := decide_eq_false c32
          clear c32
          have H' := Aside0.mk H
          clear H
          have p447 : 0 ≤ (x33_2 : Int) := of_decide_eq_true (by first | (with_reducible assumption) | assumption)
          have q447 : x33_2 < (l0_2.length : Int) := of_decide_eq_true (by first | (with_reducible assumption) | assumption)
          obtain ⟨ad447, e447, hx447_0, hx447_1, hx447_2, hx447_3, hx447_4⟩ := at_T64 HR0_2.out x33_2 p447 q447
          cases e447
          replace hx447_0 := (HB.out.cell (World.block_lt_of_cell? w _ hx447_0)).trans hx447_0
          replace hx447_1 := (HB.out.cell (World.block_lt_of_cell? w _ hx447_1)).trans hx447_1
          replace hx447_2 := (HB.out.cell (World.block_lt_of_cell? w _ hx447_2)).trans hx447_2
          replace hx447_3 := (HB.out.cell (World.block_lt_of_cell? w _ hx447_3)).trans hx447_3
          replace hx447_4 := (HB.out.cell (World.block_lt_of_cell? w _ hx447_4)).trans hx447_4
          replace p447 := eq_true p447
          replace q447 := eq_true q447
          try go_wp2_with (first | ((with_reducible refine gate_dst (N := 7) rfl ?_); refine box_event ?hg (N := 7) ?hd (cs := #[.int .i64 0, .int .i64 0, .int .i64 0, .string (⟨#[]⟩ : ByteArray), .int .i64 0]) (t := 64) ?hr ?_; (case hd => rfl); (case hg => rfl); (case hr => first | (go_simp; done) | (go_simp; rfl)); intro gb448 hg w49 hbox hb; have n0_ := Aside0.mk (blk_below (g := gb443) (o := .cells #[.string a0_0, .int .i64 a0_1, .slice (some ad447) l0_2.length c0_2] 56 (0, 0)) (by (with_reducible repeat (first | refine blk_drewN ?_ _ | refine blk_drew ?_ | refine blk_alloc ?_ _)); exact BK443.out) hb); have n1_ := Aside0.mk (blk_below (g := gb444) (o := .cells #[.string a1_0, .int .i64 a1_1, .slice A1_2 l1_2.length c1_2] 56 (0, 0)) (by (with_reducible repeat (first | refine blk_drewN ?_ _ | refine blk_drew ?_ | refine blk_alloc ?_ _)); exact BK444.out) hb); have n2_ := Aside0.mk (below_step (by repeat (first | (with_reducible first | exact HB.out | apply below_alloc | apply pw_below_drewN | apply below_drew1 | refine below_set ?_ GE443.out | refine below_set ?_ GE444.out) | exact HB.out)) hb); have n3_ := Aside0.mk (hbox); have n4_ := Aside0.mk ((by rw [hg]; exact (below_size (by repeat (first | (with_reducible first | exact HB.out | apply below_alloc | apply pw_below_drewN | apply below_drew1 | refine below_set ?_ GE443.out | refine below_set ?_ GE444.out) | exact HB.out))) : w.heap.size ≤ gb448)); have n5_ := Aside0.mk ((by rw [hg]; exact (below_size (by repeat (first | (with_reducible first | exact HB.out | apply below_alloc | apply pw_below_drewN | apply below_drew1 | refine below_set ?_ GE443.out | refine below_set ?_ GE444.out) | exact HB.out))) : w.heap.size ≤ gb448)); have n6_ := Aside0.mk ((by rw [hg]; exact Nat.ne_of_lt (blk_lt (g := gb443) (o := .cells #[.string a0_0, .int .i64 a0_1, .slice (some ad447) l0_2.length c0_2] 56 (0, 0)) (by (with_reducible repeat (first | refine blk_drewN ?_ _ | refine blk_drew ?_ | refine blk_alloc ?_ _)); exact BK443.out)) : gb443 ≠ gb448)); have n7_ := Aside0.mk ((by rw [hg]; exact Nat.ne_of_gt (blk_lt (g := gb443) (o := .cells #[.string a0_0, .int .i64 a0_1, .slice (some ad447) l0_2.length c0_2] 56 (0, 0)) (by (with_reducible repeat (first | refine blk_drewN ?_ _ | refine blk_drew ?_ | refine blk_alloc ?_ _)); exact BK443.out)) : gb448 ≠ gb443)); have n8_ := Aside0.mk ((by rw [hg]; exact Nat.ne_of_lt (blk_lt (g := gb444) (o := .cells #[.string a1_0, .int .i64 a1_1, .slice A1_2 l1_2.length c1_2] 56 (0, 0)) (by (with_reducible repeat (first | refine blk_drewN ?_ _ | refine blk_drew ?_ | refine blk_alloc ?_ _)); exact BK444.out)) : gb444 ≠ gb448)); have n9_ := Aside0.mk ((by rw [hg]; exact Nat.ne_of_gt (blk_lt (g := gb444) (o := .cells #[.string a1_0, .int .i64 a1_1, .slice A1_2 l1_2.length c1_2] 56 (0, 0)) (by (with_reducible repeat (first | refine blk_drewN ?_ _ | refine blk_drew ?_ | refine blk_alloc ?_ _)); exact BK444.out)) : gb448 ≠ gb444)); clear BK443; clear BK444; clear HB; have BK443 := n0_; have BK444 := n1_; have HB := n2_; have BK448 := n3_; have GW448 := n4_; have GE448 := n5_; have NB443_448 := n6_; have NB448_443 := n7_; have NB444_448 := n8_; have NB448_444 := n9_; clear n0_ n1_ n2_ n3_ n4_ n5_ n6_ n7_ n8_ n9_; clear hb hbox hg; have hnb50 := NB448_443.out; have hnc50 := NB443_448.out; have hnb51 := NB448_444.out; have hnc51 := NB444_448.out; have hcz52_0 : w49.cell? ⟨gb448, 0, none⟩ = some (.int .i64 0) := (blk_cell BK448.out 0).trans rfl; have hcz52_1 : w49.cell? ⟨gb448, 1, none⟩ = some (.int .i64 0) := (blk_cell BK448.out 1).trans rfl; have hcz52_2 : w49.cell? ⟨gb448, 2, none⟩ = some (.int .i64 0) := (blk_cell BK448.out 2).trans rfl; have hcz52_3 : w49.cell? ⟨gb448, 3, none⟩ = some (.string (⟨#[]⟩ : ByteArray)) := (blk_cell BK448.out 3).trans rfl; have hcz52_4 : w49.cell? ⟨gb448, 4, none⟩ = some (.int .i64 0) := (blk_cell BK448.out 4).trans rfl; have hfz52_0 := blk_frozen BK448.out 0; have hfz52_1 := blk_frozen BK448.out 1; have hfz52_2 := blk_frozen BK448.out 2; have hfz52_3 := blk_frozen BK448.out 3; have hfz52_4 := blk_frozen BK448.out 4))
          have n0_ : Aside0 ((((((w49.setCell ⟨gb448, 0, none⟩ (.int .i64 ((rd_T64 l0_2 x33_2).f0))).setCell ⟨gb448, 1, none⟩ (.int .i64 ((rd_T64 l0_2 x33_2).f1))).setCell ⟨gb448, 2, none⟩ (.int .i64 ((rd_T64 l0_2 x33_2).f2))).setCell ⟨gb448, 3, none⟩ (.string ((rd_T64 l0_2 x33_2).f3))).setCell ⟨gb448, 4, none⟩ (.int .i64 ((rd_T64 l0_2 x33_2).f4))).heap[gb443]? = some (.cells #[.string a0_0, .int .i64 a0_1, .slice (some ad447) l0_2.length c0_2] 56 (0, 0))) := ⟨by (with_reducible repeat (first | refine blk_drewN ?_ _ | refine blk_drew ?_ | refine blk_alloc ?_ _)); refine blk_far ?_ NB443_448.out _; (with_reducible repeat (first | refine blk_drewN ?_ _ | refine blk_drew ?_ | refine blk_alloc ?_ _)); refine blk_far ?_ NB443_448.out _; (with_reducible repeat (first | refine blk_drewN ?_ _ | refine blk_drew ?_ | refine blk_alloc ?_ _)); refine blk_far ?_ NB443_448.out _; (with_reducible repeat (first | refine blk_drewN ?_ _ | refine blk_drew ?_ | refine blk_alloc ?_ _)); refine blk_far ?_ NB443_448.out _; (with_reducible repeat (first | refine blk_drewN ?_ _ | refine blk_drew ?_ | refine blk_alloc ?_ _)); refine blk_far ?_ NB443_448.out _; (with_reducible repeat (first | refine blk_drewN ?_ _ | refine blk_drew ?_ | refine blk_alloc ?_ _)); exact BK443.out⟩
          have n1_ : Aside0 ((((((w49.setCell ⟨gb448, 0, none⟩ (.int .i64 ((rd_T64 l0_2 x33_2).f0))).setCell ⟨gb448, 1, none⟩ (.int .i64 ((rd_T64 l0_2 x33_2).f1))).setCell ⟨gb448, 2, none⟩ (.int .i64 ((rd_T64 l0_2 x33_2).f2))).setCell ⟨gb448, 3, none⟩ (.string ((rd_T64 l0_2 x33_2).f3))).setCell ⟨gb448, 4, none⟩ (.int .i64 ((rd_T64 l0_2 x33_2).f4))).heap[gb444]? = some (.cells #[.string a1_0, .int .i64 a1_1, .slice A1_2 l1_2.length c1_2] 56 (0, 0))) := ⟨by (with_reducible repeat (first | refine blk_drewN ?_ _ | refine blk_drew ?_ | refine blk_alloc ?_ _)); refine blk_far ?_ NB444_448.out _; (with_reducible repeat (first | refine blk_drewN ?_ _ | refine blk_drew ?_ | refine blk_alloc ?_ _)); refine blk_far ?_ NB444_448.out _; (with_reducible repeat (first | refine blk_drewN ?_ _ | refine blk_drew ?_ | refine blk_alloc ?_ _)); refine blk_far ?_ NB444_448.out _; (with_reducible repeat (first | refine blk_drewN ?_ _ | refine blk_drew ?_ | refine blk_alloc ?_ _)); refine blk_far ?_ NB444_448.out _; (with_reducible repeat (first | refine blk_drewN ?_ _ | refine blk_drew ?_ | refine blk_alloc ?_ _)); refine blk_far ?_ NB444_448.out _; (with_reducible repeat (first | refine blk_drewN ?_ _ | refine blk_drew ?_ | refine blk_alloc ?_ _)); exact BK444.out⟩
          have n2_ : Aside0 ((((((w49.setCell ⟨gb448, 0, none⟩ (.int .i64 ((rd_T64 l0_2 x33_2).f0))).setCell ⟨gb448, 1, none⟩ (.int .i64 ((rd_T64 l0_2 x33_2).f1))).setCell ⟨gb448, 2, none⟩ (.int .i64 ((rd_T64 l0_2 x33_2).f2))).setCell ⟨gb448, 3, none⟩ (.string ((rd_T64 l0_2 x33_2).f3))).setCell ⟨gb448, 4, none⟩ (.int .i64 ((rd_T64 l0_2 x33_2).f4))).heap[gb448]? = some (.cells #[.int .i64 ((rd_T64 l0_2 x33_2).f0), .int .i64 ((rd_T64 l0_2 x33_2).f1), .int .i64 ((rd_T64 l0_2 x33_2).f2), .string ((rd_T64 l0_2 x33_2).f3), .int .i64 ((rd_T64 l0_2 x33_2).f4)] 64 (0, 0))) := ⟨by (with_reducible repeat (first | refine blk_drewN ?_ _ | refine blk_drew ?_ | refine blk_alloc ?_ _)); refine blk_put (cs := #[.int .i64 ((rd_T64 l0_2 x33_2).f0), .int .i64 ((rd_T64 l0_2 x33_2).f1), .int .i64 ((rd_T64 l0_2 x33_2).f2), .string ((rd_T64 l0_2 x33_2).f3), .int .i64 0]) ?_ 4 _ rfl; (with_reducible repeat (first | refine blk_drewN ?_ _ | refine blk_drew ?_ | refine blk_alloc ?_ _)); refine blk_put (cs := #[.int .i64 ((rd_T64 l0_2 x33_2).f0), .int .i64 ((rd_T64 l0_2 x33_2).f1), .int .i64 ((rd_T64 l0_2 x33_2).f2), .string (⟨#[]⟩ : ByteArray), .int .i64 0]) ?_ 3 _ rfl; (with_reducible repeat (first | refine blk_drewN ?_ _ | refine blk_drew ?_ | refine blk_alloc ?_ _)); refine blk_put (cs := #[.int .i64 ((rd_T64 l0_2 x33_2).f0), .int .i64 ((rd_T64 l0_2 x33_2).f1), .int .i64 0, .string (⟨#[]⟩ : ByteArray), .int .i64 0]) ?_ 2 _ rfl; (with_reducible repeat (first | refine blk_drewN ?_ _ | refine blk_drew ?_ | refine blk_alloc ?_ _)); refine blk_put (cs := #[.int .i64 ((rd_T64 l0_2 x33_2).f0), .int .i64 0, .int .i64 0, .string (⟨#[]⟩ : ByteArray), .int .i64 0]) ?_ 1 _ rfl; (with_reducible repeat (first | refine blk_drewN ?_ _ | refine blk_drew ?_ | refine blk_alloc ?_ _)); refine blk_put (cs := #[.int .i64 0, .int .i64 0, .int .i64 0, .string (⟨#[]⟩ : ByteArray), .int .i64 0]) ?_ 0 _ rfl; (with_reducible repeat (first | refine blk_drewN ?_ _ | refine blk_drew ?_ | refine blk_alloc ?_ _)); exact BK448.out⟩
          have n3_ : Aside0 (Below w.heap.size w (((((w49.setCell ⟨gb448, 0, none⟩ (.int .i64 ((rd_T64 l0_2 x33_2).f0))).setCell ⟨gb448, 1, none⟩ (.int .i64 ((rd_T64 l0_2 x33_2).f1))).setCell ⟨gb448, 2, none⟩ (.int .i64 ((rd_T64 l0_2 x33_2).f2))).setCell ⟨gb448, 3, none⟩ (.string ((rd_T64 l0_2 x33_2).f3))).setCell ⟨gb448, 4, none⟩ (.int .i64 ((rd_T64 l0_2 x33_2).f4)))) := ⟨by repeat (first | (with_reducible first | exact HB.out | apply below_alloc | apply pw_below_drewN | apply below_drew1 | refine below_set ?_ GE443.out | refine below_set ?_ GE444.out | refine below_set ?_ GE448.out) | exact HB.out)⟩
          (try clear BK443)
          (try clear BK444)
          (try clear BK448)
          (try clear HB)
          generalize (((((w49.setCell ⟨gb448, 0, none⟩ (.int .i64 ((rd_T64 l0_2 x33_2).f0))).setCell ⟨gb448, 1, none⟩ (.int .i64 ((rd_T64 l0_2 x33_2).f1))).setCell ⟨gb448, 2, none⟩ (.int .i64 ((rd_T64 l0_2 x33_2).f2))).setCell ⟨gb448, 3, none⟩ (.string ((rd_T64 l0_2 x33_2).f3))).setCell ⟨gb448, 4, none⟩ (.int .i64 ((rd_T64 l0_2 x33_2).f4))) = w53 at n0_ n1_ n2_ n3_ ⊢
          have BK443 := n0_
          have BK444 := n1_
          have BK448 := n2_
          have HB := n3_
          clear n0_ n1_ n2_ n3_
          have n0_ := Aside0.mk (blk_drew BK443.out)
          have n1_ := Aside0.mk (blk_drew BK444.out)
          have n2_ := Aside0.mk (blk_drew BK448.out)
          have n3_ := Aside0.mk (below_drew1 HB.out)
          clear BK443
          clear BK444
          clear BK448
          clear HB
          have BK443 := n0_
          have BK444 := n1_
          have BK448 := n2_
          have HB := n3_
          clear n0_ n1_ n2_ n3_
          refine start_ (n := 16) (S := fun w' => w'.cell? ⟨gb448, 0, none⟩ = some (.int .i64 ((rd_T64 l0_2 x33_2).f0)) ∧ w'.cell? ⟨gb448, 1, none⟩ = some (.int .i64 ((rd_T64 l0_2 x33_2).f1)) ∧ w'.cell? ⟨gb448, 2, none⟩ = some (.int .i64 ((rd_T64 l0_2 x33_2).f2)) ∧ w'.cell? ⟨gb448, 3, none⟩ = some (.string ((rd_T64 l0_2 x33_2).f3)) ∧ w'.cell? ⟨gb448, 4, none⟩ = some (.int .i64 ((rd_T64 l0_2 x33_2).f4))) (ds := []) #[false, false, false, false, false, false, false, false, false, false, false, false, false, false, false, false] (by kernel_rfl) rfl rfl ⟨(blk_cell BK448.out 0).trans rfl, (blk_cell BK448.out 1).trans rfl, (blk_cell BK448.out 2).trans rfl, (blk_cell BK448.out 3).trans rfl, (blk_cell BK448.out 4).trans rfl⟩ (fun hHeld => ?_); refine with_tabW audit_Follows.tab7 audit_Follows.bits7 (fun HT_ HW_ => ?_)
          generalize w53.drew = w54 at BK443 BK444 BK448 HB hHeld ⊢
          refine pure_ (i := 0) (N := some 37) (v := ?_) (a' := ?_) #[true, false, false, false, false, false, false, false, false, false, false, false, false, false, false, false] rfl rfl (any_of HT_.out (by kernel_rfl)) (fun _ _ _ h => h) (Or.inl ⟨by rfl, ?_⟩) ?_ ?_
          rotate_left
          ·intro w'
           go_simp
           with_reducible rfl
          rotate_left
          ·simp only [Act.put, List.setIfInBounds_toArray, List.set_cons_zero, List.set_cons_succ, i64_w, i32_w]
           rfl
          refine pure_ (i := 2) (N := some 39) (v := ?_) (a' := ?_) #[true, false, true, false, false, false, false, false, false, false, false, false, false, false, false, false] rfl rfl (any_of HT_.out (by kernel_rfl)) (fun _ _ _ h => h) (Or.inl ⟨by rfl, ?_⟩) ?_ ?_
          rotate_left
          ·intro w'
           go_simp
           with_reducible rfl
          rotate_left
          ·simp only [Act.put, List.setIfInBounds_toArray, List.set_cons_zero, List.set_cons_succ, i64_w, i32_w]
           rfl
          refine take_ (i := 1) (N := some 38) (v := ?_) (a' := ?_) #[true, true, true, false, false, false, false, false, false, false, false, false, false, false, false, false] rfl rfl (take_ofW HT_.out HW_.out (by kernel_rfl)) (fun _ _ _ h => h) (Or.inl ⟨by rfl, ?_⟩) hHeld ?_ ?_
          rotate_left
          ·rintro w' ⟨s0, s1, s2, s3, s4⟩
           go_simp
           with_reducible rfl
          rotate_left
          ·simp only [Act.put, List.setIfInBounds_toArray, List.set_cons_zero, List.set_cons_succ, i64_w, i32_w]
           rfl
          refine pure_ (i := 3) (N := some 40) (v := ?_) (a' := ?_) #[true, true, true, true, false, false, false, false, false, false, false, false, false, false, false, false] rfl rfl (any_of HT_.out (by kernel_rfl)) (fun _ _ _ h => h) (Or.inl ⟨by rfl, ?_⟩) ?_ ?_
          rotate_left
          ·intro w'
           go_simp
           with_reducible rfl
          rotate_left
          ·simp only [Act.put, List.setIfInBounds_toArray, List.set_cons_zero, List.set_cons_succ, i64_w, i32_w]
           rfl
          refine pure_ (i := 4) (N := some 41) (v := ?_) (a' := ?_) #[true, true, true, true, true, false, false, false, false, false, false, false, false, false, false, false] rfl rfl (any_of HT_.out (by kernel_rfl)) (fun _ _ _ h => h) (Or.inl ⟨by rfl, ?_⟩) ?_ ?_
          rotate_left
          ·intro w'
           go_simp
           with_reducible rfl
          rotate_left
          ·simp only [Act.put, List.setIfInBounds_toArray, List.set_cons_zero, List.set_cons_succ, i64_w, i32_w]
           rfl
          refine pure_ (i := 5) (N := some 42) (v := undef) (a' := ?_) #[true, true, true, true, true, true, false, false, false, false, false, false, false, false, false, false] rfl rfl (any_of HT_.out (by kernel_rfl)) (fun _ _ _ h => h) (Or.inr ⟨by rfl, rfl⟩) ?_ ?_
          rotate_left
          ·simp only [Act.put, List.setIfInBounds_toArray, List.set_cons_zero, List.set_cons_succ, i64_w, i32_w]
           rfl
          refine pure_ (i := 6) (N := some 43) (v := undef) (a' := ?_) #[true, true, true, true, true, true, true, false, false, false, false, false, false, false, false, false] rfl rfl (any_of HT_.out (by kernel_rfl)) (fun _ _ _ h => h) (Or.inr ⟨by rfl, rfl⟩) ?_ ?_
          rotate_left
          ·simp only [Act.put, List.setIfInBounds_toArray, List.set_cons_zero, List.set_cons_succ, i64_w, i32_w]
           rfl
          refine pure_ (i := 7) (N := some 44) (v := undef) (a' := ?_) #[true, true, true, true, true, true, true, true, false, false, false, false, false, false, false, false] rfl rfl (any_of HT_.out (by kernel_rfl)) (fun _ _ _ h => h) (Or.inr ⟨by rfl, rfl⟩) ?_ ?_
          rotate_left
          ·simp only [Act.put, List.setIfInBounds_toArray, List.set_cons_zero, List.set_cons_succ, i64_w, i32_w]
           rfl
          refine pure_ (i := 8) (N := some 45) (v := undef) (a' := ?_) #[true, true, true, true, true, true, true, true, true, false, false, false, false, false, false, false] rfl rfl (any_of HT_.out (by kernel_rfl)) (fun _ _ _ h => h) (Or.inr ⟨by rfl, rfl⟩) ?_ ?_
          rotate_left
          ·simp only [Act.put, List.setIfInBounds_toArray, List.set_cons_zero, List.set_cons_succ, i64_w, i32_w]
           rfl
          refine pure_ (i := 9) (N := some 46) (v := undef) (a' := ?_) #[true, true, true, true, true, true, true, true, true, true, false, false, false, false, false, false] rfl rfl (any_of HT_.out (by kernel_rfl)) (fun _ _ _ h => h) (Or.inr ⟨by rfl, rfl⟩) ?_ ?_
          rotate_left
          ·simp only [Act.put, List.setIfInBounds_toArray, List.set_cons_zero, List.set_cons_succ, i64_w, i32_w]
           rfl
          refine pure_ (i := 10) (N := some 47) (v := undef) (a' := ?_) #[true, true, true, true, true, true, true, true, true, true, true, false, false, false, false, false] rfl rfl (any_of HT_.out (by kernel_rfl)) (fun _ _ _ h => h) (Or.inr ⟨by rfl, rfl⟩) ?_ ?_
          rotate_left
          ·simp only [Act.put, List.setIfInBounds_toArray, List.set_cons_zero, List.set_cons_succ, i64_w, i32_w]
           rfl
          refine pure_ (i := 11) (N := some 48) (v := undef) (a' := ?_) #[true, true, true, true, true, true, true, true, true, true, true, true, false, false, false, false] rfl rfl (any_of HT_.out (by kernel_rfl)) (fun _ _ _ h => h) (Or.inr ⟨by rfl, rfl⟩) ?_ ?_
          rotate_left
          ·simp only [Act.put, List.setIfInBounds_toArray, List.set_cons_zero, List.set_cons_succ, i64_w, i32_w]
           rfl
          refine pure_ (i := 12) (N := some 49) (v := undef) (a' := ?_) #[true, true, true, true, true, true, true, true, true, true, true, true, true, false, false, false] rfl rfl (any_of HT_.out (by kernel_rfl)) (fun _ _ _ h => h) (Or.inr ⟨by rfl, rfl⟩) ?_ ?_
          rotate_left
          ·simp only [Act.put, List.setIfInBounds_toArray, List.set_cons_zero, List.set_cons_succ, i64_w, i32_w]
           rfl
          refine pure_ (i := 13) (N := some 50) (v := undef) (a' := ?_) #[true, true, true, true, true, true, true, true, true, true, true, true, true, true, false, false] rfl rfl (any_of HT_.out (by kernel_rfl)) (fun _ _ _ h => h) (Or.inr ⟨by rfl, rfl⟩) ?_ ?_
          rotate_left
          ·simp only [Act.put, List.setIfInBounds_toArray, List.set_cons_zero, List.set_cons_succ, i64_w, i32_w]
           rfl
          refine pure_ (i := 14) (N := some 51) (v := undef) (a' := ?_) #[true, true, true, true, true, true, true, true, true, true, true, true, true, true, true, false] rfl rfl (any_of HT_.out (by kernel_rfl)) (fun _ _ _ h => h) (Or.inr ⟨by rfl, rfl⟩) ?_ ?_
          rotate_left
          ·simp only [Act.put, List.setIfInBounds_toArray, List.set_cons_zero, List.set_cons_succ, i64_w, i32_w]
           rfl
          refine pure_ (i := 15) (N := some 52) (v := ?_) (a' := ?_) #[true, true, true, true, true, true, true, true, true, true, true, true, true, true, true, true] rfl rfl (any_of HT_.out (by kernel_rfl)) (fun _ _ _ h => h) (Or.inl ⟨by rfl, ?_⟩) ?_ ?_
          rotate_left
          ·intro w'
           go_simp
           with_reducible rfl
          rotate_left
          ·simp only [Act.put, List.setIfInBounds_toArray, List.set_cons_zero, List.set_cons_succ, i64_w, i32_w]
           rfl
          refine done_ (done_of HT_.out (by kernel_rfl)) ?_
          try go_wp2
          go_roundg k2
          case measure => have := HJ2.out; have := HK2.out; omega
          case rel => exact ⟨(wrap64 (x33_2 + 1)), (by first | rfl | (simp; done) | (simp [*]; done)), H', ⟨by have := HJ2.out; have := HK2.out; omega⟩, ⟨by (with_reducible repeat (first | refine blk_drewN ?_ _ | refine blk_drew ?_ | refine blk_alloc ?_ _)); exact BK443.out⟩, ⟨by (with_reducible repeat (first | refine blk_drewN ?_ _ | refine blk_drew ?_ | refine blk_alloc ?_ _)); exact BK444.out⟩, ⟨by repeat (first | (with_reducible first | exact HB.out | apply below_alloc | apply pw_below_drewN | apply below_drew1 | refine below_set ?_ GE443.out | refine below_set ?_ GE444.out | refine below_set ?_ GE448.out) | exact HB.out)⟩⟩
        ·rw [if_neg c31] at H
         exact absurd H (by simp)
       ·rw [if_neg c30] at H
        exact absurd H (by simp)
      ·rw [if_neg c29] at H
       have c29b0 : decide (x33_2 < (l0_2.length : Int)) = false := decide_eq_false c29
       clear c29
       by_cases c55 : a0_1 < (wrap64 ((wrap64 ((wrap64 (a1_1 - (l1_2.length : Int))) + 1)) - 1))
       ·rw [if_pos c55] at H
        have c55b0 : decide (a0_1 < (wrap64 ((wrap64 ((wrap64 (a1_1 - (l1_2.length : Int))) + 1)) - 1))) = true := decide_eq_true c55
        clear c55
        obtain rfl := Option.some.inj H
        have hnb56 := NB443_444.out
        have hnc56 := NB444_443.out
        have hcz57_0 : wr.cell? ⟨gb443, 0, none⟩ = some (.string a0_0) := (blk_cell BK443.out 0).trans rfl
        have hcz57_1 : wr.cell? ⟨gb443, 1, none⟩ = some (.int .i64 a0_1) := (blk_cell BK443.out 1).trans rfl
        have hcz57_2 : wr.cell? ⟨gb443, 2, none⟩ = some (.slice A0_2 l0_2.length c0_2) := (blk_cell BK443.out 2).trans rfl
        have hfz57_0 := blk_frozen BK443.out 0
        have hfz57_1 := blk_frozen BK443.out 1
        have hfz57_2 := blk_frozen BK443.out 2
        go_wp2
        go_ret
        exact ⟨by first | rfl | (simp [errW_none, errW_some] <;> rfl) | (simp [*, errW_none, errW_some] <;> rfl), by repeat (first | (with_reducible first | exact HB.out | apply below_alloc | apply pw_below_drewN | apply below_drew1 | refine below_set ?_ GE443.out | refine below_set ?_ GE444.out) | exact HB.out)⟩
       ·rw [if_neg c55] at H
        have c55b0 : decide (a0_1 < (wrap64 ((wrap64 ((wrap64 (a1_1 - (l1_2.length : Int))) + 1)) - 1))) = false := decide_eq_false c55
        clear c55
        replace H := Option.bind_eq_some_iff.mp H
        obtain ⟨t450, A580, H⟩ := H
        replace H : (if 0 ≤ (wrap64 ((wrap64 (a0_1 - (wrap64 ((wrap64 (a1_1 - (l1_2.length : Int))) + 1)))) + 1)) then (if (wrap64 ((wrap64 (a0_1 - (wrap64 ((wrap64 (a1_1 - (l1_2.length : Int))) + 1)))) + 1)) ≤ (l1_2.length : Int) then ((audit_chain.f k2 a1_0 (l1_2.take ((wrap64 ((wrap64 (a0_1 - (wrap64 ((wrap64 (a1_1 - (l1_2.length : Int))) + 1)))) + 1)) : Int).toNat)).bind fun t455 => (some (t450.toList == t455.toList))) else (none)) else (none)) = some r := H
        have A58 := Aside0.mk A580
        clear A580
        obtain ⟨ji59, hji59⟩ : ∃ j_ : Int, (wrap64 ((wrap64 (a0_1 - (wrap64 ((wrap64 (a1_1 - (l1_2.length : Int))) + 1)))) + 1)) = j_ := ⟨_, rfl⟩
        replace H : (if 0 ≤ (ji59) then (if (ji59) ≤ (l1_2.length : Int) then ((audit_chain.f k2 a1_0 (l1_2.take ((ji59) : Int).toNat)).bind fun t455 => (some (t450.toList == t455.toList))) else (none)) else (none)) = some r := by first | (rw [hji59] at H; exact H) | (simp only [hji59] at H ⊢; exact H)
        (try rw [hji59] at A58)
        have hji59w : (IntKind.i64.wrap ((wrap64 (a0_1 - (wrap64 ((wrap64 (a1_1 - (l1_2.length : Int))) + 1)))) + 1)) = ji59 := (i64_w _).trans hji59
        by_cases c60 : 0 ≤ (ji59)
        ·rw [if_pos c60] at H
         have c60b0 := eq_true c60
         have c60b1 : decide (0 ≤ (ji59)) = true := decide_eq_true c60
         clear c60
         by_cases c61 : (ji59) ≤ (l1_2.length : Int)
         ·rw [if_pos c61] at H
          have c61b0 := eq_true c61
          have c61b1 : decide ((ji59) ≤ (l1_2.length : Int)) = true := decide_eq_true c61
          clear c61
          obtain ⟨y451, hy451⟩ : ∃ y_ : List (S64), y_ = (l1_2.take ((ji59) : Int).toNat) := ⟨_, rfl⟩
          replace H : ((audit_chain.f k2 a1_0 y451).bind fun t455 => (some (t450.toList == t455.toList))) = some r := by first | (rw [hy451]; with_reducible exact H) | (have H2_ := (Option.bind_some _ _).symm.trans H; rw [hy451]; with_reducible exact H2_) | (have H2_ := (Option.bind_some _ _).symm.trans H; with_reducible exact H2_) | with_reducible exact H | (rw [hy451]; exact H) | exact H
          have Ny451 := Aside0.mk hy451
          clear hy451
          replace H := Option.bind_eq_some_iff.mp H
          obtain ⟨t455, A620, H⟩ := H
          replace H : (some (t450.toList == t455.toList)) = some r := H
          have A62 := Aside0.mk A620
          clear A620
          obtain rfl := Option.some.inj H
          have hnb63 := NB443_444.out
          have hnc63 := NB444_443.out
          have hcz64_0 : wr.cell? ⟨gb443, 0, none⟩ = some (.string a0_0) := (blk_cell BK443.out 0).trans rfl
          have hcz64_1 : wr.cell? ⟨gb443, 1, none⟩ = some (.int .i64 a0_1) := (blk_cell BK443.out 1).trans rfl
          have hcz64_2 : wr.cell? ⟨gb443, 2, none⟩ = some (.slice A0_2 l0_2.length c0_2) := (blk_cell BK443.out 2).trans rfl
          have hfz64_0 := blk_frozen BK443.out 0
          have hfz64_1 := blk_frozen BK443.out 1
          have hfz64_2 := blk_frozen BK443.out 2
          try go_wp2
          have n0_ := Aside0.mk (blk_drew BK443.out)
          have n1_ := Aside0.mk (blk_drew BK444.out)
          have n2_ := Aside0.mk (below_drew1 HB.out)
          clear BK443
          clear BK444
          clear HB
          have BK443 := n0_
          have BK444 := n1_
          have HB := n2_
          clear n0_ n1_ n2_
          have q66 : ((ji59) : Int) ≤ ((l1_2.length : Int) : Int) := of_decide_eq_true (by first | (with_reducible assumption) | assumption)
          obtain ⟨i066, hi066, _, hsz66, _⟩ := info_parts info64
          have hroom66 : l1_2.length ≤ c1_2 := HC1_2.out
          have hC66 : Kd.C k64 _ A1_2 l1_2.length l1_2 := HR1_2.out
          have hcut66 := cut_to (P := Try.prog) 52 64 .i64 Try.underlying52 hi066 A1_2 l1_2.length c1_2 (ji59) (of_decide_eq_true (by first | (with_reducible assumption) | assumption)) q66 hroom66
          have hr66 := Kd.C_take (m := ((ji59) : Int).toNat) hC66 (by omega)
          have hy66 : y451.length = ((ji59) : Int).toNat := (by rw [Ny451.out, List.length_take]; omega)
          rw [← Ny451.out] at hr66
          rw [← hy66] at hcut66
          have HR454 := Aside0.mk hr66
          have HC454 := Aside0.mk (show y451.length ≤ c1_2 from by omega)
          clear hr66 hC66 hroom66 hi066 hsz66
          have KY66 := Aside0.mk hy66
          clear hy66
          replace q66 := eq_true q66
          refine start_ (n := 15) (S := fun w' => w'.cell? ⟨gb443, 0, none⟩ = some (.string a0_0) ∧ w'.cell? ⟨gb443, 1, none⟩ = some (.int .i64 a0_1) ∧ w'.cell? ⟨gb443, 2, none⟩ = some (.slice A0_2 l0_2.length c0_2) ∧ w'.cell? ⟨gb444, 0, none⟩ = some (.string a1_0) ∧ w'.cell? ⟨gb444, 1, none⟩ = some (.int .i64 a1_1) ∧ w'.cell? ⟨gb444, 2, none⟩ = some (.slice A1_2 l1_2.length c1_2)) (ds := []) #[false, false, false, false, false, false, false, false, false, false, false, false, false, false, false] (by kernel_rfl) rfl rfl ⟨(blk_cell BK443.out 0).trans rfl, (blk_cell BK443.out 1).trans rfl, (blk_cell BK443.out 2).trans rfl, (blk_cell BK444.out 0).trans rfl, (blk_cell BK444.out 1).trans rfl, (blk_cell BK444.out 2).trans rfl⟩ (fun hHeld => ?_); refine with_tabW audit_Follows.tab12 audit_Follows.bits12 (fun HT_ HW_ => ?_)
          generalize wr.drew = w65 at BK443 BK444 HB HR454 hHeld ⊢
          refine pure_ (i := 2) (N := some 61) (v := ?_) (a' := ?_) #[false, false, true, false, false, false, false, false, false, false, false, false, false, false, false] rfl rfl (any_of HT_.out (by kernel_rfl)) (fun _ _ _ h => h) (Or.inl ⟨by rfl, ?_⟩) ?_ ?_
          rotate_left
          ·intro w'
           go_simp
           with_reducible rfl
          rotate_left
          ·simp only [Act.put, List.setIfInBounds_toArray, List.set_cons_zero, List.set_cons_succ, i64_w, i32_w]
           rfl
          refine pure_ (i := 4) (N := some 63) (v := ?_) (a' := ?_) #[false, false, true, false, true, false, false, false, false, false, false, false, false, false, false] rfl rfl (any_of HT_.out (by kernel_rfl)) (fun _ _ _ h => h) (Or.inl ⟨by rfl, ?_⟩) ?_ ?_
          rotate_left
          ·intro w'
           go_simp
           with_reducible rfl
          rotate_left
          ·simp only [Act.put, List.setIfInBounds_toArray, List.set_cons_zero, List.set_cons_succ, i64_w, i32_w]
           rfl
          refine pure_ (i := 6) (N := some 65) (v := ?_) (a' := ?_) #[false, false, true, false, true, false, true, false, false, false, false, false, false, false, false] rfl rfl (any_of HT_.out (by kernel_rfl)) (fun _ _ _ h => h) (Or.inl ⟨by rfl, ?_⟩) ?_ ?_
          rotate_left
          ·intro w'
           go_simp
           with_reducible rfl
          rotate_left
          ·simp only [Act.put, List.setIfInBounds_toArray, List.set_cons_zero, List.set_cons_succ, i64_w, i32_w]
           rfl
          refine pure_ (i := 8) (N := some 67) (v := ?_) (a' := ?_) #[false, false, true, false, true, false, true, false, true, false, false, false, false, false, false] rfl rfl (any_of HT_.out (by kernel_rfl)) (fun _ _ _ h => h) (Or.inl ⟨by rfl, ?_⟩) ?_ ?_
          rotate_left
          ·intro w'
           go_simp
           with_reducible rfl
          rotate_left
          ·simp only [Act.put, List.setIfInBounds_toArray, List.set_cons_zero, List.set_cons_succ, i64_w, i32_w]
           rfl
          refine take_ (i := 0) (N := some 59) (v := ?_) (a' := ?_) #[true, false, true, false, true, false, true, false, true, false, false, false, false, false, false] rfl rfl (take_ofW HT_.out HW_.out (by kernel_rfl)) (fun _ _ _ h => h) (Or.inl ⟨by rfl, ?_⟩) hHeld ?_ ?_
          rotate_left
          ·rintro w' ⟨s0, s1, s2, s3, s4, s5⟩
           go_simp
           with_reducible rfl
          rotate_left
          ·simp only [Act.put, List.setIfInBounds_toArray, List.set_cons_zero, List.set_cons_succ, i64_w, i32_w]
           rfl
          refine take_ (i := 3) (N := some 62) (v := ?_) (a' := ?_) #[true, false, true, true, true, false, true, false, true, false, false, false, false, false, false] rfl rfl (take_ofW HT_.out HW_.out (by kernel_rfl)) (fun _ _ _ h => h) (Or.inl ⟨by rfl, ?_⟩) hHeld ?_ ?_
          rotate_left
          ·rintro w' ⟨s0, s1, s2, s3, s4, s5⟩
           go_simp
           with_reducible rfl
          rotate_left
          ·simp only [Act.put, List.setIfInBounds_toArray, List.set_cons_zero, List.set_cons_succ, i64_w, i32_w]
           rfl
          refine take_ (i := 5) (N := some 64) (v := ?_) (a' := ?_) #[true, false, true, true, true, true, true, false, true, false, false, false, false, false, false] rfl rfl (take_ofW HT_.out HW_.out (by kernel_rfl)) (fun _ _ _ h => h) (Or.inl ⟨by rfl, ?_⟩) hHeld ?_ ?_
          rotate_left
          ·rintro w' ⟨s0, s1, s2, s3, s4, s5⟩
           go_simp
           with_reducible rfl
          rotate_left
          ·simp only [Act.put, List.setIfInBounds_toArray, List.set_cons_zero, List.set_cons_succ, i64_w, i32_w]
           rfl
          refine take_ (i := 7) (N := some 66) (v := ?_) (a' := ?_) #[true, false, true, true, true, true, true, true, true, false, false, false, false, false, false] rfl rfl (take_ofW HT_.out HW_.out (by kernel_rfl)) (fun _ _ _ h => h) (Or.inl ⟨by rfl, ?_⟩) hHeld ?_ ?_
          rotate_left
          ·rintro w' ⟨s0, s1, s2, s3, s4, s5⟩
           go_simp
           with_reducible rfl
          rotate_left
          ·simp only [Act.put, List.setIfInBounds_toArray, List.set_cons_zero, List.set_cons_succ, i64_w, i32_w]
           rfl
          refine pure_ (i := 9) (N := some 68) (v := ?_) (a' := ?_) #[true, false, true, true, true, true, true, true, true, true, false, false, false, false, false] rfl rfl (any_of HT_.out (by kernel_rfl)) (fun _ _ _ h => h) (Or.inl ⟨by rfl, ?_⟩) ?_ ?_
          rotate_left
          ·intro w'
           go_simp
           with_reducible rfl
          rotate_left
          ·simp only [Act.put, List.setIfInBounds_toArray, List.set_cons_zero, List.set_cons_succ, i64_w, i32_w]
           rfl
          refine pure_ (i := 10) (N := some 69) (v := ?_) (a' := ?_) #[true, false, true, true, true, true, true, true, true, true, true, false, false, false, false] rfl rfl (any_of HT_.out (by kernel_rfl)) (fun _ _ _ h => h) (Or.inl ⟨by rfl, ?_⟩) ?_ ?_
          rotate_left
          ·intro w'
           go_simp
           with_reducible rfl
          rotate_left
          ·simp only [Act.put, List.setIfInBounds_toArray, List.set_cons_zero, List.set_cons_succ, i64_w, i32_w]
           rfl
          refine pure_ (i := 11) (N := some 70) (v := ?_) (a' := ?_) #[true, false, true, true, true, true, true, true, true, true, true, true, false, false, false] rfl rfl (any_of HT_.out (by kernel_rfl)) (fun _ _ _ h => h) (Or.inl ⟨by rfl, ?_⟩) ?_ ?_
          rotate_left
          ·intro w'
           go_simp
           with_reducible rfl
          rotate_left
          ·simp only [Act.put, List.setIfInBounds_toArray, List.set_cons_zero, List.set_cons_succ, i64_w, i32_w]
           rfl
          refine one_ (i := 1) (N := some 60) #[true, true, true, true, true, true, true, true, true, true, true, true, false, false, false] rfl rfl (one_of HT_.out (by kernel_rfl)) (by decide) (fun K hK => ?_)
          refine goes_ Try.func44 (by kernel_rfl) rfl #[.agg #[.string a0_0, .int .i64 a0_1, .slice A0_2 l0_2.length c0_2]] (by rfl) rfl rfl (by (try simp only [List.map_toArray, List.map_cons, List.map_nil]); first | done | rfl | (simp only [List.length_drop, List.length_take]; rfl)) ?_
          with_reducible refine (audit_Digest.calls k2 a0_0 a0_1 _ _ l0_2 t450 _ ?side1 ?side2 A58.out).mono ?_
          (case side1 => repeat (first | exact (Kd.C_below HR0_2.out HB.out) | (with_reducible refine Kd.C_alloc ?_ _) | (with_reducible refine Kd.C_drewN ?_ _) | (with_reducible refine Kd.C_drew ?_)))
          (case side2 => exact HC0_2.out)
          rintro e w67 ⟨rfl, hb⟩
          refine ⟨_, rfl, ?_⟩
          have n0_ := Aside0.mk (blk_below (g := gb443) (o := .cells #[.string a0_0, .int .i64 a0_1, .slice A0_2 l0_2.length c0_2] 56 (0, 0)) (by (with_reducible repeat (first | refine blk_drewN ?_ _ | refine blk_drew ?_ | refine blk_alloc ?_ _)); exact BK443.out) hb)
          have n1_ := Aside0.mk (blk_below (g := gb444) (o := .cells #[.string a1_0, .int .i64 a1_1, .slice A1_2 l1_2.length c1_2] 56 (0, 0)) (by (with_reducible repeat (first | refine blk_drewN ?_ _ | refine blk_drew ?_ | refine blk_alloc ?_ _)); exact BK444.out) hb)
          have n2_ := Aside0.mk (below_step (by repeat (first | (with_reducible first | exact HB.out | apply below_alloc | apply pw_below_drewN | apply below_drew1 | refine below_set ?_ GE443.out | refine below_set ?_ GE444.out) | exact HB.out)) hb)
          clear BK443
          clear BK444
          clear HB
          have BK443 := n0_
          have BK444 := n1_
          have HB := n2_
          clear n0_ n1_ n2_
          (try clear hb)
          (try clear hb2)
          (try clear hk)
          (try clear hi)
          refine hK.out _ _ ⟨(blk_cell BK443.out 0).trans rfl, (blk_cell BK443.out 1).trans rfl, (blk_cell BK443.out 2).trans rfl, (blk_cell BK444.out 0).trans rfl, (blk_cell BK444.out 1).trans rfl, (blk_cell BK444.out 2).trans rfl⟩ (fun hHeld => ?_)
          clear hK K
          refine norm_ (a' := ?_) ?_ ?_
          rotate_left
          ·show Act.put _ (some 60) _ = _
           simp only [Act.put, List.setIfInBounds_toArray, List.set_cons_zero, List.set_cons_succ, i64_w, i32_w]
           rfl
          refine one_ (i := 12) (N := some 71) #[true, true, true, true, true, true, true, true, true, true, true, true, true, false, false] rfl rfl (one_of HT_.out (by kernel_rfl)) (by decide) (fun K hK => ?_)
          refine goes_ Try.func78 (by kernel_rfl) rfl #[.string a1_0, .slice A1_2 y451.length c1_2] (by rfl) rfl rfl (by (try simp only [List.map_toArray, List.map_cons, List.map_nil]); first | done | rfl | (simp only [List.length_drop, List.length_take]; rfl)) ?_
          with_reducible refine (audit_chain.calls k2 a1_0 _ _ y451 t455 _ ?side1 ?side2 A62.out).mono ?_
          (case side1 => repeat (first | exact (Kd.C_below HR454.out HB.out) | (with_reducible refine Kd.C_alloc ?_ _) | (with_reducible refine Kd.C_drewN ?_ _) | (with_reducible refine Kd.C_drew ?_)))
          (case side2 => exact HC454.out)
          rintro e w68 ⟨rfl, hb⟩
          refine ⟨_, rfl, ?_⟩
          have n0_ := Aside0.mk (blk_below (g := gb443) (o := .cells #[.string a0_0, .int .i64 a0_1, .slice A0_2 l0_2.length c0_2] 56 (0, 0)) (by (with_reducible repeat (first | refine blk_drewN ?_ _ | refine blk_drew ?_ | refine blk_alloc ?_ _)); exact BK443.out) hb)
          have n1_ := Aside0.mk (blk_below (g := gb444) (o := .cells #[.string a1_0, .int .i64 a1_1, .slice A1_2 l1_2.length c1_2] 56 (0, 0)) (by (with_reducible repeat (first | refine blk_drewN ?_ _ | refine blk_drew ?_ | refine blk_alloc ?_ _)); exact BK444.out) hb)
          have n2_ := Aside0.mk (below_step (by repeat (first | (with_reducible first | exact HB.out | apply below_alloc | apply pw_below_drewN | apply below_drew1 | refine below_set ?_ GE443.out | refine below_set ?_ GE444.out) | exact HB.out)) hb)
          clear BK443
          clear BK444
          clear HB
          have BK443 := n0_
          have BK444 := n1_
          have HB := n2_
          clear n0_ n1_ n2_
          (try clear hb)
          (try clear hb2)
          (try clear hk)
          (try clear hi)
          refine hK.out _ _ ⟨(blk_cell BK443.out 0).trans rfl, (blk_cell BK443.out 1).trans rfl, (blk_cell BK443.out 2).trans rfl, (blk_cell BK444.out 0).trans rfl, (blk_cell BK444.out 1).trans rfl, (blk_cell BK444.out 2).trans rfl⟩ (fun hHeld => ?_)
          clear hK K
          refine norm_ (a' := ?_) ?_ ?_
          rotate_left
          ·show Act.put _ (some 71) _ = _
           simp only [Act.put, List.setIfInBounds_toArray, List.set_cons_zero, List.set_cons_succ, i64_w, i32_w]
           rfl
          refine pure_ (i := 13) (N := some 72) (v := ?_) (a' := ?_) #[true, true, true, true, true, true, true, true, true, true, true, true, true, true, false] rfl rfl (any_of HT_.out (by kernel_rfl)) (fun _ _ _ h => h) (Or.inl ⟨by rfl, ?_⟩) ?_ ?_
          rotate_left
          ·intro w'
           go_simp
           with_reducible rfl
          rotate_left
          ·simp only [Act.put, List.setIfInBounds_toArray, List.set_cons_zero, List.set_cons_succ, i64_w, i32_w]
           rfl
          refine pure_ (i := 14) (N := some 4) (v := ?_) (a' := ?_) #[true, true, true, true, true, true, true, true, true, true, true, true, true, true, true] rfl rfl (any_of HT_.out (by kernel_rfl)) (fun _ _ _ h => h) (Or.inl ⟨by rfl, ?_⟩) ?_ ?_
          rotate_left
          ·intro w'
           go_simp
           with_reducible rfl
          rotate_left
          ·simp only [Act.put, List.setIfInBounds_toArray, List.set_cons_zero, List.set_cons_succ, i64_w, i32_w]
           rfl
          refine done_ (done_of HT_.out (by kernel_rfl)) ?_
          try go_wp2
          go_ret
          exact ⟨by first | rfl | (simp [errW_none, errW_some] <;> rfl) | (simp only [← hji59]; first | rfl | (simp [errW_none, errW_some] <;> rfl)) | (simp [*, errW_none, errW_some] <;> rfl), by repeat (first | (with_reducible first | exact HB.out | apply below_alloc | apply pw_below_drewN | apply below_drew1 | refine below_set ?_ GE443.out | refine below_set ?_ GE444.out) | exact HB.out)⟩
         ·rw [if_neg c61] at H
          exact absurd H (by simp)
        ·rw [if_neg c60] at H
         exact absurd H (by simp)

end Go.Proofs.Ytcdnmlfnfhoieaa.A

/- audit.Add, walked: an audit that goes on by an entry. No condition beyond what the function says. -/
namespace Go.Proofs.Ytcdnmlfnfhoieaa.A
open Go.RowKit Go.Proofs.YtcdnmlfnfhoieaaW.PrintWords Go.Proofs.YtcdnmlfnfhoieaaW.PrintLast Go.Proofs.YtcdnmlfnfhoieaaW.PrintMore Go.Proofs.Ytcdnmlfnfhoieaa.Bs
attribute [local go_sem] max2_int min2_int max_two min_two max_three min_three max_four min_four
set_option linter.unusedVariables false
set_option linter.unusedSimpArgs false

def addOn (k : Nat) (a : ByteArray) (n : Int) (l : List S64) (e : S64) : Option (ByteArray × Int × List S64 × Int) :=
 if l.length = 8 then ((audit_bytes.f k (rd_T64 l 0).f0 (rd_T64 l 0).f1 (rd_T64 l 0).f2 (rd_T64 l 0).f3 (rd_T64 l 0).f4).bind fun b => (mac_Seal.f a b).bind fun s => some (s, n, l.drop 1 ++ [e], 0))
 else if l.length < 1000000000 then some (a, n, l ++ [e], 0) else none
def audit_Add.f (k : Nat) (a0_0 : ByteArray) (a0_1 : Int) (l0_2 : List S64) (a1_0 a1_1 a1_2 : Int) (a1_3 : ByteArray) (a1_4 : Int) : Option (ByteArray × Int × List S64 × Int) :=
 (audit_May.f k a0_0 a0_1 l0_2).bind fun m => if m = true then ((audit_good.f (wrap64 (a0_1 + 1)) a1_1 a1_2 a1_3 a1_4).bind fun g => if g = true then addOn k a0_0 (wrap64 (a0_1 + 1)) l0_2 ⟨wrap64 (a0_1 + 1), a1_1, a1_2, a1_3, a1_4⟩ else some (⟨#[]⟩, 0, [], 1)) else some (⟨#[]⟩, 0, [], 1)

theorem C_frame64 {w w1 : World} {S : Nat → Prop} {A : Option Addr} {n : Nat} {xs : List S64} (h : Kd.C k64 w A n xs) (hf : Fr w w1 S) (ho : Out S A n) : Kd.C k64 w1 A n xs := by
 refine ⟨h.1, h.2.1, fun hn => ?_⟩
 obtain ⟨ad, e, hc⟩ := h.2.2 hn
 refine ⟨ad, e, fun j p hj => ?_⟩
 obtain ⟨c, h1, h2, h3⟩ := hc j p hj
 exact ⟨c, h1, h2, fun i u hi => hf.cell (h3 i u hi) (by rw [add_block]; exact ho ad e hn)⟩
theorem addOn.mono (k : Nat) (a : ByteArray) (n : Int) (l : List S64) (e : S64) : LeO (addOn k a n l e) (addOn (k + 1) a n l e) := by
 unfold addOn
 refine LeO.ite (LeO.bind (audit_bytes.mono _ _ _ _ _ _) (fun _ => LeO.refl _)) (LeO.refl _)
theorem audit_Add.mono : ∀ a0 a1 a2 a3 a4 a5 a6 a7 k, LeO (audit_Add.f k a0 a1 a2 a3 a4 a5 a6 a7) (audit_Add.f (k + 1) a0 a1 a2 a3 a4 a5 a6 a7) := by
 intro a0 a1 a2 a3 a4 a5 a6 a7 k
 unfold audit_Add.f
 exact LeO.bind (audit_May.mono _ _ _ _) (fun _ => LeO.ite (LeO.bind (LeO.refl _) (fun _ => LeO.ite (addOn.mono _ _ _ _ _) (LeO.refl _))) (LeO.refl _))
/-- append onto a slice without room: a new row. -/
theorem run_append_full {P : Program} {α : Type} (d : Kd α) {W : World} (t ty e : TypeId) (z : Value) (bytes : Nat) (ht : P.underlying t = some (.slice e)) (hinfo : (P.info? e).map (fun i => (i.zero, i.size, i.bytes)) = some (some z, d.sz, bytes)) (hz : z.cells.size = d.sz) (hs0 : 0 < d.sz) (hb0 : 0 < bytes)
  (ad ad2 : Addr) (n m c : Nat) (xs ys : List α) (HX : d.C W (some ad) n xs) (HY : d.C W (some ad2) m ys) (hm : 0 < m) (hKM : ∀ (w' : World) (base' : Nat) (ok' : Nat → Prop) x cs, d.K W x cs → d.M w' base' ok' x cs) (hl : (n + m) * bytes ≤ 140737488355328) :
  ∃ v1 w1, (Builtin.append_ #[t, t] ty #[.slice (some ad) n n, .slice (some ad2) m c]).run P W = .ok v1 w1 ∧ d.R e w1 W.heap.size (fun _ => True) v1 (xs ++ ys) ∧ Below W.heap.size W w1 := by
 obtain ⟨i0, hi, hzz⟩ := Option.map_eq_some_iff.1 hinfo
 simp only [Prod.mk.injEq] at hzz
 obtain ⟨hz0, hz1, hz2⟩ := hzz
 obtain ⟨olds, hr1, hc1⟩ := ReadsRow.inner_ HX
 obtain ⟨news, hr2, hc2⟩ := ReadsRow.inner_ HY
 have hx : xs.length = n := HX.1
 have hy : ys.length = m := HY.1
 have hlen : n + m ≤ 140737488355328 := Nat.le_trans (Nat.le_mul_of_pos_right _ hb0) hl
 obtain ⟨v1, w1, hrun, hown, hg⟩ := run_append_arg_grows (P := P) W t ty e i0 z d.sz bytes ht hi hz0 hz1 hz2 hz hs0 ad n n olds (by rw [hr1.1, hx]) hc1 ad2 m c news (by rw [hr2.1, hy]) hc2 (by omega) (by simp only [maxLen]; omega) hl
 refine ⟨v1, w1, hrun, ⟨fun _ _ => trivial, olds ++ news, by rw [List.length_append, hx, hy]; exact hown, Kd.reps_append (hr1.imp_ (fun _ _ h => hKM _ _ _ _ _ h)) (hr2.imp_ (fun _ _ h => hKM _ _ _ _ _ h))⟩, ⟨hg.os, hg.tape, hg.output, hg.size, fun i hi => hg.block i hi (by simp)⟩⟩

/-- .. as one step of a region that draws its order. -/
theorem R_append_full_step {P : Program} {ops : Array Oper} {o : Oper} {a : Act} {W : World} {Kc : Act → World → Prop} {Q : Exit → Act → World → Prop} {α : Type} (d : Kd α) (hw : Region.wanted o (yielded ops a.tmps) = true) (s x : Operand) (t e : TypeId) (z : Value) (bytes : Nat)
  (ho : o.op = .call { callee := .builtin .append, args := #[s, x], argTypes := #[t, t] }) (ht : P.underlying t = some (.slice e)) (hinfo : (P.info? e).map (fun i => (i.zero, i.size, i.bytes)) = some (some z, d.sz, bytes)) (hz : z.cells.size = d.sz) (hs0 : 0 < d.sz) (hb0 : 0 < bytes)
  (ad ad2 : Addr) (n m c : Nat) (xs ys : List α) (hs : a.eval s = .slice (some ad) n n) (hx : a.eval x = .slice (some ad2) m c) (HX : d.C W (some ad) n xs) (HY : d.C W (some ad2) m ys) (hm : 0 < m) (hKM : ∀ (w' : World) (base' : Nat) (ok' : Nat → Prop) x cs, d.K W x cs → d.M w' base' ok' x cs) (hl : (n + m) * bytes ≤ 140737488355328)
  (h : ∀ v1 w1, d.R e w1 W.heap.size (fun _ => True) v1 (xs ++ ys) → Below W.heap.size W w1 → Kc (a.put o.dst v1) w1) :
  if Region.wanted o (yielded ops a.tmps) = true then Oper.wp P o a W Kc Q else Kc (a.put o.dst undef) W := by
 obtain ⟨v1, w1, hrun, h1, h2⟩ := run_append_full (P := P) d t o.type e z bytes ht hinfo hz hs0 hb0 ad ad2 n m c xs ys HX HY hm hKM hl
 rw [if_pos hw]
 unfold Oper.wp
 simp [execOp, ho, resolve, invoke, builtin, hs, hx, hrun, Result.andThen]
 exact h v1 w1 h1 h2

set_option maxHeartbeats 8000000 in
set_option maxRecDepth 100000 in
theorem audit_Add.calls (k : Nat) (a0_0 : ByteArray) (a0_1 : Int) (A0_2 : Option Addr) (c0_2 : Nat) (l0_2 : List S64) (a1_0 a1_1 a1_2 : Int) (a1_3 : ByteArray) (a1_4 : Int) (r1 : ByteArray) (r2 : Int) (r3 : List S64) (r4 : Int) (w : World) (hr0_2 : Kd.C k64 w A0_2 l0_2.length l0_2) (hc0_2 : l0_2.length ≤ c0_2) (h : audit_Add.f k a0_0 a0_1 l0_2 a1_0 a1_1 a1_2 a1_3 a1_4 = some (r1, r2, r3, r4)) :
  Calls Try.prog 42 #[.agg #[.string a0_0, .int .i64 a0_1, .slice A0_2 l0_2.length c0_2], .agg #[.int .i64 a1_0, .int .i64 a1_1, .int .i64 a1_2, .string a1_3, .int .i64 a1_4]] w fun e w' => ∃ v2_ : Value, e = .returned (.tuple #[.agg #[.string r1, .int .i64 r2, v2_], .int .i64 r4]) ∧ Kd.R k64 64 w' w.heap.size (fun _ => True) v2_ r3 ∧ Below w.heap.size w w' := by
 have hu56 := Try.underlying56
 have hu64 := Try.underlying64
 have hu52 := Try.underlying52
 have HR := Aside0.mk hr0_2
 have HC := Aside0.mk hc0_2
 clear hr0_2 hc0_2
 unfold audit_Add.f at h
 obtain ⟨m, hm, h⟩ := Option.bind_eq_some_iff.mp h
 have HM := Aside0.mk hm
 have H := Aside0.mk h
 clear hm h
 go_enter Try.func42, Try.ntmps42
 go_upto_region 1 with (first | ((with_reducible refine gate_dst (N := 2) rfl ?_); refine box_event ?hg (N := 2) ?hd (cs := #[.string a0_0, .int .i64 a0_1, .slice A0_2 l0_2.length c0_2]) (t := 56) ?hr ?_; (case hd => rfl); (case hg => rfl); (case hr => first | (go_simp; done) | (go_simp; rfl)); intro g2 hg2 w2 hb2 hbel2; have HG2 := Aside0.mk hg2; have HB2 := Aside0.mk hb2; have HL2 := Aside0.mk hbel2; clear hg2 hb2 hbel2) | ((with_reducible refine gate_dst (N := 3) rfl ?_); refine box_event ?hg (N := 3) ?hd (cs := #[.int .i64 a1_0, .int .i64 a1_1, .int .i64 a1_2, .string a1_3, .int .i64 a1_4]) (t := 64) ?hr ?_; (case hd => rfl); (case hg => rfl); (case hr => first | (go_simp; done) | (go_simp; rfl)); intro g3 hg3 w3 hb3 hbel3; have HG3 := Aside0.mk hg3; have HB3 := Aside0.mk hb3; have HL3 := Aside0.mk hbel3; clear hg3 hb3 hbel3) | ((with_reducible refine gate_dst (N := 4) rfl ?_); refine box_event ?hg (N := 4) ?hd (cs := #[.string ⟨#[]⟩, .int .i64 0, .slice none 0 0]) (t := 56) ?hr ?_; (case hd => rfl); (case hg => rfl); (case hr => first | (go_simp; done) | (go_simp; rfl)); intro g4 hg4 w4 hb4 hbel4; have HG4 := Aside0.mk hg4; have HB4 := Aside0.mk hb4; have HL4 := Aside0.mk hbel4; clear hg4 hb4 hbel4))
 have HS2 : Aside0 (w4.heap[g2]? = some (.cells #[.string a0_0, .int .i64 a0_1, .slice A0_2 l0_2.length c0_2] 56 (0, 0))) := ⟨blk_below (blk_below HB2.out HL3.out) HL4.out⟩
 have HS3 : Aside0 (w4.heap[g3]? = some (.cells #[.int .i64 a1_0, .int .i64 a1_1, .int .i64 a1_2, .string a1_3, .int .i64 a1_4] 64 (0, 0))) := ⟨blk_below HB3.out HL4.out⟩
 have HL : Aside0 (Below w.heap.size w w4) := ⟨below_step (below_step HL2.out HL3.out) HL4.out⟩
 have N23 : Aside0 (g2 ≠ g3) := ⟨by rw [HG3.out]; exact Nat.ne_of_lt (blk_lt HB2.out)⟩
 have N24 : Aside0 (g2 ≠ g4) := ⟨by rw [HG4.out]; exact Nat.ne_of_lt (blk_lt (blk_below HB2.out HL3.out))⟩
 have N34 : Aside0 (g3 ≠ g4) := ⟨by rw [HG4.out]; exact Nat.ne_of_lt (blk_lt HB3.out)⟩
 have W2 : Aside0 (w.heap.size ≤ g2) := ⟨by rw [HG2.out]; exact Nat.le_refl _⟩
 have W3 : Aside0 (w.heap.size ≤ g3) := ⟨by rw [HG3.out]; exact below_size HL2.out⟩
 have W4 : Aside0 (w.heap.size ≤ g4) := ⟨by rw [HG4.out]; exact below_size (below_step HL2.out HL3.out)⟩
 have HR4 : Aside0 (Kd.C k64 w4 A0_2 l0_2.length l0_2) := ⟨Kd.C_below HR.out HL.out⟩
 clear HG2 HG3 HG4 HB2 HB3 HL2 HL3 HL4
 have c20 : w4.cell? ⟨g2, 0, none⟩ = some (.string a0_0) := (blk_cell HS2.out 0).trans rfl
 have c21 : w4.cell? ⟨g2, 1, none⟩ = some (.int .i64 a0_1) := (blk_cell HS2.out 1).trans rfl
 have c22 : w4.cell? ⟨g2, 2, none⟩ = some (.slice A0_2 l0_2.length c0_2) := (blk_cell HS2.out 2).trans rfl
 go_wp2_with fail
 refine (audit_May.calls k a0_0 a0_1 A0_2 c0_2 l0_2 m w4 HR4.out HC.out HM.out).mono ?_
 rintro e w5 ⟨rfl, hb5⟩
 have h0 := H.out
 have HS4 := Aside0.mk (blk_below HB4.out hb5)
 have HQ2 := Aside0.mk (blk_below HS2.out hb5)
 have HQ3 := Aside0.mk (blk_below HS3.out hb5)
 have HL5 := Aside0.mk (below_step HL.out hb5)
 have HR5 := Aside0.mk (Kd.C_below HR4.out hb5)
 have HA0 : Aside0 ((#[.string ⟨#[]⟩, .int .i64 0, .slice none 0 0] : Array Value).all (·.oneCell') = true) := ⟨by simp [Value.oneCell']⟩
 have HI56 : Aside0 ((Try.prog.info? 56).map (·.size) = some 3) := ⟨by kernel_rfl⟩
 clear H HM HB4 HS2 HS3 HL HR4 hb5 c20 c21 c22
 cases m with
 | false =>
  rw [if_neg (by decide)] at h0
  cases h0
  go_wp2_with (refine gate_ (.store 56 (.tmp 4) (.tmp 10)) rfl ?_; refine wpList_store_row rfl 56 (.tmp 4) (.tmp 10) rfl g4 #[.string ⟨#[]⟩, .int .i64 0, .slice none 0 0] rfl rfl 56 _ HS4.out HI56.out rfl HA0.out ?_)
  refine bodyPost_ret_by (results_ct rfl _ _ g4 56 #[.string ⟨#[]⟩, .int .i64 0, .slice none 0 0] (0, 0) _ rfl (setRow_heap _ _ _ _ _ _ HS4.out) hu56 rfl HI56.out) rfl ?_
  exact ⟨_, rfl, Kd.R_nil _ _ _ _ _, HL5.out.trans (below_setRow W4.out)⟩
 | true =>
  rw [if_pos rfl] at h0
  obtain ⟨g, hg, h0⟩ := Option.bind_eq_some_iff.mp h0
  have HG := Aside0.mk hg
  have H := Aside0.mk h0
  obtain ⟨nn, hnn⟩ : ∃ nn, wrap64 (a0_1 + 1) = nn := ⟨_, rfl⟩
  rw [hnn] at HG H
  clear hg h0
  have f30 : w5.frozen? ⟨g3, 0, none⟩ = false := blk_frozen HQ3.out 0
  have c21 : w5.cell? ⟨g2, 1, none⟩ = some (.int .i64 a0_1) := (blk_cell HQ2.out 1).trans rfl
  have c30 : w5.cell? ⟨g3, 0, none⟩ = some (.int .i64 a1_0) := (blk_cell HQ3.out 0).trans rfl
  go_upto_region 4 with (fail)
  have HR6 : Aside0 (Kd.C k64 (w5.setCell ⟨g3, 0, none⟩ (.int .i64 nn)) A0_2 l0_2.length l0_2) := ⟨by
   have := Kd.C_below (w := w) (w1 := w5.setCell ⟨g3, 0, none⟩ (.int .i64 nn)) HR.out (below_set HL5.out W3.out)
   exact this⟩
  have HP3 : Aside0 ((w5.setCell ⟨g3, 0, none⟩ (.int .i64 nn)).heap[g3]? = some (.cells #[.int .i64 nn, .int .i64 a1_1, .int .i64 a1_2, .string a1_3, .int .i64 a1_4] 64 (0, 0))) := ⟨blk_set HQ3.out 0 _⟩
  have HP2 := Aside0.mk (blk_far HQ2.out (p := ⟨g3, 0, none⟩) N23.out (.int .i64 nn))
  have HP4 := Aside0.mk (blk_far HS4.out (p := ⟨g3, 0, none⟩) (Ne.symm N34.out) (.int .i64 nn))
  have HL6 := Aside0.mk (below_set (j := 0) (v := .int .i64 nn) HL5.out W3.out)
  generalize w5.setCell ⟨g3, 0, none⟩ (.int .i64 nn) = w6 at HR6 HP3 HP2 HP4 HL6 ⊢
  clear HS4 HQ2 HQ3 HL5 HR5 f30 c21 c30 HR
  have e30 : w6.cell? ⟨g3, 0, none⟩ = some (.int .i64 nn) := (blk_cell HP3.out 0).trans rfl
  have e31 : w6.cell? ⟨g3, 1, none⟩ = some (.int .i64 a1_1) := (blk_cell HP3.out 1).trans rfl
  have e32 : w6.cell? ⟨g3, 2, none⟩ = some (.int .i64 a1_2) := (blk_cell HP3.out 2).trans rfl
  have e33 : w6.cell? ⟨g3, 3, none⟩ = some (.string a1_3) := (blk_cell HP3.out 3).trans rfl
  have e34 : w6.cell? ⟨g3, 4, none⟩ = some (.int .i64 a1_4) := (blk_cell HP3.out 4).trans rfl
  go_wp2_with fail
  refine (audit_good.calls nn a1_1 a1_2 a1_3 a1_4 g w6 HG.out).mono ?_
  rintro e w7 ⟨rfl, hd7⟩
  clear e30 e31 e32 e33 e34
  have HL7 := Aside0.mk (below_step HL6.out hd7)
  have HT2 := Aside0.mk (blk_below HP2.out hd7)
  have HT3 := Aside0.mk (blk_below HP3.out hd7)
  have HT4 := Aside0.mk (blk_below HP4.out hd7)
  have HR7 := Aside0.mk (Kd.C_below HR6.out hd7)
  have h0 := H.out
  clear HL6 HP2 HP3 HP4 HR6 hd7 H
  cases g with
  | false =>
   rw [if_neg (by decide)] at h0
   cases h0
   go_wp2_with (refine gate_ (.store 56 (.tmp 4) (.tmp 18)) rfl ?_; refine wpList_store_row rfl 56 (.tmp 4) (.tmp 18) rfl g4 #[.string ⟨#[]⟩, .int .i64 0, .slice none 0 0] rfl rfl 56 _ HT4.out HI56.out rfl HA0.out ?_)
   refine bodyPost_ret_by (results_ct rfl _ _ g4 56 #[.string ⟨#[]⟩, .int .i64 0, .slice none 0 0] (0, 0) _ rfl (setRow_heap _ _ _ _ _ _ HT4.out) hu56 rfl HI56.out) rfl ?_
   exact ⟨_, rfl, Kd.R_nil _ _ _ _ _, HL7.out.trans (below_setRow W4.out)⟩
  | true =>
   rw [if_pos rfl] at h0
   unfold addOn at h0
   have c22 : w7.cell? ⟨g2, 2, none⟩ = some (.slice A0_2 l0_2.length c0_2) := (blk_cell HT2.out 2).trans rfl
   by_cases h8 : l0_2.length = 8
   ·rw [if_pos h8] at h0
    have d8 : ((l0_2.length : Int) == 8) = true := beq_iff_eq.mpr (by omega)
    obtain ⟨b, hb, h0⟩ := Option.bind_eq_some_iff.mp h0
    obtain ⟨s, hs, h0⟩ := Option.bind_eq_some_iff.mp h0
    cases h0
    have HBY := Aside0.mk hb
    have HSL := Aside0.mk hs
    have H8 := Aside0.mk h8
    have HAL : Aside0 ((([] : List S64).length + l0_2.length) * 48 ≤ 140737488355328) := ⟨by rw [h8]; decide⟩
    clear hb hs h8
    go_upto_region 8 with (first | ((with_reducible refine gate_dst (N := 19) rfl ?_); refine Kd.R_lit k64 _ 64 ?hg (N := 19) ?hd (xs := ([] : List S64)) (inner := []) (ok := fun _ => True) (okp := fun _ => True) ?hr ?hp (fun _ hk => hk) trivial (Below.refl _ _) (Nat.le_refl _) (by simp) ?_; (case hd => rfl); (case hg => rfl); (case hr => first | (go_simp; done) | (go_simp; rfl)); (case hp => exact (Reps.none _ _)); intro v8 w8 hr8 hb8 hg8 hx8; clear hg8 hx8; have HV8 := Aside0.mk hr8; have HL8 := Aside0.mk hb8; have HC8 := Aside0.mk (Kd.C_below HR7.out hb8); have c22b : w8.cell? ⟨g2, 2, none⟩ = some (.slice A0_2 l0_2.length c0_2) := pw_cell_below hb8 c22; clear hr8 hb8) | ((with_reducible refine gate_builtin (b := .append) (xs := #[.tmp 19, .tmp 21]) rfl ?_); at_builtin; refine Kd.R_append_rows k64 (w0 := w7) w7.heap.size rfl (.tmp 19) (.tmp 21) 52 64 _ 48 rfl Try.underlying52 info64 rfl (by decide) (by omega) v8 [] l0_2 _ _ _ (fun _ => True) (fun _ => False) rfl rfl HV8.out HC8.out (fun _ _ h => h) (fun _ h => h.elim) (fun _ _ => trivial) HL8.out (below_size HL8.out) HAL.out ?_; intro v9 w9 hr9 hb9 hg9 hat9; clear hg9 hat9; rw [List.nil_append] at hr9; obtain ⟨gL, c9, rfl, hgL, _⟩ := Kd.R_form hr9 (by rw [H8.out]; decide); have HV9 := Aside0.mk hr9; have HL9 := Aside0.mk hb9; have HGL := Aside0.mk hgL; clear hr9 hb9 HV8 HL8 HC8 c22b hgL))
    have hT2 := blk_below HT2.out HL9.out
    have hT3 := blk_below HT3.out HL9.out
    have hT4 := blk_below HT4.out HL9.out
    have HG2L : Aside0 (g2 < w7.heap.size ∧ g3 < w7.heap.size ∧ g4 < w7.heap.size) := ⟨blk_lt HT2.out, blk_lt HT3.out, blk_lt HT4.out⟩
    clear HT2 HT3 HT4 c22 HR7
    have HT2 := Aside0.mk hT2
    have HT3 := Aside0.mk hT3
    have HT4 := Aside0.mk hT4
    clear hT2 hT3 hT4
    have c20 : w9.cell? ⟨g2, 0, none⟩ = some (.string a0_0) := (blk_cell HT2.out 0).trans rfl
    obtain ⟨ad, e', d0, d1, d2, d3, d4⟩ := at_T64 (Kd.R_reads' HV9.out).2.2 0 (by omega) (by rw [H8.out]; decide)
    cases e'
    simp only [Int.toNat_zero, Nat.zero_mul, add_plain, Nat.zero_add] at d0 d1 d2 d3 d4
    obtain ⟨E0, hE0⟩ : ∃ E, rd_T64 l0_2 0 = E := ⟨_, rfl⟩
    rw [hE0] at HBY d0 d1 d2 d3 d4
    clear hE0
    obtain ⟨x0, x1, x2, x3, x4⟩ := E0
    simp only at HBY d0 d1 d2 d3 d4
    have p1 := eq_true (show (0 : Int) < (l0_2.length : Int) by rw [H8.out]; decide)
    have p2 := eq_true (show 0 < l0_2.length by rw [H8.out]; decide)
    refine start_ (n := 9) (S := fun w' => w'.cell? ⟨g2, 0, none⟩ = some (.string a0_0) ∧ w'.cell? ⟨gL, 0, none⟩ = some (.int .i64 x0) ∧ w'.cell? ⟨gL, 1, none⟩ = some (.int .i64 x1) ∧ w'.cell? ⟨gL, 2, none⟩ = some (.int .i64 x2) ∧ w'.cell? ⟨gL, 3, none⟩ = some (.string x3) ∧ w'.cell? ⟨gL, 4, none⟩ = some (.int .i64 x4)) (ds := [8]) #[false, false, false, false, false, false, false, false, false] (by kernel_rfl) rfl rfl ⟨c20, d0, d1, d2, d3, d4⟩ (fun hHeld => ?_)
    refine pure_ (i := 0) (N := some 26) (v := ?_) (a' := ?_) #[true, false, false, false, false, false, false, false, false] rfl rfl (by kernel_rfl) (fun _ _ _ h => h) (Or.inl ⟨by rfl, ?_⟩) ?_ ?_
    rotate_left
    ·intro w'
     go_simp
     with_reducible rfl
    rotate_left
    ·simp only [Act.put, List.setIfInBounds_toArray, List.set_cons_zero, List.set_cons_succ, i64_w, i32_w]
     rfl
    refine pure_ (i := 2) (N := some 28) (v := ?_) (a' := ?_) #[true, false, true, false, false, false, false, false, false] rfl rfl (by kernel_rfl) (fun _ _ _ h => h) (Or.inl ⟨by rfl, ?_⟩) ?_ ?_
    rotate_left
    ·intro w'
     go_simp
     with_reducible rfl
    rotate_left
    ·simp only [Act.put, List.setIfInBounds_toArray, List.set_cons_zero, List.set_cons_succ, i64_w, i32_w]
     rfl
    refine pure_ (i := 3) (N := some 29) (v := ?_) (a' := ?_) #[true, false, true, true, false, false, false, false, false] rfl rfl (by kernel_rfl) (fun _ _ _ h => h) (Or.inl ⟨by rfl, ?_⟩) ?_ ?_
    rotate_left
    ·intro w'
     go_simp
     with_reducible rfl
    rotate_left
    ·simp only [Act.put, List.setIfInBounds_toArray, List.set_cons_zero, List.set_cons_succ, i64_w, i32_w]
     rfl
    refine take_ (i := 1) (N := some 27) (v := ?_) (a' := ?_) #[true, true, true, true, false, false, false, false, false] rfl rfl (by kernel_rfl) (fun _ _ _ h => h) (Or.inl ⟨by rfl, ?_⟩) hHeld ?_ ?_
    rotate_left
    ·rintro w' ⟨s0, s1, s2, s3, s4, s5⟩
     go_simp
     with_reducible rfl
    rotate_left
    ·simp only [Act.put, List.setIfInBounds_toArray, List.set_cons_zero, List.set_cons_succ, i64_w, i32_w]
     rfl
    refine take_ (i := 4) (N := some 30) (v := ?_) (a' := ?_) #[true, true, true, true, true, false, false, false, false] rfl rfl (by kernel_rfl) (fun _ _ _ h => h) (Or.inl ⟨by rfl, ?_⟩) hHeld ?_ ?_
    rotate_left
    ·rintro w' ⟨s0, s1, s2, s3, s4, s5⟩
     go_simp
     with_reducible rfl
    rotate_left
    ·simp only [Act.put, List.setIfInBounds_toArray, List.set_cons_zero, List.set_cons_succ, i64_w, i32_w]
     rfl
    refine one_ (i := 5) (N := some 31) #[true, true, true, true, true, true, false, false, false] rfl rfl (by kernel_rfl) (by decide) (fun K hK => ?_)
    refine goes_ Try.func77 (by kernel_rfl) rfl #[.agg #[.int .i64 x0, .int .i64 x1, .int .i64 x2, .string x3, .int .i64 x4]] (by rfl) rfl rfl (by simp only [List.map_toArray, List.map_cons, List.map_nil]; rfl) ?_
    with_reducible refine (audit_bytes.calls k x0 x1 x2 x3 x4 b _ HBY.out).mono ?_
    rintro e w10 ⟨rfl, hb10⟩
    refine ⟨_, rfl, ?_⟩
    have c20a : w10.cell? ⟨g2, 0, none⟩ = some (.string a0_0) := pw_cell_below hb10 c20
    have d0a : w10.cell? ⟨gL, 0, none⟩ = some (.int .i64 x0) := pw_cell_below hb10 d0
    have d1a : w10.cell? ⟨gL, 1, none⟩ = some (.int .i64 x1) := pw_cell_below hb10 d1
    have d2a : w10.cell? ⟨gL, 2, none⟩ = some (.int .i64 x2) := pw_cell_below hb10 d2
    have d3a : w10.cell? ⟨gL, 3, none⟩ = some (.string x3) := pw_cell_below hb10 d3
    have d4a : w10.cell? ⟨gL, 4, none⟩ = some (.int .i64 x4) := pw_cell_below hb10 d4
    have HL10 := Aside0.mk hb10
    clear hb10
    refine hK.out _ _ ⟨c20a, d0a, d1a, d2a, d3a, d4a⟩ (fun hHeld => ?_)
    clear hK K
    refine norm_ (a' := ?_) ?_ ?_
    rotate_left
    ·show Act.put _ (some 31) _ = _
     simp only [Act.put, List.setIfInBounds_toArray, List.set_cons_zero, List.set_cons_succ, i64_w, i32_w]
     rfl
    refine one_ (i := 6) (N := some 32) #[true, true, true, true, true, true, true, false, false] rfl rfl (by kernel_rfl) (by decide) (fun K hK => ?_)
    refine goes_ Try.func47 (by kernel_rfl) rfl #[.string a0_0, .string b] (by rfl) rfl rfl (by simp only [List.map_toArray, List.map_cons, List.map_nil]; rfl) ?_
    with_reducible refine (mac_Seal.calls a0_0 b r1 _ HSL.out).mono ?_
    rintro e w11 ⟨rfl, hb11⟩
    refine ⟨_, rfl, ?_⟩
    have c20b : w11.cell? ⟨g2, 0, none⟩ = some (.string a0_0) := pw_cell_below hb11 c20a
    have d0b : w11.cell? ⟨gL, 0, none⟩ = some (.int .i64 x0) := pw_cell_below hb11 d0a
    have d1b : w11.cell? ⟨gL, 1, none⟩ = some (.int .i64 x1) := pw_cell_below hb11 d1a
    have d2b : w11.cell? ⟨gL, 2, none⟩ = some (.int .i64 x2) := pw_cell_below hb11 d2a
    have d3b : w11.cell? ⟨gL, 3, none⟩ = some (.string x3) := pw_cell_below hb11 d3a
    have d4b : w11.cell? ⟨gL, 4, none⟩ = some (.int .i64 x4) := pw_cell_below hb11 d4a
    have HL11 : Aside0 (Below w9.drew.heap.size w9.drew w11) := ⟨below_step HL10.out hb11⟩
    have HT11 := Aside0.mk (blk_below (blk_drew HT2.out) HL11.out)
    have f20 : w11.frozen? ⟨g2, 0, none⟩ = false := blk_frozen HT11.out 0
    clear hb11
    refine hK.out _ _ ⟨c20b, d0b, d1b, d2b, d3b, d4b⟩ (fun hHeld => ?_)
    clear hK K
    refine norm_ (a' := ?_) ?_ ?_
    rotate_left
    ·show Act.put _ (some 32) _ = _
     simp only [Act.put, List.setIfInBounds_toArray, List.set_cons_zero, List.set_cons_succ, i64_w, i32_w]
     rfl
    refine pure_ (i := 7) (N := some 33) (v := ?_) (a' := ?_) #[true, true, true, true, true, true, true, true, false] rfl rfl (by kernel_rfl) (fun _ _ _ h => h) (Or.inl ⟨by rfl, ?_⟩) ?_ ?_
    rotate_left
    ·intro w'
     go_simp
     with_reducible rfl
    rotate_left
    ·simp only [Act.put, List.setIfInBounds_toArray, List.set_cons_zero, List.set_cons_succ, i64_w, i32_w]
     rfl
    refine last_ (i := 8) (N := none) #[true, true, true, true, true, true, true, true, true] rfl rfl (by kernel_rfl) (by decide) (fun K hK => ?_)
    refine skip_ (w1 := ?_) (by rfl) rfl ?_ ?_
    rotate_left
    ·go_simp
     rfl
    refine hK.out _ _ ?_
    clear hK K
    refine done_ (by kernel_rfl) ?_
    have HP2 := Aside0.mk (blk_set HT11.out 0 (.string r1))
    have HP3 := Aside0.mk (blk_far (blk_below (blk_drew HT3.out) HL11.out) (p := ⟨g2, 0, none⟩) (Ne.symm N23.out) (.string r1))
    have HP4 := Aside0.mk (blk_far (blk_below (blk_drew HT4.out) HL11.out) (p := ⟨g2, 0, none⟩) (Ne.symm N24.out) (.string r1))
    have HLW : Aside0 (Below w.heap.size w (w11.setCell ⟨g2, 0, none⟩ (.string r1))) := ⟨below_set (below_step (below_drew (below_step HL7.out HL9.out)) HL11.out) W2.out⟩
    have hVC := (Kd.R_reads' HV9.out).2.2
    have HVC : Aside0 (Kd.C k64 (w11.setCell ⟨g2, 0, none⟩ (.string r1)) (some ⟨gL, 0, none⟩) l0_2.length l0_2) := ⟨C_frame64 (Kd.C_below (Kd.C_drew hVC) HL11.out) ((Fr.refl _ (fun k => k = g2)).setCell (.inl rfl) _) (fun ad e _ h => by cases e; have := HGL.out; have := HG2L.out; exact absurd h (by show ¬ gL = g2; omega))⟩
    have hcap := (Kd.R_reads' HV9.out).2.1
    have HCAP := Aside0.mk hcap
    clear c20 d0 d1 d2 d3 d4 hVC hcap HT2 HT3 HT4 HL11 HT11 f20 hHeld c20b d0b d1b d2b d3b d4b
    generalize w11.setCell ⟨g2, 0, none⟩ (.string r1) = w12 at HP2 HP3 HP4 HLW HVC ⊢
    obtain ⟨i64, hi64, hs64⟩ : ∃ i, Try.prog.info? 64 = some i ∧ i.size = 5 := by
     obtain ⟨i, h1, h2⟩ := Option.map_eq_some_iff.1 info64
     exact ⟨i, h1, by simp only [Prod.mk.injEq] at h2; exact h2.2.1⟩
    have hcut : ∀ W : World, (Instr.slice 52 (.slice (some ⟨gL, 0, none⟩) l0_2.length c9) (some (.int .i64 1)) (some (.int .i64 (l0_2.length : Int))) (some (.int .i64 (l0_2.length : Int)))).run Try.prog W = .ok (.slice (some ⟨gL, 5, none⟩) 7 7) W := by
     intro W
     have hel : Try.prog.elem 52 = 64 := by simp [Program.elem, hu52]
     have hu : Try.prog.underlying 52 = some (.slice (Try.prog.elem 52)) := by rw [hel]; exact hu52
     rw [run_slice_lhm W 52 _ _ _ hu .i64 .i64 .i64 1 _ _ (by decide) (by rw [H8.out]; decide) (Int.le_refl _) (by have := HCAP.out; omega), hel]
     rw [H8.out]
     simp [sizeOf, typeInfo, hi64, hs64, sliced, Result.andThen, add_plain]
    have c20 : w12.cell? ⟨g2, 0, none⟩ = some (.string r1) := (blk_cell HP2.out 0).trans rfl
    have e30 : w12.cell? ⟨g3, 0, none⟩ = some (.int .i64 r2) := (blk_cell HP3.out 0).trans rfl
    have e31 : w12.cell? ⟨g3, 1, none⟩ = some (.int .i64 a1_1) := (blk_cell HP3.out 1).trans rfl
    have e32 : w12.cell? ⟨g3, 2, none⟩ = some (.int .i64 a1_2) := (blk_cell HP3.out 2).trans rfl
    have e33 : w12.cell? ⟨g3, 3, none⟩ = some (.string a1_3) := (blk_cell HP3.out 3).trans rfl
    have e34 : w12.cell? ⟨g3, 4, none⟩ = some (.int .i64 a1_4) := (blk_cell HP3.out 4).trans rfl
    have HV7 : Aside0 (Kd.C k64 w12 (some ⟨gL, 5, none⟩) 7 (l0_2.drop 1)) := ⟨by
     have := Kd.C_drop (m := 1) HVC.out (by rw [H8.out]; decide) HCAP.out
     rw [if_neg (by have := HCAP.out; have := H8.out; omega)] at this
     have e : (l0_2.drop 1).length = 7 := by rw [List.length_drop, H8.out]
     rw [e] at this
     simpa [add_plain, show k64.sz = 5 from rfl] using this⟩
    clear p1 p2
    go_upto_region 10 with (fail)
    refine start_ (n := 11) (S := fun w' => w'.cell? ⟨g2, 0, none⟩ = some (.string r1) ∧ w'.cell? ⟨g3, 0, none⟩ = some (.int .i64 r2) ∧ w'.cell? ⟨g3, 1, none⟩ = some (.int .i64 a1_1) ∧ w'.cell? ⟨g3, 2, none⟩ = some (.int .i64 a1_2) ∧ w'.cell? ⟨g3, 3, none⟩ = some (.string a1_3) ∧ w'.cell? ⟨g3, 4, none⟩ = some (.int .i64 a1_4)) (ds := [9]) #[false, false, false, false, false, false, false, false, false, false, false] (by kernel_rfl) rfl rfl ⟨c20, e30, e31, e32, e33, e34⟩ (fun hHeld => ?_)
    refine pure_ (i := 0) (N := some 40) (v := ?_) (a' := ?_) #[true, false, false, false, false, false, false, false, false, false, false] rfl rfl (by kernel_rfl) (fun _ _ _ h => h) (Or.inl ⟨by rfl, ?_⟩) ?_ ?_
    rotate_left
    ·intro w'
     go_simp
     with_reducible rfl
    rotate_left
    ·simp only [Act.put, List.setIfInBounds_toArray, List.set_cons_zero, List.set_cons_succ, i64_w, i32_w]
     rfl
    refine pure_ (i := 2) (N := some 42) (v := ?_) (a' := ?_) #[true, false, true, false, false, false, false, false, false, false, false] rfl rfl (by kernel_rfl) (fun _ _ _ h => h) (Or.inl ⟨by rfl, ?_⟩) ?_ ?_
    rotate_left
    ·intro w'
     go_simp
     with_reducible rfl
    rotate_left
    ·simp only [Act.put, List.setIfInBounds_toArray, List.set_cons_zero, List.set_cons_succ, i64_w, i32_w]
     rfl
    refine pure_ (i := 4) (N := some 44) (v := ?_) (a' := ?_) #[true, false, true, false, true, false, false, false, false, false, false] rfl rfl (by kernel_rfl) (fun _ _ _ h => h) (Or.inl ⟨by rfl, ?_⟩) ?_ ?_
    rotate_left
    ·intro w'
     go_simp
     with_reducible rfl
    rotate_left
    ·simp only [Act.put, List.setIfInBounds_toArray, List.set_cons_zero, List.set_cons_succ, i64_w, i32_w]
     rfl
    refine take_ (i := 1) (N := some 41) (v := ?_) (a' := ?_) #[true, true, true, false, true, false, false, false, false, false, false] rfl rfl (by kernel_rfl) (fun _ _ _ h => h) (Or.inl ⟨by rfl, ?_⟩) hHeld ?_ ?_
    rotate_left
    ·rintro w' ⟨s0, s1, s2, s3, s4, s5⟩
     go_simp
     with_reducible rfl
    rotate_left
    ·simp only [Act.put, List.setIfInBounds_toArray, List.set_cons_zero, List.set_cons_succ, i64_w, i32_w]
     rfl
    refine take_ (i := 3) (N := some 43) (v := ?_) (a' := ?_) #[true, true, true, true, true, false, false, false, false, false, false] rfl rfl (by kernel_rfl) (fun _ _ _ h => h) (Or.inl ⟨by rfl, ?_⟩) hHeld ?_ ?_
    rotate_left
    ·rintro w' ⟨s0, s1, s2, s3, s4, s5⟩
     go_simp
     with_reducible rfl
    rotate_left
    ·simp only [Act.put, List.setIfInBounds_toArray, List.set_cons_zero, List.set_cons_succ, i64_w, i32_w]
     rfl
    refine take_ (i := 5) (N := some 45) (v := ?_) (a' := ?_) #[true, true, true, true, true, true, false, false, false, false, false] rfl rfl (by kernel_rfl) (fun _ _ _ h => h) (Or.inl ⟨by rfl, ?_⟩) hHeld ?_ ?_
    rotate_left
    ·rintro w' ⟨s0, s1, s2, s3, s4, s5⟩
     go_simp
     with_reducible rfl
    rotate_left
    ·simp only [Act.put, List.setIfInBounds_toArray, List.set_cons_zero, List.set_cons_succ, i64_w, i32_w]
     rfl
    refine one_ (i := 6) (N := some 46) #[true, true, true, true, true, true, true, false, false, false, false] rfl rfl (by kernel_rfl) (by decide) (fun K hK => ?_)
    refine Kd.R_lit_step k64 (w0 := w12.drew) w12.drew.heap.size 64 (by rfl) (N := 46) rfl (xs := [(⟨r2, a1_1, a1_2, a1_3, a1_4⟩ : S64)]) (inner := [.int .i64 r2, .int .i64 a1_1, .int .i64 a1_2, .string a1_3, .int .i64 a1_4]) (ok := fun _ => True) (okp := fun _ => True) ?hr ?hp (fun _ hk => hk) trivial (Below.refl _ _) (Nat.le_refl _) (by simp) ?_
    case hr => first | (go_simp; done) | (go_simp; rfl)
    case hp => exact Reps.snoc (Reps.none _ _) (k64_mkM _ _ _ (⟨r2, a1_1, a1_2, a1_3, a1_4⟩ : S64)) rfl
    intro v13 w13 hr13 hb13 hg13 hx13
    clear hg13 hx13
    have c20x : w13.cell? ⟨g2, 0, none⟩ = some (.string r1) := pw_cell_below hb13 c20
    have e30x : w13.cell? ⟨g3, 0, none⟩ = some (.int .i64 r2) := pw_cell_below hb13 e30
    have e31x : w13.cell? ⟨g3, 1, none⟩ = some (.int .i64 a1_1) := pw_cell_below hb13 e31
    have e32x : w13.cell? ⟨g3, 2, none⟩ = some (.int .i64 a1_2) := pw_cell_below hb13 e32
    have e33x : w13.cell? ⟨g3, 3, none⟩ = some (.string a1_3) := pw_cell_below hb13 e33
    have e34x : w13.cell? ⟨g3, 4, none⟩ = some (.int .i64 a1_4) := pw_cell_below hb13 e34
    obtain ⟨gE, cE, rfl, hgE, _⟩ := Kd.R_form hr13 (by simp)
    have HE13 : Aside0 (Kd.C k64 w13 (some ⟨gE, 0, none⟩) 1 [(⟨r2, a1_1, a1_2, a1_3, a1_4⟩ : S64)]) := ⟨(Kd.R_reads' hr13).2.2⟩
    have HL13 := Aside0.mk hb13
    have HGE := Aside0.mk hgE
    clear hr13 hb13 hgE
    refine hK.out _ _ ⟨c20x, e30x, e31x, e32x, e33x, e34x⟩ (fun hHeld => ?_)
    clear hK K
    refine norm_ (a' := ?_) ?_ ?_
    rotate_left
    ·show Act.put _ (some 46) _ = _
     simp only [Act.put, List.setIfInBounds_toArray, List.set_cons_zero, List.set_cons_succ, i64_w, i32_w]
     rfl
    refine one_ (i := 7) (N := some 47) #[true, true, true, true, true, true, true, true, false, false, false] rfl rfl (by kernel_rfl) (by decide) (fun K hK => ?_)
    refine R_append_full_step k64 (by rfl) (.tmp 44) (.tmp 46) 52 64 _ 48 (by rfl) Try.underlying52 info64 (by rfl) (by decide) (by decide) ⟨gL, 5, none⟩ ⟨gE, 0, none⟩ 7 1 cE (l0_2.drop 1) [(⟨r2, a1_1, a1_2, a1_3, a1_4⟩ : S64)] (by rfl) (by rfl) (Kd.C_below (Kd.C_drew HV7.out) HL13.out) HE13.out (by decide) (fun _ _ _ _ _ h => h) (by decide) ?_
    intro v14 w14 hr14 hb14
    have c20y : w14.cell? ⟨g2, 0, none⟩ = some (.string r1) := pw_cell_below hb14 c20x
    have e30y : w14.cell? ⟨g3, 0, none⟩ = some (.int .i64 r2) := pw_cell_below hb14 e30x
    have e31y : w14.cell? ⟨g3, 1, none⟩ = some (.int .i64 a1_1) := pw_cell_below hb14 e31x
    have e32y : w14.cell? ⟨g3, 2, none⟩ = some (.int .i64 a1_2) := pw_cell_below hb14 e32x
    have e33y : w14.cell? ⟨g3, 3, none⟩ = some (.string a1_3) := pw_cell_below hb14 e33x
    have e34y : w14.cell? ⟨g3, 4, none⟩ = some (.int .i64 a1_4) := pw_cell_below hb14 e34x
    have HL14 : Aside0 (Below w12.drew.heap.size w12.drew w14) := ⟨below_step HL13.out hb14⟩
    have HT14 := Aside0.mk (blk_below (blk_drew HP4.out) HL14.out)
    have c40 : w14.cell? ⟨g4, 0, none⟩ = some (.string ⟨#[]⟩) := (blk_cell HT14.out 0).trans rfl
    have c41 : w14.cell? ⟨g4, 1, none⟩ = some (.int .i64 0) := (blk_cell HT14.out 1).trans rfl
    have c42 : w14.cell? ⟨g4, 2, none⟩ = some (.slice none 0 0) := (blk_cell HT14.out 2).trans rfl
    have f40 : w14.frozen? ⟨g4, 0, none⟩ = false := blk_frozen HT14.out 0
    have f41 : w14.frozen? ⟨g4, 1, none⟩ = false := blk_frozen HT14.out 1
    have f42 : w14.frozen? ⟨g4, 2, none⟩ = false := blk_frozen HT14.out 2
    obtain ⟨A14, n14, c14, rfl⟩ := R_shape hr14
    have HV14 := Aside0.mk hr14
    clear hr14 hb14
    refine hK.out _ _ ⟨c20y, e30y, e31y, e32y, e33y, e34y⟩ (fun hHeld => ?_)
    clear hK K
    refine norm_ (a' := ?_) ?_ ?_
    rotate_left
    ·show Act.put _ (some 47) _ = _
     simp only [Act.put, List.setIfInBounds_toArray, List.set_cons_zero, List.set_cons_succ, i64_w, i32_w]
     rfl
    refine pure_ (i := 8) (N := some 48) (v := ?_) (a' := ?_) #[true, true, true, true, true, true, true, true, true, false, false] rfl rfl (by kernel_rfl) (fun _ _ _ h => h) (Or.inl ⟨by rfl, ?_⟩) ?_ ?_
    rotate_left
    ·intro w'
     go_simp
     with_reducible rfl
    rotate_left
    ·simp only [Act.put, List.setIfInBounds_toArray, List.set_cons_zero, List.set_cons_succ, i64_w, i32_w]
     rfl
    refine last_ (i := 9) (N := none) #[true, true, true, true, true, true, true, true, true, true, false] rfl rfl (by kernel_rfl) (by decide) (fun K hK => ?_)
    refine skip_ (w1 := ?_) (by rfl) rfl ?_ ?_
    rotate_left
    ·go_simp
     rfl
    refine hK.out _ _ ?_
    clear hK K
    refine pure_ (i := 10) (N := some 5) (v := ?_) (a' := ?_) #[true, true, true, true, true, true, true, true, true, true, true] rfl rfl (by kernel_rfl) (fun _ _ _ h => h) (Or.inl ⟨by rfl, ?_⟩) ?_ ?_
    rotate_left
    ·intro w'
     go_simp
     with_reducible rfl
    rotate_left
    ·simp only [Act.put, List.setIfInBounds_toArray, List.set_cons_zero, List.set_cons_succ, i64_w, i32_w]
     rfl
    refine done_ (by kernel_rfl) ?_
    have hs12 : w12.drew.heap.size ≤ w13.heap.size := below_size HL13.out
    have hs13 : w.heap.size ≤ w13.heap.size := Nat.le_trans (below_size HLW.out) hs12
    have q1 := blk_set HT14.out 0 (.string r1)
    have q2 := blk_set q1 1 (.int .i64 r2)
    have q3 := blk_set q2 2 (.slice A14 n14 c14)
    have hv1 := Kd.R_set HV14.out HT14.out (by decide) 0 (.string r1)
    have hv2 := Kd.R_set hv1 q1 (by decide) 1 (.int .i64 r2)
    have hv3 := Kd.R_set hv2 q2 (by decide) 2 (.slice A14 n14 c14)
    have hl14 := below_step (below_drew HLW.out) HL14.out
    have hl := below_set (j := 2) (v := .slice A14 n14 c14) (below_set (j := 1) (v := .int .i64 r2) (below_set (j := 0) (v := .string r1) hl14 W4.out) W4.out) W4.out
    have Q3 := Aside0.mk q3
    have HV := Aside0.mk (Kd.R_lower hv3 hs13)
    have HLL := Aside0.mk hl
    clear q1 q2 q3 hv1 hv2 hv3 hl14 hl hHeld
    go_wp2
    refine bodyPost_ret_by (results_ct rfl _ _ g4 56 #[.string r1, .int .i64 r2, .slice A14 n14 c14] (0, 0) _ rfl Q3.out hu56 rfl HI56.out) rfl ?_
    exact ⟨_, rfl, HV.out, HLL.out⟩
   ·rw [if_neg h8] at h0
    have d8 : ((l0_2.length : Int) == 8) = false := beq_eq_false_iff_ne.mpr (by omega)
    by_cases h9 : l0_2.length < 1000000000
    ·rw [if_pos h9] at h0
     cases h0
     have HAL : Aside0 ((([] : List S64).length + l0_2.length) * 48 ≤ 140737488355328) := ⟨by simp; omega⟩
     have HAM : Aside0 ((l0_2.length + 1) * 48 ≤ 140737488355328) := ⟨by omega⟩
     clear h8 h9
     go_upto_region 10 with (first | ((with_reducible refine gate_dst (N := 19) rfl ?_); refine Kd.R_lit k64 _ 64 ?hg (N := 19) ?hd (xs := ([] : List S64)) (inner := []) (ok := fun _ => True) (okp := fun _ => True) ?hr ?hp (fun _ hk => hk) trivial (Below.refl _ _) (Nat.le_refl _) (by simp) ?_; (case hd => rfl); (case hg => rfl); (case hr => first | (go_simp; done) | (go_simp; rfl)); (case hp => exact (Reps.none _ _)); intro v8 w8 hr8 hb8 hg8 hx8; clear hg8 hx8; have HV8 := Aside0.mk hr8; have HL8 := Aside0.mk hb8; have HC8 := Aside0.mk (Kd.C_below HR7.out hb8); have c22b : w8.cell? ⟨g2, 2, none⟩ = some (.slice A0_2 l0_2.length c0_2) := pw_cell_below hb8 c22; clear hr8 hb8) | ((with_reducible refine gate_builtin (b := .append) (xs := #[.tmp 19, .tmp 21]) rfl ?_); at_builtin; refine Kd.R_append_rows k64 (w0 := w7) w7.heap.size rfl (.tmp 19) (.tmp 21) 52 64 _ 48 rfl Try.underlying52 info64 rfl (by decide) (by omega) v8 [] l0_2 _ _ _ (fun _ => True) (fun _ => False) rfl rfl HV8.out HC8.out (fun _ _ h => h) (fun _ h => h.elim) (fun _ _ => trivial) HL8.out (below_size HL8.out) HAL.out ?_; intro v9 w9 hr9 hb9 hg9 hat9; clear hg9 hat9; rw [List.nil_append] at hr9; obtain ⟨A9, n9, c9, rfl⟩ := R_shape hr9; obtain rfl : l0_2.length = n9 := (Kd.R_reads' hr9).1.symm; have HV9 := Aside0.mk hr9; have HL9 := Aside0.mk hb9; clear hr9 hb9 HV8 HL8 HC8 c22b))
     have c20 : w9.cell? ⟨g2, 0, none⟩ = some (.string a0_0) := (blk_cell (blk_below HT2.out HL9.out) 0).trans rfl
     have e30 : w9.cell? ⟨g3, 0, none⟩ = some (.int .i64 r2) := (blk_cell (blk_below HT3.out HL9.out) 0).trans rfl
     have e31 : w9.cell? ⟨g3, 1, none⟩ = some (.int .i64 a1_1) := (blk_cell (blk_below HT3.out HL9.out) 1).trans rfl
     have e32 : w9.cell? ⟨g3, 2, none⟩ = some (.int .i64 a1_2) := (blk_cell (blk_below HT3.out HL9.out) 2).trans rfl
     have e33 : w9.cell? ⟨g3, 3, none⟩ = some (.string a1_3) := (blk_cell (blk_below HT3.out HL9.out) 3).trans rfl
     have e34 : w9.cell? ⟨g3, 4, none⟩ = some (.int .i64 a1_4) := (blk_cell (blk_below HT3.out HL9.out) 4).trans rfl
     clear HR7 c22
     refine start_ (n := 11) (S := fun w' => w'.cell? ⟨g2, 0, none⟩ = some (.string a0_0) ∧ w'.cell? ⟨g3, 0, none⟩ = some (.int .i64 r2) ∧ w'.cell? ⟨g3, 1, none⟩ = some (.int .i64 a1_1) ∧ w'.cell? ⟨g3, 2, none⟩ = some (.int .i64 a1_2) ∧ w'.cell? ⟨g3, 3, none⟩ = some (.string a1_3) ∧ w'.cell? ⟨g3, 4, none⟩ = some (.int .i64 a1_4)) (ds := [9]) #[false, false, false, false, false, false, false, false, false, false, false] (by kernel_rfl) rfl rfl ⟨c20, e30, e31, e32, e33, e34⟩ (fun hHeld => ?_)
     refine pure_ (i := 0) (N := some 40) (v := ?_) (a' := ?_) #[true, false, false, false, false, false, false, false, false, false, false] rfl rfl (by kernel_rfl) (fun _ _ _ h => h) (Or.inl ⟨by rfl, ?_⟩) ?_ ?_
     rotate_left
     ·intro w'
      go_simp
      with_reducible rfl
     rotate_left
     ·simp only [Act.put, List.setIfInBounds_toArray, List.set_cons_zero, List.set_cons_succ, i64_w, i32_w]
      rfl
     refine pure_ (i := 2) (N := some 42) (v := ?_) (a' := ?_) #[true, false, true, false, false, false, false, false, false, false, false] rfl rfl (by kernel_rfl) (fun _ _ _ h => h) (Or.inl ⟨by rfl, ?_⟩) ?_ ?_
     rotate_left
     ·intro w'
      go_simp
      with_reducible rfl
     rotate_left
     ·simp only [Act.put, List.setIfInBounds_toArray, List.set_cons_zero, List.set_cons_succ, i64_w, i32_w]
      rfl
     refine pure_ (i := 4) (N := some 44) (v := ?_) (a' := ?_) #[true, false, true, false, true, false, false, false, false, false, false] rfl rfl (by kernel_rfl) (fun _ _ _ h => h) (Or.inl ⟨by rfl, ?_⟩) ?_ ?_
     rotate_left
     ·intro w'
      go_simp
      with_reducible rfl
     rotate_left
     ·simp only [Act.put, List.setIfInBounds_toArray, List.set_cons_zero, List.set_cons_succ, i64_w, i32_w]
      rfl
     refine take_ (i := 1) (N := some 41) (v := ?_) (a' := ?_) #[true, true, true, false, true, false, false, false, false, false, false] rfl rfl (by kernel_rfl) (fun _ _ _ h => h) (Or.inl ⟨by rfl, ?_⟩) hHeld ?_ ?_
     rotate_left
     ·rintro w' ⟨s0, s1, s2, s3, s4, s5⟩
      go_simp
      with_reducible rfl
     rotate_left
     ·simp only [Act.put, List.setIfInBounds_toArray, List.set_cons_zero, List.set_cons_succ, i64_w, i32_w]
      rfl
     refine take_ (i := 3) (N := some 43) (v := ?_) (a' := ?_) #[true, true, true, true, true, false, false, false, false, false, false] rfl rfl (by kernel_rfl) (fun _ _ _ h => h) (Or.inl ⟨by rfl, ?_⟩) hHeld ?_ ?_
     rotate_left
     ·rintro w' ⟨s0, s1, s2, s3, s4, s5⟩
      go_simp
      with_reducible rfl
     rotate_left
     ·simp only [Act.put, List.setIfInBounds_toArray, List.set_cons_zero, List.set_cons_succ, i64_w, i32_w]
      rfl
     refine take_ (i := 5) (N := some 45) (v := ?_) (a' := ?_) #[true, true, true, true, true, true, false, false, false, false, false] rfl rfl (by kernel_rfl) (fun _ _ _ h => h) (Or.inl ⟨by rfl, ?_⟩) hHeld ?_ ?_
     rotate_left
     ·rintro w' ⟨s0, s1, s2, s3, s4, s5⟩
      go_simp
      with_reducible rfl
     rotate_left
     ·simp only [Act.put, List.setIfInBounds_toArray, List.set_cons_zero, List.set_cons_succ, i64_w, i32_w]
      rfl
     refine one_ (i := 6) (N := some 46) #[true, true, true, true, true, true, true, false, false, false, false] rfl rfl (by kernel_rfl) (by decide) (fun K hK => ?_)
     refine Kd.R_lit_step k64 (w0 := w9.drew) w9.drew.heap.size 64 (by rfl) (N := 46) rfl (xs := [(⟨r2, a1_1, a1_2, a1_3, a1_4⟩ : S64)]) (inner := [.int .i64 r2, .int .i64 a1_1, .int .i64 a1_2, .string a1_3, .int .i64 a1_4]) (ok := fun _ => True) (okp := fun _ => True) ?hr ?hp (fun _ hk => hk) trivial (Below.refl _ _) (Nat.le_refl _) (by simp) ?_
     case hr => first | (go_simp; done) | (go_simp; rfl)
     case hp => exact Reps.snoc (Reps.none _ _) (k64_mkM _ _ _ (⟨r2, a1_1, a1_2, a1_3, a1_4⟩ : S64)) rfl
     intro v13 w13 hr13 hb13 hg13 hx13
     clear hg13 hx13
     have c20x : w13.cell? ⟨g2, 0, none⟩ = some (.string a0_0) := pw_cell_below hb13 c20
     have e30x : w13.cell? ⟨g3, 0, none⟩ = some (.int .i64 r2) := pw_cell_below hb13 e30
     have e31x : w13.cell? ⟨g3, 1, none⟩ = some (.int .i64 a1_1) := pw_cell_below hb13 e31
     have e32x : w13.cell? ⟨g3, 2, none⟩ = some (.int .i64 a1_2) := pw_cell_below hb13 e32
     have e33x : w13.cell? ⟨g3, 3, none⟩ = some (.string a1_3) := pw_cell_below hb13 e33
     have e34x : w13.cell? ⟨g3, 4, none⟩ = some (.int .i64 a1_4) := pw_cell_below hb13 e34
     obtain ⟨gE, cE, rfl, hgE, _⟩ := Kd.R_form hr13 (by simp)
     have HE13 : Aside0 (Kd.C k64 w13 (some ⟨gE, 0, none⟩) 1 [(⟨r2, a1_1, a1_2, a1_3, a1_4⟩ : S64)]) := ⟨(Kd.R_reads' hr13).2.2⟩
     have HL13 := Aside0.mk hb13
     have HGE := Aside0.mk hgE
     clear hr13 hb13 hgE
     refine hK.out _ _ ⟨c20x, e30x, e31x, e32x, e33x, e34x⟩ (fun hHeld => ?_)
     clear hK K
     refine norm_ (a' := ?_) ?_ ?_
     rotate_left
     ·show Act.put _ (some 46) _ = _
      simp only [Act.put, List.setIfInBounds_toArray, List.set_cons_zero, List.set_cons_succ, i64_w, i32_w]
      rfl
     refine one_ (i := 7) (N := some 47) #[true, true, true, true, true, true, true, true, false, false, false] rfl rfl (by kernel_rfl) (by decide) (fun K hK => ?_)
     refine Kd.R_append_rows_step k64 (w0 := w7) w7.heap.size (by rfl) (.tmp 44) (.tmp 46) 52 64 _ 48 (by rfl) Try.underlying52 info64 (by rfl) (by decide) (by decide) (.slice A9 l0_2.length c9) l0_2 [(⟨r2, a1_1, a1_2, a1_3, a1_4⟩ : S64)] _ _ _ (fun _ => True) (fun _ => False) rfl rfl (Kd.R_below (Kd.R_drew HV9.out) HL13.out) HE13.out (fun _ _ h => h) (fun _ h => h.elim) (fun _ _ => trivial) (below_step (below_drew HL9.out) HL13.out) (below_size (below_step (below_drew HL9.out) HL13.out)) HAM.out ?_
     intro v14 w14 hr14 hb14 hg14 hat14
     clear hg14 hat14
     have c20y : w14.cell? ⟨g2, 0, none⟩ = some (.string a0_0) := (blk_cell (blk_below HT2.out hb14) 0).trans rfl
     have e30y : w14.cell? ⟨g3, 0, none⟩ = some (.int .i64 r2) := (blk_cell (blk_below HT3.out hb14) 0).trans rfl
     have e31y : w14.cell? ⟨g3, 1, none⟩ = some (.int .i64 a1_1) := (blk_cell (blk_below HT3.out hb14) 1).trans rfl
     have e32y : w14.cell? ⟨g3, 2, none⟩ = some (.int .i64 a1_2) := (blk_cell (blk_below HT3.out hb14) 2).trans rfl
     have e33y : w14.cell? ⟨g3, 3, none⟩ = some (.string a1_3) := (blk_cell (blk_below HT3.out hb14) 3).trans rfl
     have e34y : w14.cell? ⟨g3, 4, none⟩ = some (.int .i64 a1_4) := (blk_cell (blk_below HT3.out hb14) 4).trans rfl
     have HL14 := Aside0.mk hb14
     have HT14 := Aside0.mk (blk_below HT4.out hb14)
     have c40 : w14.cell? ⟨g4, 0, none⟩ = some (.string ⟨#[]⟩) := (blk_cell HT14.out 0).trans rfl
     have c41 : w14.cell? ⟨g4, 1, none⟩ = some (.int .i64 0) := (blk_cell HT14.out 1).trans rfl
     have c42 : w14.cell? ⟨g4, 2, none⟩ = some (.slice none 0 0) := (blk_cell HT14.out 2).trans rfl
     have f40 : w14.frozen? ⟨g4, 0, none⟩ = false := blk_frozen HT14.out 0
     have f41 : w14.frozen? ⟨g4, 1, none⟩ = false := blk_frozen HT14.out 1
     have f42 : w14.frozen? ⟨g4, 2, none⟩ = false := blk_frozen HT14.out 2
     obtain ⟨A14, n14, c14, rfl⟩ := R_shape hr14
     have HV14 := Aside0.mk hr14
     clear hr14 hb14
     refine hK.out _ _ ⟨c20y, e30y, e31y, e32y, e33y, e34y⟩ (fun hHeld => ?_)
     clear hK K
     refine norm_ (a' := ?_) ?_ ?_
     rotate_left
     ·show Act.put _ (some 47) _ = _
      simp only [Act.put, List.setIfInBounds_toArray, List.set_cons_zero, List.set_cons_succ, i64_w, i32_w]
      rfl
     refine pure_ (i := 8) (N := some 48) (v := ?_) (a' := ?_) #[true, true, true, true, true, true, true, true, true, false, false] rfl rfl (by kernel_rfl) (fun _ _ _ h => h) (Or.inl ⟨by rfl, ?_⟩) ?_ ?_
     rotate_left
     ·intro w'
      go_simp
      with_reducible rfl
     rotate_left
     ·simp only [Act.put, List.setIfInBounds_toArray, List.set_cons_zero, List.set_cons_succ, i64_w, i32_w]
      rfl
     refine last_ (i := 9) (N := none) #[true, true, true, true, true, true, true, true, true, true, false] rfl rfl (by kernel_rfl) (by decide) (fun K hK => ?_)
     refine skip_ (w1 := ?_) (by rfl) rfl ?_ ?_
     rotate_left
     ·go_simp
      rfl
     refine hK.out _ _ ?_
     clear hK K
     refine pure_ (i := 10) (N := some 5) (v := ?_) (a' := ?_) #[true, true, true, true, true, true, true, true, true, true, true] rfl rfl (by kernel_rfl) (fun _ _ _ h => h) (Or.inl ⟨by rfl, ?_⟩) ?_ ?_
     rotate_left
     ·intro w'
      go_simp
      with_reducible rfl
     rotate_left
     ·simp only [Act.put, List.setIfInBounds_toArray, List.set_cons_zero, List.set_cons_succ, i64_w, i32_w]
      rfl
     refine done_ (by kernel_rfl) ?_
     have q1 := blk_set HT14.out 0 (.string a0_0)
     have q2 := blk_set q1 1 (.int .i64 r2)
     have q3 := blk_set q2 2 (.slice A14 n14 c14)
     have hv1 := Kd.R_set HV14.out HT14.out (by decide) 0 (.string a0_0)
     have hv2 := Kd.R_set hv1 q1 (by decide) 1 (.int .i64 r2)
     have hv3 := Kd.R_set hv2 q2 (by decide) 2 (.slice A14 n14 c14)
     have hl14 := below_step HL7.out HL14.out
     have hl := below_set (j := 2) (v := .slice A14 n14 c14) (below_set (j := 1) (v := .int .i64 r2) (below_set (j := 0) (v := .string a0_0) hl14 W4.out) W4.out) W4.out
     have Q3 := Aside0.mk q3
     have HV := Aside0.mk (Kd.R_lower hv3 (below_size HL7.out))
     have HLL := Aside0.mk hl
     clear q1 q2 q3 hv1 hv2 hv3 hl14 hl hHeld
     go_wp2
     refine bodyPost_ret_by (results_ct rfl _ _ g4 56 #[.string a0_0, .int .i64 r2, .slice A14 n14 c14] (0, 0) _ rfl Q3.out hu56 rfl HI56.out) rfl ?_
     exact ⟨_, rfl, HV.out, HLL.out⟩
    ·rw [if_neg h9] at h0
     cases h0

end Go.Proofs.Ytcdnmlfnfhoieaa.A

namespace Go.Proofs.Ytcdnmlfnfhoieaa.A
open Go.RowKit Go.Proofs.YtcdnmlfnfhoieaaW.PrintWords Go.Proofs.YtcdnmlfnfhoieaaW.PrintLast Go.Proofs.YtcdnmlfnfhoieaaW.PrintMore
attribute [local go_sem] max2_int min2_int max_two min_two max_three min_three max_four min_four
set_option linter.unusedVariables false
set_option linter.unusedSimpArgs false

/-! ### audit_New: function 35 -/
def audit_New.f  : Option (ByteArray × Int × (List (S64))) := if 32 ≤ 281474976710656 then (some (strOfNums (List.replicate 32 0), 0, ([] : List (S64)))) else (none)
set_option maxHeartbeats 8000000 in
set_option maxRecDepth 100000 in
theorem audit_New.calls  (r1 : ByteArray) (r2 : Int) (r3 : List (S64)) (w : World) (h : audit_New.f  = some (r1, r2, r3)) :
  Calls Try.prog 35 #[] w fun e w' => ∃ v2_ : Value, e = .returned (.agg #[.string r1, .int .i64 r2, v2_]) ∧ Kd.R k64 64 w' w.heap.size (fun _ => True) v2_ r3 ∧ Below w.heap.size w w' := by
 have hu56 := Try.underlying56
 have HB := Aside0.mk (Below.refl w.heap.size w)
 have H : (if 32 ≤ 281474976710656 then (some (strOfNums (List.replicate 32 0), 0, ([] : List (S64)))) else (none)) = some (r1, r2, r3) := h
 clear h
 by_cases c1 : 32 ≤ 281474976710656
 ·rw [if_pos c1] at H
  have c1b0 := eq_true c1
  have c1b1 : decide (32 ≤ 281474976710656) = true := decide_eq_true c1
  clear c1
  obtain ⟨y251, hy251⟩ : ∃ y_ : List Int, y_ = (List.replicate 32 0) := ⟨_, rfl⟩
  replace H : (some (strOfNums y251, 0, ([] : List (S64)))) = some (r1, r2, r3) := by first | (rw [hy251]; with_reducible exact H) | (have H2_ := (Option.bind_some _ _).symm.trans H; rw [hy251]; with_reducible exact H2_) | (have H2_ := (Option.bind_some _ _).symm.trans H; with_reducible exact H2_) | with_reducible exact H | (rw [hy251]; exact H) | exact H
  have Ny251 := Aside0.mk hy251
  clear hy251
  simp only [Option.some.injEq, Prod.mk.injEq] at H
  obtain ⟨rfl, rfl, rfl⟩ := H
  go_enter Try.func35, Try.ntmps35
  go_wp2_with (first | ((with_reducible refine gate_dst (N := 0) rfl ?_); refine box_event ?hg (N := 0) ?hd (cs := #[.string (⟨#[]⟩ : ByteArray), .int .i64 0, .slice none 0 0]) (t := 56) ?hr ?_; (case hd => rfl); (case hg => rfl); (case hr => first | (go_simp; done) | (go_simp; rfl)); intro gb250 hg w2 hbox hb; have n0_ := Aside0.mk (below_step (by repeat (first | (with_reducible first | exact HB.out | apply below_alloc | apply pw_below_drewN | apply below_drew1) | exact HB.out)) hb); have n1_ := Aside0.mk (hbox); have n2_ := Aside0.mk ((by rw [hg]; exact (below_size (by repeat (first | (with_reducible first | exact HB.out | apply below_alloc | apply pw_below_drewN | apply below_drew1) | exact HB.out))) : w.heap.size ≤ gb250)); have n3_ := Aside0.mk ((by rw [hg]; exact (below_size (by repeat (first | (with_reducible first | exact HB.out | apply below_alloc | apply pw_below_drewN | apply below_drew1) | exact HB.out))) : w.heap.size ≤ gb250)); clear HB; have HB := n0_; have BK250 := n1_; have GW250 := n2_; have GE250 := n3_; clear n0_ n1_ n2_ n3_; clear hb hbox hg) | ((with_reducible refine gate_dst (N := 1) rfl ?_); refine Kd.R_make (Kd.int .u8) _ 5 rfl (N := 1) rfl 23 _ _ rfl 32 rfl rfl Try.underlying23 (.int .u8 0) 1 info5 rfl (by decide) (by omega) 0 (ok := fun _ => True) (okp := fun _ => True) rfl (fun _ hk => hk) trivial (by omega) (by omega) (Below.refl _ _) (Nat.le_refl _) ?_; intro v252 w3 ho4 hb hg_ hnew_; clear hg_ hnew_; (first | rw [← Ny251.out] at ho4 | (simp only [Int.reduceToNat] at ho4; rw [← Ny251.out] at ho4)); have n0_ := Aside0.mk (Kd.R_lower ho4 (below_size (by repeat (first | (with_reducible first | exact HB.out | apply below_alloc | apply pw_below_drewN | apply below_drew1 | refine below_set ?_ GE250.out) | exact HB.out)))); have n1_ := Aside0.mk (blk_below (g := gb250) (o := .cells #[.string (⟨#[]⟩ : ByteArray), .int .i64 0, .slice none 0 0] 56 (0, 0)) (by (with_reducible repeat (first | refine blk_drewN ?_ _ | refine blk_drew ?_ | refine blk_alloc ?_ _)); exact BK250.out) hb); have n2_ := Aside0.mk (below_step (by repeat (first | (with_reducible first | exact HB.out | apply below_alloc | apply pw_below_drewN | apply below_drew1 | refine below_set ?_ GE250.out) | exact HB.out)) hb); clear BK250; clear HB; have HO253 := n0_; have BK250 := n1_; have HB := n2_; clear n0_ n1_ n2_; clear hb ho4; have hcv5 := own_string (P := Try.prog) Try.underlying23 Try.underlying5 Try.underlying9 (Kd.own_of_R HO253.out); have hcz6_0 : w3.cell? ⟨gb250, 0, none⟩ = some (.string (⟨#[]⟩ : ByteArray)) := (blk_cell BK250.out 0).trans rfl; have hcz6_1 : w3.cell? ⟨gb250, 1, none⟩ = some (.int .i64 0) := (blk_cell BK250.out 1).trans rfl; have hcz6_2 : w3.cell? ⟨gb250, 2, none⟩ = some (.slice none 0 0) := (blk_cell BK250.out 2).trans rfl; have hfz6_0 := blk_frozen BK250.out 0; have hfz6_1 := blk_frozen BK250.out 1; have hfz6_2 := blk_frozen BK250.out 2))
  refine bodyPost_ret (results_cell_row rfl _ _ gb250 56 #[.string (strOfNums y251), .int .i64 0, .slice none 0 0] (0, 0) _ rfl (by (with_reducible repeat (first | refine blk_drewN ?_ _ | refine blk_drew ?_ | refine blk_alloc ?_ _)); refine blk_put (cs := #[.string (strOfNums y251), .int .i64 0, .slice none 0 0]) ?_ 2 _ rfl; (with_reducible repeat (first | refine blk_drewN ?_ _ | refine blk_drew ?_ | refine blk_alloc ?_ _)); refine blk_put (cs := #[.string (strOfNums y251), .int .i64 0, .slice none 0 0]) ?_ 1 _ rfl; (with_reducible repeat (first | refine blk_drewN ?_ _ | refine blk_drew ?_ | refine blk_alloc ?_ _)); refine blk_put (cs := #[.string (⟨#[]⟩ : ByteArray), .int .i64 0, .slice none 0 0]) ?_ 0 _ rfl; (with_reducible repeat (first | refine blk_drewN ?_ _ | refine blk_drew ?_ | refine blk_alloc ?_ _)); exact BK250.out) Try.underlying56 rfl (by kernel_rfl)) rfl ?_
  exact ⟨_, by first | rfl | (simp [errW_none, errW_some] <;> rfl) | (simp [*, errW_none, errW_some] <;> rfl), by first | exact Kd.R_nil _ _ _ _ _ | exact Kd.N_nil _ _ _ _ _ | exact Kd.V_nil _ _ _ _ _ | exact Kd.Q_nil _ _ _ _ _ | exact Kd.S_nil _ _ _ _ _, by repeat (first | (with_reducible first | exact HB.out | apply below_alloc | apply pw_below_drewN | apply below_drew1 | refine below_set ?_ GE250.out) | exact HB.out)⟩
 ·rw [if_neg c1] at H
  exact absurd H (by simp)

end Go.Proofs.Ytcdnmlfnfhoieaa.A
