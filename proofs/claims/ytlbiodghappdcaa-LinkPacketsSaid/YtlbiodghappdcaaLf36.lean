-- Made by a program of this session (wip/tools/p2.sh), then turned (wip/tools/fixprint.py); Lean checks it.
import Derived.Test.YtlbiodghappdcaaL0
import Derived.Test.YtlbiodghappdcaaLf35
import Derived.Test.YtlbiodghappdcaaHB
namespace Go.Proofs.Ytlbiodghappdcaa.L
open Go.RowKit Go.Proofs.YtlbiodghappdcaaW.PrintWords Go.Proofs.YtlbiodghappdcaaW.PrintLast Go.Proofs.YtlbiodghappdcaaW.PrintMore
attribute [local go_sem] max2_int min2_int max_two min_two max_three min_three max_four min_four   -- for this text's walks alone
set_option linter.unusedVariables false
set_option linter.unusedSimpArgs false

/-! ### num_GetText: function 36 -/
def num_GetText.f (k : Nat) (l0 : List Int) (a1 : Int) (a2 : Int) : Option (ByteArray × Int × Int) := (num_Get.f k l0 a1).bind fun bt162 => (if bt162.2.2 = 0 then (if bt162.1 > (IntKind.u64.wrap (mx a2 0)) then (some ((⟨#[]⟩ : ByteArray), 0, 2)) else (if bt162.1 > (IntKind.u64.wrap (wrap64 ((l0.length : Int) - bt162.2.1))) then (some ((⟨#[]⟩ : ByteArray), 0, 3)) else (if 0 ≤ bt162.2.1 then (if bt162.2.1 ≤ (wrap64 (bt162.2.1 + (wrap64 (bt162.1)))) then (if (wrap64 (bt162.2.1 + (wrap64 (bt162.1)))) ≤ (l0.length : Int) then (some (strOfNums ((l0.take ((wrap64 (bt162.2.1 + (wrap64 (bt162.1)))) : Int).toNat).drop (bt162.2.1 : Int).toNat), wrap64 (bt162.2.1 + (wrap64 (bt162.1))), 0)) else (none)) else (none)) else (none)))) else (some ((⟨#[]⟩ : ByteArray), 0, bt162.2.2)))
theorem num_GetText.mono : ∀ a0 a1 a2 k, LeO (num_GetText.f k a0 a1 a2) (num_GetText.f (k + 1) a0 a1 a2) := by
  intro a0 a1 a2 k
  unfold num_GetText.f
  repeat' first
      | (with_reducible exact num_Get.mono _ _ _)
      | (with_reducible exact LeO.refl _)
      | (with_reducible exact LeO.none _)
      | (with_reducible refine LeO.ite ?_ ?_)
      | (with_reducible refine LeO.bind ?_ (fun _ => ?_))
      | exact num_Get.mono _ _ _
      | exact LeO.none _
      | refine LeO.ite ?_ ?_
      | refine LeO.bind ?_ (fun _ => ?_)
set_option maxHeartbeats 8000000 in
set_option maxRecDepth 100000 in
theorem num_GetText.calls (k : Nat) (A0 : Option Addr) (c0 : Nat) (l0 : List Int) (a1 : Int) (a2 : Int) (r1 : ByteArray) (r2 : Int) (r3 : Int) (w : World) (hr0 : Kd.C (Kd.int .u8) w A0 l0.length l0) (hc0 : l0.length ≤ c0) (h : num_GetText.f k l0 a1 a2 = some (r1, r2, r3)) :
    Calls Try.prog 36 #[.slice A0 l0.length c0, .int .i64 a1, .int .i64 a2] w fun e w' => e = .returned (.tuple #[.string r1, .int .i64 r2, .int .i64 r3]) ∧ Below w.heap.size w w' := by
  have HR0 := Aside0.mk hr0
  have HC0 := Aside0.mk hc0
  clear hr0 hc0
  have HB := Aside0.mk (Below.refl w.heap.size w)
  have H : ((num_Get.f k l0 a1).bind fun bt162 => (if bt162.2.2 = 0 then (if bt162.1 > (IntKind.u64.wrap (mx a2 0)) then (some ((⟨#[]⟩ : ByteArray), 0, 2)) else (if bt162.1 > (IntKind.u64.wrap (wrap64 ((l0.length : Int) - bt162.2.1))) then (some ((⟨#[]⟩ : ByteArray), 0, 3)) else (if 0 ≤ bt162.2.1 then (if bt162.2.1 ≤ (wrap64 (bt162.2.1 + (wrap64 (bt162.1)))) then (if (wrap64 (bt162.2.1 + (wrap64 (bt162.1)))) ≤ (l0.length : Int) then (some (strOfNums ((l0.take ((wrap64 (bt162.2.1 + (wrap64 (bt162.1)))) : Int).toNat).drop (bt162.2.1 : Int).toNat), wrap64 (bt162.2.1 + (wrap64 (bt162.1))), 0)) else (none)) else (none)) else (none)))) else (some ((⟨#[]⟩ : ByteArray), 0, bt162.2.2)))) = some (r1, r2, r3) := h
  clear h
  replace H := Option.bind_eq_some_iff.mp H
  obtain ⟨⟨t162, t163, t164⟩, A40, H⟩ := H
  replace H : (if t164 = 0 then (if t162 > (IntKind.u64.wrap (mx a2 0)) then (some ((⟨#[]⟩ : ByteArray), 0, 2)) else (if t162 > (IntKind.u64.wrap (wrap64 ((l0.length : Int) - t163))) then (some ((⟨#[]⟩ : ByteArray), 0, 3)) else (if 0 ≤ t163 then (if t163 ≤ (wrap64 (t163 + (wrap64 (t162)))) then (if (wrap64 (t163 + (wrap64 (t162)))) ≤ (l0.length : Int) then (some (strOfNums ((l0.take ((wrap64 (t163 + (wrap64 (t162)))) : Int).toNat).drop (t163 : Int).toNat), wrap64 (t163 + (wrap64 (t162))), 0)) else (none)) else (none)) else (none)))) else (some ((⟨#[]⟩ : ByteArray), 0, t164))) = some (r1, r2, r3) := H
  have A4 := Aside0.mk A40
  clear A40
  by_cases c5 : t164 = 0
  · rw [if_pos c5] at H
    have c5b0 : (t164 == 0) = true := beq_iff_eq.mpr c5
    have c5b1 : (t164 != 0) = false := bne_eq_false_iff_eq.mpr c5
    clear c5
    obtain ⟨ji6, hji6⟩ : ∃ j_ : Int, (mx a2 0) = j_ := ⟨_, rfl⟩
    replace H : (if t162 > (IntKind.u64.wrap (ji6)) then (some ((⟨#[]⟩ : ByteArray), 0, 2)) else (if t162 > (IntKind.u64.wrap (wrap64 ((l0.length : Int) - t163))) then (some ((⟨#[]⟩ : ByteArray), 0, 3)) else (if 0 ≤ t163 then (if t163 ≤ (wrap64 (t163 + (wrap64 (t162)))) then (if (wrap64 (t163 + (wrap64 (t162)))) ≤ (l0.length : Int) then (some (strOfNums ((l0.take ((wrap64 (t163 + (wrap64 (t162)))) : Int).toNat).drop (t163 : Int).toNat), wrap64 (t163 + (wrap64 (t162))), 0)) else (none)) else (none)) else (none)))) = some (r1, r2, r3) := by first | (rw [hji6] at H; exact H) | (simp only [hji6] at H ⊢; exact H)
    (try rw [hji6] at A4)
    (try (have hji6l : 0 ≤ ji6 := by (rw [← hji6]; unfold mx; (repeat' split) <;> omega)))
    (try (have hji6m : 0 ≤ ji6 := by omega))
    have hji6_ : (if a2 < 0 then 0 else a2) = ji6 := hji6
    by_cases c7 : t162 > (IntKind.u64.wrap (ji6))
    · rw [if_pos c7] at H
      have c7b0 : decide ((IntKind.u64.wrap (ji6)) < t162) = true := decide_eq_true c7
      clear c7
      simp only [Option.some.injEq, Prod.mk.injEq] at H
      obtain ⟨rfl, rfl, rfl⟩ := H
      go_enter Try.func36, Try.ntmps36
      go_wp2_with (first | ((with_reducible refine gate_callee (f := 35) rfl ?_); refine goesL_ (some 16) rfl rfl Try.func35 (by kernel_rfl) rfl #[.slice A0 l0.length c0, .int .i64 a1] rfl (by (try simp only [List.map_toArray, List.map_cons, List.map_nil]); first | done | rfl | (simp only [List.length_drop, List.length_take]; rfl)) ?_; (with_reducible refine (num_Get.calls k _ _ l0 a1 t162 t163 t164 _ ?side1 ?side2 A4.out).mono ?_); (case side1 => repeat (first | exact HR0.out | (with_reducible refine Kd.C_alloc ?_ _) | (with_reducible refine Kd.C_drewN ?_ _) | (with_reducible refine Kd.C_drew ?_))); (case side2 => exact HC0.out); rintro e w' ⟨rfl, ⟨nd, rfl⟩⟩; refine ⟨_, rfl, ?_⟩))
      go_ret3
      exact ⟨by first | rfl | (simp [errW_none, errW_some] <;> rfl) | (simp only [← hji6]; first | rfl | (simp [errW_none, errW_some] <;> rfl)) | (simp [*, errW_none, errW_some] <;> rfl), by repeat (first | (with_reducible first | exact HB.out | apply below_alloc | apply pw_below_drewN | apply below_drew1) | exact HB.out)⟩
    · rw [if_neg c7] at H
      have c7b0 : decide ((IntKind.u64.wrap (ji6)) < t162) = false := decide_eq_false c7
      clear c7
      by_cases c8 : t162 > (IntKind.u64.wrap (wrap64 ((l0.length : Int) - t163)))
      · rw [if_pos c8] at H
        have c8b0 : decide ((IntKind.u64.wrap (wrap64 ((l0.length : Int) - t163))) < t162) = true := decide_eq_true c8
        clear c8
        simp only [Option.some.injEq, Prod.mk.injEq] at H
        obtain ⟨rfl, rfl, rfl⟩ := H
        go_enter Try.func36, Try.ntmps36
        go_wp2_with (first | ((with_reducible refine gate_callee (f := 35) rfl ?_); refine goesL_ (some 16) rfl rfl Try.func35 (by kernel_rfl) rfl #[.slice A0 l0.length c0, .int .i64 a1] rfl (by (try simp only [List.map_toArray, List.map_cons, List.map_nil]); first | done | rfl | (simp only [List.length_drop, List.length_take]; rfl)) ?_; (with_reducible refine (num_Get.calls k _ _ l0 a1 t162 t163 t164 _ ?side1 ?side2 A4.out).mono ?_); (case side1 => repeat (first | exact HR0.out | (with_reducible refine Kd.C_alloc ?_ _) | (with_reducible refine Kd.C_drewN ?_ _) | (with_reducible refine Kd.C_drew ?_))); (case side2 => exact HC0.out); rintro e w' ⟨rfl, ⟨nd, rfl⟩⟩; refine ⟨_, rfl, ?_⟩))
        go_ret3
        exact ⟨by first | rfl | (simp [errW_none, errW_some] <;> rfl) | (simp only [← hji6]; first | rfl | (simp [errW_none, errW_some] <;> rfl)) | (simp [*, errW_none, errW_some] <;> rfl), by repeat (first | (with_reducible first | exact HB.out | apply below_alloc | apply pw_below_drewN | apply below_drew1) | exact HB.out)⟩
      · rw [if_neg c8] at H
        have c8b0 : decide ((IntKind.u64.wrap (wrap64 ((l0.length : Int) - t163))) < t162) = false := decide_eq_false c8
        clear c8
        by_cases c9 : 0 ≤ t163
        · rw [if_pos c9] at H
          have c9b0 := eq_true c9
          have c9b1 : decide (0 ≤ t163) = true := decide_eq_true c9
          clear c9
          by_cases c10 : t163 ≤ (wrap64 (t163 + (wrap64 (t162))))
          · rw [if_pos c10] at H
            have c10b0 := eq_true c10
            have c10b1 : decide (t163 ≤ (wrap64 (t163 + (wrap64 (t162))))) = true := decide_eq_true c10
            by_cases c11 : (wrap64 (t163 + (wrap64 (t162)))) ≤ (l0.length : Int)
            · rw [if_pos c11] at H
              have c11b0 := eq_true c11
              have c11b1 : decide ((wrap64 (t163 + (wrap64 (t162)))) ≤ (l0.length : Int)) = true := decide_eq_true c11
              simp only [Option.some.injEq, Prod.mk.injEq] at H
              obtain ⟨rfl, rfl, rfl⟩ := H
              go_enter Try.func36, Try.ntmps36
              go_wp2_with (first | ((with_reducible refine gate_callee (f := 35) rfl ?_); refine goesL_ (some 16) rfl rfl Try.func35 (by kernel_rfl) rfl #[.slice A0 l0.length c0, .int .i64 a1] rfl (by (try simp only [List.map_toArray, List.map_cons, List.map_nil]); first | done | rfl | (simp only [List.length_drop, List.length_take]; rfl)) ?_; (with_reducible refine (num_Get.calls k _ _ l0 a1 t162 t163 t164 _ ?side1 ?side2 A4.out).mono ?_); (case side1 => repeat (first | exact HR0.out | (with_reducible refine Kd.C_alloc ?_ _) | (with_reducible refine Kd.C_drewN ?_ _) | (with_reducible refine Kd.C_drew ?_))); (case side2 => exact HC0.out); rintro e w' ⟨rfl, ⟨nd, rfl⟩⟩; refine ⟨_, rfl, ?_⟩; obtain ⟨i012, hi012, _, hsz12, _⟩ := info_parts info5; obtain ⟨A12, hcut12, hA12, hC12⟩ := print_mid_of (P := Try.prog) (Value.int .u8) 0 24 5 .i64 .i64 Try.underlying24 hi012 hsz12 A0 c0 l0 t163 (wrap64 (t163 + (wrap64 (t162)))) (of_decide_eq_true (by first | (with_reducible assumption) | assumption)) (by first | omega | exact of_decide_eq_true (by first | (with_reducible assumption) | assumption)) (of_decide_eq_true (by first | (with_reducible assumption) | assumption)) HC0.out; have HR165 := Aside0.mk (Kd.C_of_reads (h1 := fun _ => rfl) (hA12 _ (Kd.reads_of_C HR0.out))); have HC165 := Aside0.mk hC12; clear hA12 hC12 hi012 hsz12; have hcv13 := Kd.C_string (P := Try.prog) (A := A12) (c := (c0 - t163.toNat)) Try.underlying24 Try.underlying5 Try.underlying9 HR165.out))
              have hl_ : (wrap64 (t163 + (wrap64 (t162)))).toNat - (t163).toNat = ((l0.take (wrap64 (t163 + (wrap64 (t162)))).toNat).drop (t163).toNat).length := by rw [List.length_drop, List.length_take]; omega
              rw [hl_, Kd.C_string (P := Try.prog) (A := A12) (c := (c0 - t163.toNat)) Try.underlying24 Try.underlying5 Try.underlying9 (Kd.C_drewN HR165.out nd)]
              clear hl_ hcv13
              go_wp2
              go_ret3
              exact ⟨by first | rfl | (simp [errW_none, errW_some] <;> rfl) | (simp only [← hji6]; first | rfl | (simp [errW_none, errW_some] <;> rfl)) | (simp [*, errW_none, errW_some] <;> rfl), by repeat (first | (with_reducible first | exact HB.out | apply below_alloc | apply pw_below_drewN | apply below_drew1) | exact HB.out)⟩
            · rw [if_neg c11] at H
              exact absurd H (by simp)
          · rw [if_neg c10] at H
            exact absurd H (by simp)
        · rw [if_neg c9] at H
          exact absurd H (by simp)
  · rw [if_neg c5] at H
    have c5b0 : (t164 == 0) = false := beq_eq_false_iff_ne.mpr c5
    have c5b1 : (t164 != 0) = true := bne_iff_ne.mpr c5
    simp only [Option.some.injEq, Prod.mk.injEq] at H
    obtain ⟨rfl, rfl, rfl⟩ := H
    go_enter Try.func36, Try.ntmps36
    go_wp2_with (first | ((with_reducible refine gate_callee (f := 35) rfl ?_); refine goesL_ (some 16) rfl rfl Try.func35 (by kernel_rfl) rfl #[.slice A0 l0.length c0, .int .i64 a1] rfl (by (try simp only [List.map_toArray, List.map_cons, List.map_nil]); first | done | rfl | (simp only [List.length_drop, List.length_take]; rfl)) ?_; (with_reducible refine (num_Get.calls k _ _ l0 a1 t162 t163 t164 _ ?side1 ?side2 A4.out).mono ?_); (case side1 => repeat (first | exact HR0.out | (with_reducible refine Kd.C_alloc ?_ _) | (with_reducible refine Kd.C_drewN ?_ _) | (with_reducible refine Kd.C_drew ?_))); (case side2 => exact HC0.out); rintro e w' ⟨rfl, ⟨nd, rfl⟩⟩; refine ⟨_, rfl, ?_⟩))
    go_ret3
    exact ⟨by first | rfl | (simp [errW_none, errW_some] <;> rfl) | (simp [*, errW_none, errW_some] <;> rfl), by repeat (first | (with_reducible first | exact HB.out | apply below_alloc | apply pw_below_drewN | apply below_drew1) | exact HB.out)⟩

end Go.Proofs.Ytlbiodghappdcaa.L
