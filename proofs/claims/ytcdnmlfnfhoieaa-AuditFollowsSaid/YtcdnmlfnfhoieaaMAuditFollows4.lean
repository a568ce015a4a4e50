/- What the claim's last text reaches, in build order (part 5 of 7). No condition beyond those of the texts themselves. -/
import Derived.Test.YtcdnmlfnfhoieaaMAuditFollows0
import Derived.Test.YtcdnmlfnfhoieaaMAuditFollows1
import Derived.Test.YtcdnmlfnfhoieaaMAuditFollows2
import Derived.Test.YtcdnmlfnfhoieaaMAuditFollows3
import Derived.BigRegion

namespace Go.Proofs.Ytcdnmlfnfhoieaa.A
open Go.RowKit Go.Proofs.YtcdnmlfnfhoieaaW.PrintWords Go.Proofs.YtcdnmlfnfhoieaaW.PrintLast Go.Proofs.YtcdnmlfnfhoieaaW.PrintMore
attribute [local go_sem] max2_int min2_int max_two min_two max_three min_three max_four min_four
set_option linter.unusedVariables false
set_option linter.unusedSimpArgs false
/-! ### strongroomref02_cubeBelow: function 115 -/
def strongroomref02_cubeBelow.f (a0 : Int) (a1 : Int) : Option (Bool) := (strongroomref02_product.f a0 a0).bind fun bt304 => ((strongroomref02_product.f bt304.2 a0).bind fun bt306 => ((strongroomref02_product.f bt304.1 a0).bind fun bt308 => (if bt308.1 > 0 then (some false) else (if bt308.2 > (IntKind.u64.wrap (18446744073709551615 - bt306.1)) then (some false) else (if (IntKind.u64.wrap (bt308.2 + bt306.1)) < (IntKind.u64.wrap (a1 * 4294967296)) then (some true) else (if (IntKind.u64.wrap (bt308.2 + bt306.1)) = (IntKind.u64.wrap (a1 * 4294967296)) then (some (bt306.2 == 0)) else (some false)))))))
set_option maxHeartbeats 8000000 in
set_option maxRecDepth 100000 in
theorem strongroomref02_cubeBelow.calls (a0 : Int) (a1 : Int) (r : Bool) (w : World) (h : strongroomref02_cubeBelow.f a0 a1 = some r) :
  Calls Try.prog 115 #[.int .u64 a0, .int .u64 a1] w fun e w' => e = .returned (.bool r) ∧ Drawn0 w w' := by
 have H : ((strongroomref02_product.f a0 a0).bind fun bt304 => ((strongroomref02_product.f bt304.2 a0).bind fun bt306 => ((strongroomref02_product.f bt304.1 a0).bind fun bt308 => (if bt308.1 > 0 then (some false) else (if bt308.2 > (IntKind.u64.wrap (18446744073709551615 - bt306.1)) then (some false) else (if (IntKind.u64.wrap (bt308.2 + bt306.1)) < (IntKind.u64.wrap (a1 * 4294967296)) then (some true) else (if (IntKind.u64.wrap (bt308.2 + bt306.1)) = (IntKind.u64.wrap (a1 * 4294967296)) then (some (bt306.2 == 0)) else (some false)))))))) = some r := h
 clear h
 replace H := Option.bind_eq_some_iff.mp H
 obtain ⟨⟨t304, t305⟩, A30, H⟩ := H
 replace H : ((strongroomref02_product.f t305 a0).bind fun bt306 => ((strongroomref02_product.f t304 a0).bind fun bt308 => (if bt308.1 > 0 then (some false) else (if bt308.2 > (IntKind.u64.wrap (18446744073709551615 - bt306.1)) then (some false) else (if (IntKind.u64.wrap (bt308.2 + bt306.1)) < (IntKind.u64.wrap (a1 * 4294967296)) then (some true) else (if (IntKind.u64.wrap (bt308.2 + bt306.1)) = (IntKind.u64.wrap (a1 * 4294967296)) then (some (bt306.2 == 0)) else (some false))))))) = some r := H
 have A3 := Aside0.mk A30
 clear A30
 replace H := Option.bind_eq_some_iff.mp H
 obtain ⟨⟨t306, t307⟩, A40, H⟩ := H
 replace H : ((strongroomref02_product.f t304 a0).bind fun bt308 => (if bt308.1 > 0 then (some false) else (if bt308.2 > (IntKind.u64.wrap (18446744073709551615 - t306)) then (some false) else (if (IntKind.u64.wrap (bt308.2 + t306)) < (IntKind.u64.wrap (a1 * 4294967296)) then (some true) else (if (IntKind.u64.wrap (bt308.2 + t306)) = (IntKind.u64.wrap (a1 * 4294967296)) then (some (t307 == 0)) else (some false)))))) = some r := H
 have A4 := Aside0.mk A40
 clear A40
 replace H := Option.bind_eq_some_iff.mp H
 obtain ⟨⟨t308, t309⟩, A50, H⟩ := H
 replace H : (if t308 > 0 then (some false) else (if t309 > (IntKind.u64.wrap (18446744073709551615 - t306)) then (some false) else (if (IntKind.u64.wrap (t309 + t306)) < (IntKind.u64.wrap (a1 * 4294967296)) then (some true) else (if (IntKind.u64.wrap (t309 + t306)) = (IntKind.u64.wrap (a1 * 4294967296)) then (some (t307 == 0)) else (some false))))) = some r := H
 have A5 := Aside0.mk A50
 clear A50
 by_cases c6 : t308 > 0
 ·rw [if_pos c6] at H
  have c6b0 : decide (0 < t308) = true := decide_eq_true c6
  clear c6
  obtain rfl := Option.some.inj H
  go_enter Try.func115, Try.ntmps115
  go_wp2_with (first | ((with_reducible refine gate_callee (f := 118) rfl ?_); refine goesL_ (some 14) rfl rfl Try.func118 (by kernel_rfl) rfl #[.int .u64 a0, .int .u64 a0] rfl (by (try simp only [List.map_toArray, List.map_cons, List.map_nil]); first | done | rfl | (simp only [List.length_drop, List.length_take]; rfl)) ?_; (with_reducible refine (strongroomref02_product.calls a0 a0 t304 t305 _ A3.out).mono ?_); rintro e w' ⟨rfl, ⟨nd, rfl⟩⟩; refine ⟨_, rfl, ?_⟩) | ((with_reducible refine gate_callee (f := 118) rfl ?_); refine goesL_ (some 20) rfl rfl Try.func118 (by kernel_rfl) rfl #[.int .u64 t305, .int .u64 a0] rfl (by (try simp only [List.map_toArray, List.map_cons, List.map_nil]); first | done | rfl | (simp only [List.length_drop, List.length_take]; rfl)) ?_; (with_reducible refine (strongroomref02_product.calls t305 a0 t306 t307 _ A4.out).mono ?_); rintro e w' ⟨rfl, ⟨nd, rfl⟩⟩; refine ⟨_, rfl, ?_⟩) | ((with_reducible refine gate_callee (f := 118) rfl ?_); refine goesL_ (some 26) rfl rfl Try.func118 (by kernel_rfl) rfl #[.int .u64 t304, .int .u64 a0] rfl (by (try simp only [List.map_toArray, List.map_cons, List.map_nil]); first | done | rfl | (simp only [List.length_drop, List.length_take]; rfl)) ?_; (with_reducible refine (strongroomref02_product.calls t304 a0 t308 t309 _ A5.out).mono ?_); rintro e w' ⟨rfl, ⟨nd, rfl⟩⟩; refine ⟨_, rfl, ?_⟩))
  go_ret
  exact ⟨by first | rfl | (simp; done) | (simp [*]; done), by repeat (first | exact Drawn0.refl _ | apply Drawn0.step)⟩
 ·rw [if_neg c6] at H
  have c6b0 : decide (0 < t308) = false := decide_eq_false c6
  clear c6
  by_cases c7 : t309 > (IntKind.u64.wrap (18446744073709551615 - t306))
  ·rw [if_pos c7] at H
   have c7b0 : decide ((IntKind.u64.wrap (18446744073709551615 - t306)) < t309) = true := decide_eq_true c7
   clear c7
   obtain rfl := Option.some.inj H
   go_enter Try.func115, Try.ntmps115
   go_wp2_with (first | ((with_reducible refine gate_callee (f := 118) rfl ?_); refine goesL_ (some 14) rfl rfl Try.func118 (by kernel_rfl) rfl #[.int .u64 a0, .int .u64 a0] rfl (by (try simp only [List.map_toArray, List.map_cons, List.map_nil]); first | done | rfl | (simp only [List.length_drop, List.length_take]; rfl)) ?_; (with_reducible refine (strongroomref02_product.calls a0 a0 t304 t305 _ A3.out).mono ?_); rintro e w' ⟨rfl, ⟨nd, rfl⟩⟩; refine ⟨_, rfl, ?_⟩) | ((with_reducible refine gate_callee (f := 118) rfl ?_); refine goesL_ (some 20) rfl rfl Try.func118 (by kernel_rfl) rfl #[.int .u64 t305, .int .u64 a0] rfl (by (try simp only [List.map_toArray, List.map_cons, List.map_nil]); first | done | rfl | (simp only [List.length_drop, List.length_take]; rfl)) ?_; (with_reducible refine (strongroomref02_product.calls t305 a0 t306 t307 _ A4.out).mono ?_); rintro e w' ⟨rfl, ⟨nd, rfl⟩⟩; refine ⟨_, rfl, ?_⟩) | ((with_reducible refine gate_callee (f := 118) rfl ?_); refine goesL_ (some 26) rfl rfl Try.func118 (by kernel_rfl) rfl #[.int .u64 t304, .int .u64 a0] rfl (by (try simp only [List.map_toArray, List.map_cons, List.map_nil]); first | done | rfl | (simp only [List.length_drop, List.length_take]; rfl)) ?_; (with_reducible refine (strongroomref02_product.calls t304 a0 t308 t309 _ A5.out).mono ?_); rintro e w' ⟨rfl, ⟨nd, rfl⟩⟩; refine ⟨_, rfl, ?_⟩))
   go_ret
   exact ⟨by first | rfl | (simp; done) | (simp [*]; done), by repeat (first | exact Drawn0.refl _ | apply Drawn0.step)⟩
  ·rw [if_neg c7] at H
   have c7b0 : decide ((IntKind.u64.wrap (18446744073709551615 - t306)) < t309) = false := decide_eq_false c7
   clear c7
   by_cases c8 : (IntKind.u64.wrap (t309 + t306)) < (IntKind.u64.wrap (a1 * 4294967296))
   ·rw [if_pos c8] at H
    have c8b0 : decide ((IntKind.u64.wrap (t309 + t306)) < (IntKind.u64.wrap (a1 * 4294967296))) = true := decide_eq_true c8
    clear c8
    obtain rfl := Option.some.inj H
    go_enter Try.func115, Try.ntmps115
    go_wp2_with (first | ((with_reducible refine gate_callee (f := 118) rfl ?_); refine goesL_ (some 14) rfl rfl Try.func118 (by kernel_rfl) rfl #[.int .u64 a0, .int .u64 a0] rfl (by (try simp only [List.map_toArray, List.map_cons, List.map_nil]); first | done | rfl | (simp only [List.length_drop, List.length_take]; rfl)) ?_; (with_reducible refine (strongroomref02_product.calls a0 a0 t304 t305 _ A3.out).mono ?_); rintro e w' ⟨rfl, ⟨nd, rfl⟩⟩; refine ⟨_, rfl, ?_⟩) | ((with_reducible refine gate_callee (f := 118) rfl ?_); refine goesL_ (some 20) rfl rfl Try.func118 (by kernel_rfl) rfl #[.int .u64 t305, .int .u64 a0] rfl (by (try simp only [List.map_toArray, List.map_cons, List.map_nil]); first | done | rfl | (simp only [List.length_drop, List.length_take]; rfl)) ?_; (with_reducible refine (strongroomref02_product.calls t305 a0 t306 t307 _ A4.out).mono ?_); rintro e w' ⟨rfl, ⟨nd, rfl⟩⟩; refine ⟨_, rfl, ?_⟩) | ((with_reducible refine gate_callee (f := 118) rfl ?_); refine goesL_ (some 26) rfl rfl Try.func118 (by kernel_rfl) rfl #[.int .u64 t304, .int .u64 a0] rfl (by (try simp only [List.map_toArray, List.map_cons, List.map_nil]); first | done | rfl | (simp only [List.length_drop, List.length_take]; rfl)) ?_; (with_reducible refine (strongroomref02_product.calls t304 a0 t308 t309 _ A5.out).mono ?_); rintro e w' ⟨rfl, ⟨nd, rfl⟩⟩; refine ⟨_, rfl, ?_⟩))
    go_ret
    exact ⟨by first | rfl | (simp; done) | (simp [*]; done), by repeat (first | exact Drawn0.refl _ | apply Drawn0.step)⟩
   ·rw [if_neg c8] at H
    have c8b0 : decide ((IntKind.u64.wrap (t309 + t306)) < (IntKind.u64.wrap (a1 * 4294967296))) = false := decide_eq_false c8
    clear c8
    by_cases c9 : (IntKind.u64.wrap (t309 + t306)) = (IntKind.u64.wrap (a1 * 4294967296))
    ·rw [if_pos c9] at H
     have c9b0 : ((IntKind.u64.wrap (t309 + t306)) == (IntKind.u64.wrap (a1 * 4294967296))) = true := beq_iff_eq.mpr c9
     have c9b1 : ((IntKind.u64.wrap (t309 + t306)) != (IntKind.u64.wrap (a1 * 4294967296))) = false := bne_eq_false_iff_eq.mpr c9
     clear c9
     obtain rfl := Option.some.inj H
     go_enter Try.func115, Try.ntmps115
     go_wp2_with (first | ((with_reducible refine gate_callee (f := 118) rfl ?_); refine goesL_ (some 14) rfl rfl Try.func118 (by kernel_rfl) rfl #[.int .u64 a0, .int .u64 a0] rfl (by (try simp only [List.map_toArray, List.map_cons, List.map_nil]); first | done | rfl | (simp only [List.length_drop, List.length_take]; rfl)) ?_; (with_reducible refine (strongroomref02_product.calls a0 a0 t304 t305 _ A3.out).mono ?_); rintro e w' ⟨rfl, ⟨nd, rfl⟩⟩; refine ⟨_, rfl, ?_⟩) | ((with_reducible refine gate_callee (f := 118) rfl ?_); refine goesL_ (some 20) rfl rfl Try.func118 (by kernel_rfl) rfl #[.int .u64 t305, .int .u64 a0] rfl (by (try simp only [List.map_toArray, List.map_cons, List.map_nil]); first | done | rfl | (simp only [List.length_drop, List.length_take]; rfl)) ?_; (with_reducible refine (strongroomref02_product.calls t305 a0 t306 t307 _ A4.out).mono ?_); rintro e w' ⟨rfl, ⟨nd, rfl⟩⟩; refine ⟨_, rfl, ?_⟩) | ((with_reducible refine gate_callee (f := 118) rfl ?_); refine goesL_ (some 26) rfl rfl Try.func118 (by kernel_rfl) rfl #[.int .u64 t304, .int .u64 a0] rfl (by (try simp only [List.map_toArray, List.map_cons, List.map_nil]); first | done | rfl | (simp only [List.length_drop, List.length_take]; rfl)) ?_; (with_reducible refine (strongroomref02_product.calls t304 a0 t308 t309 _ A5.out).mono ?_); rintro e w' ⟨rfl, ⟨nd, rfl⟩⟩; refine ⟨_, rfl, ?_⟩))
     go_ret
     exact ⟨by first | rfl | (simp; done) | (simp [*]; done), by repeat (first | exact Drawn0.refl _ | apply Drawn0.step)⟩
    ·rw [if_neg c9] at H
     have c9b0 : ((IntKind.u64.wrap (t309 + t306)) == (IntKind.u64.wrap (a1 * 4294967296))) = false := beq_eq_false_iff_ne.mpr c9
     have c9b1 : ((IntKind.u64.wrap (t309 + t306)) != (IntKind.u64.wrap (a1 * 4294967296))) = true := bne_iff_ne.mpr c9
     obtain rfl := Option.some.inj H
     go_enter Try.func115, Try.ntmps115
     go_wp2_with (first | ((with_reducible refine gate_callee (f := 118) rfl ?_); refine goesL_ (some 14) rfl rfl Try.func118 (by kernel_rfl) rfl #[.int .u64 a0, .int .u64 a0] rfl (by (try simp only [List.map_toArray, List.map_cons, List.map_nil]); first | done | rfl | (simp only [List.length_drop, List.length_take]; rfl)) ?_; (with_reducible refine (strongroomref02_product.calls a0 a0 t304 t305 _ A3.out).mono ?_); rintro e w' ⟨rfl, ⟨nd, rfl⟩⟩; refine ⟨_, rfl, ?_⟩) | ((with_reducible refine gate_callee (f := 118) rfl ?_); refine goesL_ (some 20) rfl rfl Try.func118 (by kernel_rfl) rfl #[.int .u64 t305, .int .u64 a0] rfl (by (try simp only [List.map_toArray, List.map_cons, List.map_nil]); first | done | rfl | (simp only [List.length_drop, List.length_take]; rfl)) ?_; (with_reducible refine (strongroomref02_product.calls t305 a0 t306 t307 _ A4.out).mono ?_); rintro e w' ⟨rfl, ⟨nd, rfl⟩⟩; refine ⟨_, rfl, ?_⟩) | ((with_reducible refine gate_callee (f := 118) rfl ?_); refine goesL_ (some 26) rfl rfl Try.func118 (by kernel_rfl) rfl #[.int .u64 t304, .int .u64 a0] rfl (by (try simp only [List.map_toArray, List.map_cons, List.map_nil]); first | done | rfl | (simp only [List.length_drop, List.length_take]; rfl)) ?_; (with_reducible refine (strongroomref02_product.calls t304 a0 t308 t309 _ A5.out).mono ?_); rintro e w' ⟨rfl, ⟨nd, rfl⟩⟩; refine ⟨_, rfl, ?_⟩))
     go_ret
     exact ⟨by first | rfl | (simp; done) | (simp [*]; done), by repeat (first | exact Drawn0.refl _ | apply Drawn0.step)⟩
end Go.Proofs.Ytcdnmlfnfhoieaa.A

namespace Go.Proofs.Ytcdnmlfnfhoieaa.A
open Go.RowKit Go.Proofs.YtcdnmlfnfhoieaaW.PrintWords Go.Proofs.YtcdnmlfnfhoieaaW.PrintLast Go.Proofs.YtcdnmlfnfhoieaaW.PrintMore
attribute [local go_sem] max2_int min2_int max_two min_two max_three min_three max_four min_four
set_option linter.unusedVariables false
set_option linter.unusedSimpArgs false
/-! ### strongroomref02_below: function 116 -/
def strongroomref02_below.f (a0 : Int) (a1 : Int) : Option (Bool) := (strongroomref02_product.f a0 a0).bind fun bt310 => (if bt310.1 < a1 then (some true) else (if bt310.1 = a1 then (some (bt310.2 == 0)) else (some false)))
set_option maxHeartbeats 8000000 in
set_option maxRecDepth 100000 in
theorem strongroomref02_below.calls (a0 : Int) (a1 : Int) (r : Bool) (w : World) (h : strongroomref02_below.f a0 a1 = some r) :
  Calls Try.prog 116 #[.int .u64 a0, .int .u64 a1] w fun e w' => e = .returned (.bool r) ∧ Drawn0 w w' := by
 have H : ((strongroomref02_product.f a0 a0).bind fun bt310 => (if bt310.1 < a1 then (some true) else (if bt310.1 = a1 then (some (bt310.2 == 0)) else (some false)))) = some r := h
 clear h
 replace H := Option.bind_eq_some_iff.mp H
 obtain ⟨⟨t310, t311⟩, A30, H⟩ := H
 replace H : (if t310 < a1 then (some true) else (if t310 = a1 then (some (t311 == 0)) else (some false))) = some r := H
 have A3 := Aside0.mk A30
 clear A30
 by_cases c4 : t310 < a1
 ·rw [if_pos c4] at H
  have c4b0 : decide (t310 < a1) = true := decide_eq_true c4
  clear c4
  obtain rfl := Option.some.inj H
  go_enter Try.func116, Try.ntmps116
  go_wp2_with (first | ((with_reducible refine gate_callee (f := 118) rfl ?_); refine goesL_ (some 10) rfl rfl Try.func118 (by kernel_rfl) rfl #[.int .u64 a0, .int .u64 a0] rfl (by (try simp only [List.map_toArray, List.map_cons, List.map_nil]); first | done | rfl | (simp only [List.length_drop, List.length_take]; rfl)) ?_; (with_reducible refine (strongroomref02_product.calls a0 a0 t310 t311 _ A3.out).mono ?_); rintro e w' ⟨rfl, ⟨nd, rfl⟩⟩; refine ⟨_, rfl, ?_⟩))
  go_ret
  exact ⟨by first | rfl | (simp; done) | (simp [*]; done), by repeat (first | exact Drawn0.refl _ | apply Drawn0.step)⟩
 ·rw [if_neg c4] at H
  have c4b0 : decide (t310 < a1) = false := decide_eq_false c4
  clear c4
  by_cases c5 : t310 = a1
  ·rw [if_pos c5] at H
   have c5b0 : (t310 == a1) = true := beq_iff_eq.mpr c5
   have c5b1 : (t310 != a1) = false := bne_eq_false_iff_eq.mpr c5
   clear c5
   obtain rfl := Option.some.inj H
   go_enter Try.func116, Try.ntmps116
   go_wp2_with (first | ((with_reducible refine gate_callee (f := 118) rfl ?_); refine goesL_ (some 10) rfl rfl Try.func118 (by kernel_rfl) rfl #[.int .u64 a0, .int .u64 a0] rfl (by (try simp only [List.map_toArray, List.map_cons, List.map_nil]); first | done | rfl | (simp only [List.length_drop, List.length_take]; rfl)) ?_; (with_reducible refine (strongroomref02_product.calls a0 a0 t310 t311 _ A3.out).mono ?_); rintro e w' ⟨rfl, ⟨nd, rfl⟩⟩; refine ⟨_, rfl, ?_⟩))
   go_ret
   exact ⟨by first | rfl | (simp; done) | (simp [*]; done), by repeat (first | exact Drawn0.refl _ | apply Drawn0.step)⟩
  ·rw [if_neg c5] at H
   have c5b0 : (t310 == a1) = false := beq_eq_false_iff_ne.mpr c5
   have c5b1 : (t310 != a1) = true := bne_iff_ne.mpr c5
   obtain rfl := Option.some.inj H
   go_enter Try.func116, Try.ntmps116
   go_wp2_with (first | ((with_reducible refine gate_callee (f := 118) rfl ?_); refine goesL_ (some 10) rfl rfl Try.func118 (by kernel_rfl) rfl #[.int .u64 a0, .int .u64 a0] rfl (by (try simp only [List.map_toArray, List.map_cons, List.map_nil]); first | done | rfl | (simp only [List.length_drop, List.length_take]; rfl)) ?_; (with_reducible refine (strongroomref02_product.calls a0 a0 t310 t311 _ A3.out).mono ?_); rintro e w' ⟨rfl, ⟨nd, rfl⟩⟩; refine ⟨_, rfl, ?_⟩))
   go_ret
   exact ⟨by first | rfl | (simp; done) | (simp [*]; done), by repeat (first | exact Drawn0.refl _ | apply Drawn0.step)⟩
end Go.Proofs.Ytcdnmlfnfhoieaa.A

namespace Go.Proofs.Ytcdnmlfnfhoieaa.A
open Go.RowKit Go.Proofs.YtcdnmlfnfhoieaaW.PrintWords Go.Proofs.YtcdnmlfnfhoieaaW.PrintLast Go.Proofs.YtcdnmlfnfhoieaaW.PrintMore
attribute [local go_sem] max2_int min2_int max_two min_two max_three min_three max_four min_four
set_option linter.unusedVariables false
set_option linter.unusedSimpArgs false
/-! ### strongroomref02_Root: function 110 -/
mutual
def strongroomref02_Root.j0 : Nat → Int → Bool → Int → Int → Option (Int)
 | 0, _, _, _, _ => none
 | k + 1, x0, x1, x5, x6 => strongroomref02_Root.l0 k x0 x1 x5 x6
def strongroomref02_Root.l0 : Nat → Int → Bool → Int → Int → Option (Int)
 | 0, _, _, _, _ => none
 | k + 1, x0, x1, x5, x6 => if x6 > 0 then (if x1 = true then ((strongroomref02_cubeBelow.f (IntKind.u64.wrap (x5 + x6)) (IntKind.u64.wrap (x0))).bind fun t312 => (if t312 = true then (strongroomref02_Root.l0 k x0 x1 (IntKind.u64.wrap (x5 + x6)) (IntKind.u64.wrap (Int.tdiv x6 2))) else (strongroomref02_Root.l0 k x0 x1 x5 (IntKind.u64.wrap (Int.tdiv x6 2))))) else ((strongroomref02_below.f (IntKind.u64.wrap (x5 + x6)) (IntKind.u64.wrap (x0))).bind fun t313 => (if t313 = true then (strongroomref02_Root.l0 k x0 x1 (IntKind.u64.wrap (x5 + x6)) (IntKind.u64.wrap (Int.tdiv x6 2))) else (strongroomref02_Root.l0 k x0 x1 x5 (IntKind.u64.wrap (Int.tdiv x6 2)))))) else (some ((Int.tmod x5 4294967296) % 4294967296))
end
def strongroomref02_Root.f (k : Nat) (a0 : Int) (a1 : Bool) : Option (Int) := if a1 = true then (strongroomref02_Root.j0 k a0 a1 0 4398046511104) else (strongroomref02_Root.j0 k a0 a1 0 281474976710656)
theorem strongroomref02_Root.mono_l : ∀ k, (∀ y0 y1 y2 y3, LeO (strongroomref02_Root.j0 k y0 y1 y2 y3) (strongroomref02_Root.j0 (k + 1) y0 y1 y2 y3)) ∧ (∀ y0 y1 y2 y3, LeO (strongroomref02_Root.l0 k y0 y1 y2 y3) (strongroomref02_Root.l0 (k + 1) y0 y1 y2 y3))
 | 0 => ⟨fun _ _ _ _ r h => by simp [strongroomref02_Root.j0] at h, fun _ _ _ _ r h => by simp [strongroomref02_Root.l0] at h⟩
 | k + 1 => by
  obtain ⟨ih0, ih1⟩ := strongroomref02_Root.mono_l k
  refine ⟨?_, ?_⟩
  ·intro y0 y1 y2 y3
   unfold strongroomref02_Root.j0
   repeat' first
   | (with_reducible exact ih0 _ _ _ _)
   | (with_reducible exact ih1 _ _ _ _)
   | (with_reducible exact LeO.refl _)
   | (with_reducible exact LeO.none _)
   | (with_reducible refine LeO.ite ?_ ?_)
   | (with_reducible refine LeO.bind ?_ (fun _ => ?_))
   | exact ih0 _ _ _ _
   | exact ih1 _ _ _ _
   | exact LeO.none _
   | refine LeO.ite ?_ ?_
   | refine LeO.bind ?_ (fun _ => ?_)
  ·intro y0 y1 y2 y3
   unfold strongroomref02_Root.l0
   repeat' first
   | (with_reducible exact ih0 _ _ _ _)
   | (with_reducible exact ih1 _ _ _ _)
   | (with_reducible exact LeO.refl _)
   | (with_reducible exact LeO.none _)
   | (with_reducible refine LeO.ite ?_ ?_)
   | (with_reducible refine LeO.bind ?_ (fun _ => ?_))
   | exact ih0 _ _ _ _
   | exact ih1 _ _ _ _
   | exact LeO.none _
   | refine LeO.ite ?_ ?_
   | refine LeO.bind ?_ (fun _ => ?_)
theorem strongroomref02_Root.mono : ∀ a0 a1 k, LeO (strongroomref02_Root.f k a0 a1) (strongroomref02_Root.f (k + 1) a0 a1) := by
 intro a0 a1 k
 obtain ⟨ih0, ih1⟩ := strongroomref02_Root.mono_l k
 unfold strongroomref02_Root.f
 repeat' first
   | (with_reducible exact ih0 _ _ _ _)
   | (with_reducible exact ih1 _ _ _ _)
   | (with_reducible exact LeO.refl _)
   | (with_reducible exact LeO.none _)
   | (with_reducible refine LeO.ite ?_ ?_)
   | (with_reducible refine LeO.bind ?_ (fun _ => ?_))
   | exact ih0 _ _ _ _
   | exact ih1 _ _ _ _
   | exact LeO.none _
   | refine LeO.ite ?_ ?_
   | refine LeO.bind ?_ (fun _ => ?_)
set_option maxHeartbeats 8000000 in
set_option maxRecDepth 100000 in
theorem strongroomref02_Root.calls (k : Nat) (a0 : Int) (a1 : Bool) (r : Int) (w : World) (h : strongroomref02_Root.f k a0 a1 = some r) :
  Calls Try.prog 110 #[.int .u32 a0, .bool a1] w fun e w' => e = .returned (.int .u32 r) ∧ Drawn0 w w' := by
 have H : (if a1 = true then (strongroomref02_Root.j0 k a0 a1 0 4398046511104) else (strongroomref02_Root.j0 k a0 a1 0 281474976710656)) = some r := h
 clear h
 have HC3 := Aside0.mk H
 clear H
 go_enter Try.func110, Try.ntmps110
 go_upto_if 8 with (fail)
 go_cut [6] (fun v6 wc => ∃ (kq : Nat) (x6_2 : Int), v6 = .int .u64 x6_2 ∧ Aside0 (strongroomref02_Root.j0 kq a0 a1 0 x6_2 = some r) ∧ Aside0 (kq ≤ k) ∧ Drawn0 w wc)
 case first =>
  have H := HC3.out
  clear HC3
  by_cases c4 : a1 = true
  ·subst c4
   have H1 : (strongroomref02_Root.j0 k a0 true 0 4398046511104) = some r := by rw [if_pos rfl] at H; exact H
   clear H
   have H := H1
   clear H1
   have H' := Aside0.mk H
   clear H
   go_wp2
   go_meet
   case rel => exact ⟨_, (4398046511104), (by first | rfl | (simp; done) | (simp [*]; done)), H', ⟨by first | omega | exact Nat.le_refl _⟩, by repeat (first | exact Drawn0.refl _ | apply Drawn0.step)⟩
  ·replace c4 := Bool.eq_false_iff.mpr c4
   subst c4
   have H1 : (strongroomref02_Root.j0 k a0 false 0 281474976710656) = some r := by rw [if_neg (show ¬ (false = true) by decide)] at H; exact H
   clear H
   have H := H1
   clear H1
   have H' := Aside0.mk H
   clear H
   go_wp2
   go_meet
   case rel => exact ⟨_, (281474976710656), (by first | rfl | (simp; done) | (simp [*]; done)), H', ⟨by first | omega | exact Nat.le_refl _⟩, by repeat (first | exact Drawn0.refl _ | apply Drawn0.step)⟩
 case rest =>
  clear HC3
  try clear c1
  try clear p2
  try clear c4
  obtain ⟨kq, x6_2, rfl, HA, HJ2, ⟨mc2, rfl⟩⟩ := hcut
  cases kq with
  | zero => exact absurd HA.out (by simp [strongroomref02_Root.j0])
  | succ kj2 =>
   have H := HA.out
   clear HA
   simp only [strongroomref02_Root.j0] at H
   have H' := Aside0.mk H
   clear H
   go_wp2
   go_loopg [5, 6] kj2 (fun kq v5 v6 w' => ∃ (x5_2 : Int) (x6_2 : Int), v5 = .int .u64 x5_2 ∧ v6 = .int .u64 x6_2 ∧ Aside0 (strongroomref02_Root.l0 kq a0 a1 x5_2 x6_2 = some r) ∧ Aside0 (kq ≤ kj2) ∧ Drawn0 w w')
   case atStart => exact ⟨(0), (x6_2), (by first | rfl | (simp; done) | (simp [*]; done)), (by first | rfl | (simp; done) | (simp [*]; done)), H', ⟨Nat.le_refl _⟩, by repeat (first | exact Drawn0.refl _ | apply Drawn0.step)⟩
   case round =>
    clear H'
    try clear c1
    try clear c2
    try clear p2
    try clear c4
    try clear p2
    obtain ⟨x5_2, x6_2, rfl, rfl, HA, HK2, ⟨m2, rfl⟩⟩ := hrel
    cases gk with
    | zero => exact absurd HA.out (by simp [strongroomref02_Root.l0])
    | succ k2 =>
     have H := HA.out
     clear HA
     simp only [strongroomref02_Root.l0] at H
     by_cases c5 : x6_2 > 0
     ·rw [if_pos c5] at H
      have c5b0 : decide (0 < x6_2) = true := decide_eq_true c5
      clear c5
      by_cases c6 : a1 = true
      ·subst c6
       have H1 : ((strongroomref02_cubeBelow.f (IntKind.u64.wrap (x5_2 + x6_2)) (IntKind.u64.wrap (a0))).bind fun t312 => (if t312 = true then (strongroomref02_Root.l0 k2 a0 true (IntKind.u64.wrap (x5_2 + x6_2)) (IntKind.u64.wrap (Int.tdiv x6_2 2))) else (strongroomref02_Root.l0 k2 a0 true x5_2 (IntKind.u64.wrap (Int.tdiv x6_2 2))))) = some r := by rw [if_pos rfl] at H; exact H
       clear H
       have H := H1
       clear H1
       replace H := Option.bind_eq_some_iff.mp H
       obtain ⟨t312, A70, H⟩ := H
       replace H : (if t312 = true then (strongroomref02_Root.l0 k2 a0 true (IntKind.u64.wrap (x5_2 + x6_2)) (IntKind.u64.wrap (Int.tdiv x6_2 2))) else (strongroomref02_Root.l0 k2 a0 true x5_2 (IntKind.u64.wrap (Int.tdiv x6_2 2)))) = some r := H
       have A7 := Aside0.mk A70
       clear A70
       by_cases c8 : t312 = true
       ·subst c8
        have H1 : (strongroomref02_Root.l0 k2 a0 true (IntKind.u64.wrap (x5_2 + x6_2)) (IntKind.u64.wrap (Int.tdiv x6_2 2))) = some r := by rw [if_pos rfl] at H; exact H
        clear H
        have H := H1
        clear H1
        have H' := Aside0.mk H
        clear H
        go_wp2_with (first | ((with_reducible refine gate_callee (f := 115) rfl ?_); refine goesL_ (some 19) rfl rfl Try.func115 (by kernel_rfl) rfl #[.int .u64 (IntKind.u64.wrap (x5_2 + x6_2)), .int .u64 (IntKind.u64.wrap (a0))] rfl (by (try simp only [List.map_toArray, List.map_cons, List.map_nil]); first | done | rfl | (simp only [List.length_drop, List.length_take]; rfl)) ?_; (with_reducible refine (strongroomref02_cubeBelow.calls (IntKind.u64.wrap (x5_2 + x6_2)) (IntKind.u64.wrap (a0)) true _ A7.out).mono ?_); rintro e w' ⟨rfl, ⟨nd, rfl⟩⟩; refine ⟨_, rfl, ?_⟩))
        go_roundg k2
        case measure => have := HJ2.out; have := HK2.out; omega
        case rel => exact ⟨(IntKind.u64.wrap (x5_2 + x6_2)), (IntKind.u64.wrap (Int.tdiv x6_2 2)), (by first | rfl | (simp; done) | (simp [*]; done)), (by first | rfl | (simp; done) | (simp [*]; done)), H', ⟨by have := HJ2.out; have := HK2.out; omega⟩, by repeat (first | exact Drawn0.refl _ | apply Drawn0.step)⟩
       ·replace c8 := Bool.eq_false_iff.mpr c8
        subst c8
        have H1 : (strongroomref02_Root.l0 k2 a0 true x5_2 (IntKind.u64.wrap (Int.tdiv x6_2 2))) = some r := by rw [if_neg (show ¬ (false = true) by decide)] at H; exact H
        clear H
        have H := H1
        clear H1
        have H' := Aside0.mk H
        clear H
        go_wp2_with (first | ((with_reducible refine gate_callee (f := 115) rfl ?_); refine goesL_ (some 19) rfl rfl Try.func115 (by kernel_rfl) rfl #[.int .u64 (IntKind.u64.wrap (x5_2 + x6_2)), .int .u64 (IntKind.u64.wrap (a0))] rfl (by (try simp only [List.map_toArray, List.map_cons, List.map_nil]); first | done | rfl | (simp only [List.length_drop, List.length_take]; rfl)) ?_; (with_reducible refine (strongroomref02_cubeBelow.calls (IntKind.u64.wrap (x5_2 + x6_2)) (IntKind.u64.wrap (a0)) false _ A7.out).mono ?_); rintro e w' ⟨rfl, ⟨nd, rfl⟩⟩; refine ⟨_, rfl, ?_⟩))
        go_roundg k2
        case measure => have := HJ2.out; have := HK2.out; omega
        case rel => exact ⟨(x5_2), (IntKind.u64.wrap (Int.tdiv x6_2 2)), (by first | rfl | (simp; done) | (simp [*]; done)), (by first | rfl | (simp; done) | (simp [*]; done)), H', ⟨by have := HJ2.out; have := HK2.out; omega⟩, by repeat (first | exact Drawn0.refl _ | apply Drawn0.step)⟩
      ·replace c6 := Bool.eq_false_iff.mpr c6
       subst c6
       have H1 : ((strongroomref02_below.f (IntKind.u64.wrap (x5_2 + x6_2)) (IntKind.u64.wrap (a0))).bind fun t313 => (if t313 = true then (strongroomref02_Root.l0 k2 a0 false (IntKind.u64.wrap (x5_2 + x6_2)) (IntKind.u64.wrap (Int.tdiv x6_2 2))) else (strongroomref02_Root.l0 k2 a0 false x5_2 (IntKind.u64.wrap (Int.tdiv x6_2 2))))) = some r := by rw [if_neg (show ¬ (false = true) by decide)] at H; exact H
       clear H
       have H := H1
       clear H1
       replace H := Option.bind_eq_some_iff.mp H
       obtain ⟨t313, A90, H⟩ := H
       replace H : (if t313 = true then (strongroomref02_Root.l0 k2 a0 false (IntKind.u64.wrap (x5_2 + x6_2)) (IntKind.u64.wrap (Int.tdiv x6_2 2))) else (strongroomref02_Root.l0 k2 a0 false x5_2 (IntKind.u64.wrap (Int.tdiv x6_2 2)))) = some r := H
       have A9 := Aside0.mk A90
       clear A90
       by_cases c10 : t313 = true
       ·subst c10
        have H1 : (strongroomref02_Root.l0 k2 a0 false (IntKind.u64.wrap (x5_2 + x6_2)) (IntKind.u64.wrap (Int.tdiv x6_2 2))) = some r := by rw [if_pos rfl] at H; exact H
        clear H
        have H := H1
        clear H1
        have H' := Aside0.mk H
        clear H
        go_wp2_with (first | ((with_reducible refine gate_callee (f := 116) rfl ?_); refine goesL_ (some 25) rfl rfl Try.func116 (by kernel_rfl) rfl #[.int .u64 (IntKind.u64.wrap (x5_2 + x6_2)), .int .u64 (IntKind.u64.wrap (a0))] rfl (by (try simp only [List.map_toArray, List.map_cons, List.map_nil]); first | done | rfl | (simp only [List.length_drop, List.length_take]; rfl)) ?_; (with_reducible refine (strongroomref02_below.calls (IntKind.u64.wrap (x5_2 + x6_2)) (IntKind.u64.wrap (a0)) true _ A9.out).mono ?_); rintro e w' ⟨rfl, ⟨nd, rfl⟩⟩; refine ⟨_, rfl, ?_⟩))
        go_roundg k2
        case measure => have := HJ2.out; have := HK2.out; omega
        case rel => exact ⟨(IntKind.u64.wrap (x5_2 + x6_2)), (IntKind.u64.wrap (Int.tdiv x6_2 2)), (by first | rfl | (simp; done) | (simp [*]; done)), (by first | rfl | (simp; done) | (simp [*]; done)), H', ⟨by have := HJ2.out; have := HK2.out; omega⟩, by repeat (first | exact Drawn0.refl _ | apply Drawn0.step)⟩
       ·replace c10 := Bool.eq_false_iff.mpr c10
        subst c10
        have H1 : (strongroomref02_Root.l0 k2 a0 false x5_2 (IntKind.u64.wrap (Int.tdiv x6_2 2))) = some r := by rw [if_neg (show ¬ (false = true) by decide)] at H; exact H
        clear H
        have H := H1
        clear H1
        have H' := Aside0.mk H
        clear H
        go_wp2_with (first | ((with_reducible refine gate_callee (f := 116) rfl ?_); refine goesL_ (some 25) rfl rfl Try.func116 (by kernel_rfl) rfl #[.int .u64 (IntKind.u64.wrap (x5_2 + x6_2)), .int .u64 (IntKind.u64.wrap (a0))] rfl (by (try simp only [List.map_toArray, List.map_cons, List.map_nil]); first | done | rfl | (simp only [List.length_drop, List.length_take]; rfl)) ?_; (with_reducible refine (strongroomref02_below.calls (IntKind.u64.wrap (x5_2 + x6_2)) (IntKind.u64.wrap (a0)) false _ A9.out).mono ?_); rintro e w' ⟨rfl, ⟨nd, rfl⟩⟩; refine ⟨_, rfl, ?_⟩))
        go_roundg k2
        case measure => have := HJ2.out; have := HK2.out; omega
        case rel => exact ⟨(x5_2), (IntKind.u64.wrap (Int.tdiv x6_2 2)), (by first | rfl | (simp; done) | (simp [*]; done)), (by first | rfl | (simp; done) | (simp [*]; done)), H', ⟨by have := HJ2.out; have := HK2.out; omega⟩, by repeat (first | exact Drawn0.refl _ | apply Drawn0.step)⟩
     ·rw [if_neg c5] at H
      have c5b0 : decide (0 < x6_2) = false := decide_eq_false c5
      clear c5
      obtain rfl := Option.some.inj H
      go_wp2
      go_ret
      exact ⟨by first | rfl | (simp; done) | (simp [*]; done), by repeat (first | exact Drawn0.refl _ | apply Drawn0.step)⟩
end Go.Proofs.Ytcdnmlfnfhoieaa.A

/- strongroomref02.Words: the same 64 words, walked. No condition. -/
namespace Go.Proofs.Ytcdnmlfnfhoieaa.A
open Go.RowKit Go.Proofs.YtcdnmlfnfhoieaaW.PrintWords Go.Proofs.YtcdnmlfnfhoieaaW.PrintLast Go.Proofs.YtcdnmlfnfhoieaaW.PrintMore Go.Proofs.Ytcdnmlfnfhoieaa.Bs
set_option linter.unusedVariables false
set_option linter.unusedSimpArgs false
def wordsL : Nat → Nat → Int → List Int → Option (List Int)
 | 0, _, _, _ => none
 | k + 1, n, p, K => if n < 64 then (strongroomref02_whole.f k p).bind fun b => if b then (strongroomref02_Root.f k p true).bind fun r => wordsL k (n + 1) ((p + 1) % 4294967296) (K.set n r) else wordsL k n ((p + 1) % 4294967296) K else some K
set_option maxRecDepth 100000 in
theorem words_some : wordsL 700 0 2 (List.replicate 64 0) = some K64 := by kernel_rfl
set_option maxHeartbeats 1000000 in
set_option maxRecDepth 100000 in
theorem strongroomref02_Words.calls (w : World) : Calls Try.prog 109 #[] w fun e w' => e = .returned (.agg (cs32 K64)) ∧ Below w.heap.size w w' := by
 have hK := words_some
 have hk4 : (700 : Nat) ≤ 700 := Nat.le_refl _
 generalize K64 = KR at hK ⊢
 generalize hkk : (700 : Nat) = kk at hK
 have HK := Aside0.mk hK
 clear hK hkk
 have hu106 := Try.underlying106
 go_enter Try.func109, Try.ntmps109
 go_upto_region 2 with (first | ((with_reducible refine gate_dst (N := 0) rfl ?_); refine box_event ?hg (N := 0) ?hd (cs := cs32 (List.replicate 64 0)) (t := 106) ?hr ?_; (case hd => rfl); (case hg => rfl); (case hr => first | (go_simp; done) | (go_simp; rfl)); intro g0 hg0 w0 hb0 hbel0; have HG0 := Aside0.mk hg0; have HB0 := Aside0.mk hb0; have HL0 := Aside0.mk hbel0; clear hg0 hb0 hbel0) | ((with_reducible refine gate_dst (N := 1) rfl ?_); refine box_event ?hg (N := 1) ?hd (cs := cs32 (List.replicate 64 0)) (t := 106) ?hr ?_; (case hd => rfl); (case hg => rfl); (case hr => first | (go_simp; done) | (go_simp; rfl)); intro g1 hg1 w1 hb1 hbel1; have HG1 := Aside0.mk hg1; have HB1 := Aside0.mk hb1; have HL1 := Aside0.mk hbel1; clear hg1 hb1 hbel1))
 have HS0 : Aside0 (w1.heap[g0]? = some (.cells (cs32 (List.replicate 64 0)) 106 (0, 0))) := ⟨blk_below HB0.out HL1.out⟩
 have HL : Aside0 (Below w.heap.size w w1) := ⟨below_step HL0.out HL1.out⟩
 have HGE0 : Aside0 (w.heap.size ≤ g0) := ⟨by rw [HG0.out]; exact Nat.le_refl _⟩
 have HGE1 : Aside0 (w.heap.size ≤ g1) := ⟨by rw [HG1.out]; exact below_size HL0.out⟩
 have HNE : Aside0 (g0 ≠ g1) := ⟨by rw [HG1.out]; exact Nat.ne_of_lt (blk_lt HB0.out)⟩
 clear HB0 HL0 HL1 HG0 HG1
 go_wp2
 go_loopg [2, 3] kk (fun kq v2 v3 w' => ∃ (n : Nat) (p : Int) (K : List Int), v2 = .int .i64 n ∧ v3 = .int .u32 p ∧ Aside0 (wordsL kq n p K = some KR) ∧ Aside0 (K.length = 64) ∧ Aside0 (w'.heap[g0]? = some (.cells (cs32 (List.replicate 64 0)) 106 (0, 0))) ∧ Aside0 (w'.heap[g1]? = some (.cells (cs32 K) 106 (0, 0))) ∧ Aside0 (Below w.heap.size w w'))
 case atStart => exact ⟨0, 2, _, rfl, rfl, HK, ⟨by simp⟩, HS0, HB1, HL⟩
 case round =>
  clear HK HS0 HB1 HL
  obtain ⟨n, p, K, rfl, rfl, HK, HLEN, HS0, HB1, HL⟩ := hrel
  cases gk with
  | zero => exact absurd HK.out (by simp [wordsL])
  | succ k =>
   have H := HK.out
   clear HK
   simp only [wordsL] at H
   by_cases hn : n < 64
   ·rw [if_pos hn] at H
    have hn1 : decide ((n : Int) < 64) = true := decide_eq_true (by omega)
    obtain ⟨b, hb, H⟩ := Option.bind_eq_some_iff.mp H
    have HW := Aside0.mk hb
    have HN := Aside0.mk hn
    clear hb hn
    have HH := Aside0.mk H
    clear H
    go_wp2_with fail
    refine (strongroomref02_whole.calls k p b _ HW.out).mono ?_
    rintro e w2 ⟨rfl, ⟨nw, rfl⟩⟩
    replace HS0 : Aside0 ((wr.drewN nw).heap[g0]? = some (.cells (cs32 (List.replicate 64 0)) 106 (0, 0))) := ⟨blk_drewN HS0.out nw⟩
    replace HB1 : Aside0 ((wr.drewN nw).heap[g1]? = some (.cells (cs32 K) 106 (0, 0))) := ⟨blk_drewN HB1.out nw⟩
    replace HL : Aside0 (Below w.heap.size w (wr.drewN nw)) := ⟨pw_below_drewN HL.out nw⟩
    clear HW
    generalize wr.drewN nw = wr at HS0 HB1 HL ⊢
    have H := HH.out
    clear HH
    cases b with
    | true =>
     rw [if_pos rfl] at H
     obtain ⟨r, hr, H⟩ := Option.bind_eq_some_iff.mp H
     have HR := Aside0.mk hr
     clear hr
     have H' := Aside0.mk H
     clear H
     have f1 : ∀ i, wr.frozen? ⟨g1, i, none⟩ = false := fun i => blk_frozen HB1.out i
     have c1 : wr.cell? ⟨g1, n, none⟩ = some (.int .u32 (K.getD n 0)) := by rw [blk_cell HB1.out n]; exact cs32_get K n (by rw [HLEN.out]; exact HN.out)
     have hp := eq_true (show (0 : Int) ≤ (n : Int) by omega)
     have hq := eq_true (show (n : Int) < 64 by have := HN.out; omega)
     go_wp2_with fail
     refine (strongroomref02_Root.calls k p true r _ HR.out).mono ?_
     rintro e w2 ⟨rfl, ⟨nd, rfl⟩⟩
     go_wp2
     go_roundg k
     case measure => omega
     case rel => exact ⟨n + 1, (p + 1) % 4294967296, K.set n r, (by have := HN.out; show Value.int .i64 (wrap64 ((n : Int) + 1)) = _; rw [wrap64_id _ (by omega) (by omega)]; rfl), (by first | rfl | (simp; done) | (simp [*]; done)), H', ⟨by rw [List.length_set]; exact HLEN.out⟩, ⟨blk_far (blk_drewN HS0.out nd) HNE.out _⟩, ⟨by rw [← cs32_set]; exact blk_set (blk_drewN HB1.out nd) n _⟩, ⟨below_set (pw_below_drewN HL.out nd) HGE1.out⟩⟩
    | false =>
     rw [if_neg (by simp)] at H
     have H' := Aside0.mk H
     clear H
     go_wp2
     go_roundg k
     case measure => omega
     case rel => exact ⟨n, (p + 1) % 4294967296, K, rfl, (by first | rfl | (simp; done) | (simp [*]; done)), H', HLEN, HS0, HB1, HL⟩
   ·rw [if_neg hn] at H
    have hn1 : decide ((n : Int) < 64) = false := decide_eq_false (by omega)
    clear hn
    obtain rfl := Option.some.inj H
    clear H
    have HI : Aside0 ((Try.prog.info? 106).map (·.size) = some (cs32 K).size) := ⟨by rw [cs32_size, HLEN.out]; kernel_rfl⟩
    have HO : Aside0 ((cs32 (List.replicate 64 0)).size = (cs32 K).size) := ⟨by rw [cs32_size, cs32_size, HLEN.out]; simp⟩
    have HA : Aside0 ((cs32 K).all (·.oneCell') = true) := ⟨cs32_all K⟩
    go_wp2_with (first | ((with_reducible refine gate_dst (N := 16) rfl ?_); refine wpList_load_row rfl 106 (.tmp 1) rfl g1 rfl 106 (cs32 K) (0, 0) _ HB1.out hu106 rfl HI.out ?_) | (refine gate_ (.store 106 (.tmp 0) (.tmp 16)) rfl ?_; refine wpList_store_row rfl 106 (.tmp 0) (.tmp 16) rfl g0 (cs32 K) rfl rfl 106 _ HS0.out HI.out HO.out HA.out ?_))
    refine bodyPost_ret_by (results_cell_row rfl _ _ g0 106 (cs32 K) (0, 0) _ rfl (setRow_heap _ _ _ _ _ _ HS0.out) hu106 rfl HI.out) rfl ?_
    exact ⟨rfl, HL.out.trans (below_setRow HGE0.out)⟩
end Go.Proofs.Ytcdnmlfnfhoieaa.A

namespace Go.Proofs.Ytcdnmlfnfhoieaa.A
open Go.RowKit Go.Proofs.YtcdnmlfnfhoieaaW.PrintWords Go.Proofs.YtcdnmlfnfhoieaaW.PrintLast Go.Proofs.YtcdnmlfnfhoieaaW.PrintMore
attribute [local go_sem] max2_int min2_int max_two min_two max_three min_three max_four min_four
set_option linter.unusedVariables false
set_option linter.unusedSimpArgs false
/-! ### strongroomref02_turn: function 117 -/
def strongroomref02_turn.f (a0 : Int) (a1 : Int) : Option (Int) := if 0 ≤ a1 then (if 0 ≤ (IntKind.u64.wrap (32 - a1)) then (some (Go.bits .or .u32 (shr .u32 a0 a1) (shl .u32 a0 (IntKind.u64.wrap (32 - a1))))) else (none)) else (none)
set_option maxHeartbeats 8000000 in
set_option maxRecDepth 100000 in
theorem strongroomref02_turn.calls (a0 : Int) (a1 : Int) (r : Int) (w : World) (h : strongroomref02_turn.f a0 a1 = some r) :
  Calls Try.prog 117 #[.int .u32 a0, .int .u64 a1] w fun e w' => e = .returned (.int .u32 r) ∧ Drawn0 w w' := by
 have H : (if 0 ≤ a1 then (if 0 ≤ (IntKind.u64.wrap (32 - a1)) then (some (Go.bits .or .u32 (shr .u32 a0 a1) (shl .u32 a0 (IntKind.u64.wrap (32 - a1))))) else (none)) else (none)) = some r := h
 clear h
 by_cases c3 : 0 ≤ a1
 ·rw [if_pos c3] at H
  have c3b0 := eq_true c3
  have c3b1 : decide (0 ≤ a1) = true := decide_eq_true c3
  clear c3
  obtain ⟨ji4, hji4⟩ : ∃ j_ : Int, (shr .u32 a0 a1) = j_ := ⟨_, rfl⟩
  replace H : (if 0 ≤ (IntKind.u64.wrap (32 - a1)) then (some (Go.bits .or .u32 (ji4) (shl .u32 a0 (IntKind.u64.wrap (32 - a1))))) else (none)) = some r := by first | (rw [hji4] at H; exact H) | (simp only [hji4] at H ⊢; exact H)
  have hji4_ : (a0 / 2 ^ min a1.toNat 32) = ji4 := hji4
  have hji4z : a1 ≤ 32 → (a0 / 2 ^ a1.toNat) = ji4 := shr_small hji4
  obtain ⟨ji5, hji5⟩ : ∃ j_ : Int, (IntKind.u64.wrap (32 - a1)) = j_ := ⟨_, rfl⟩
  replace H : (if 0 ≤ (ji5) then (some (Go.bits .or .u32 (ji4) (shl .u32 a0 (ji5)))) else (none)) = some r := by first | (rw [hji5] at H; exact H) | (simp only [hji5] at H ⊢; exact H)
  by_cases c6 : 0 ≤ (ji5)
  ·rw [if_pos c6] at H
   have c6b0 := eq_true c6
   have c6b1 : decide (0 ≤ (ji5)) = true := decide_eq_true c6
   clear c6
   obtain ⟨ji7, hji7⟩ : ∃ j_ : Int, (shl .u32 a0 (ji5)) = j_ := ⟨_, rfl⟩
   replace H : (some (Go.bits .or .u32 (ji4) (ji7))) = some r := by first | (rw [hji7] at H; exact H) | (simp only [hji7] at H ⊢; exact H)
   have hji7_ : (IntKind.u32.wrap (a0 * 2 ^ min (ji5).toNat 32)) = ji7 := hji7
   have hji7z : (ji5) ≤ 32 → (IntKind.u32.wrap (a0 * 2 ^ (ji5).toNat)) = ji7 := shl_small hji7
   obtain rfl := Option.some.inj H
   go_enter Try.func117, Try.ntmps117
   go_wp2
   go_ret
   exact ⟨by first | rfl | (simp; done) | (simp only [← hji4, ← hji5, ← hji7] <;> (first | rfl | simp)) | (simp [*]; done), by repeat (first | exact Drawn0.refl _ | apply Drawn0.step)⟩
  ·rw [if_neg c6] at H
   exact absurd H (by simp)
 ·rw [if_neg c3] at H
  exact absurd H (by simp)
end Go.Proofs.Ytcdnmlfnfhoieaa.A

/- What strongroomref02.Mix reckons, plainly. -/
namespace Go.Proofs.Ytcdnmlfnfhoieaa.A
open Go.RowKit Go.Proofs.YtcdnmlfnfhoieaaW.PrintWords Go.Proofs.YtcdnmlfnfhoieaaW.PrintLast Go.Proofs.YtcdnmlfnfhoieaaW.PrintMore Go.Proofs.Ytcdnmlfnfhoieaa.Bs
def rturnP (x n : Int) : Int := Go.bits .or .u32 (shr .u32 x n) (shl .u32 x (IntKind.u64.wrap (32 - n)))
theorem rturn_some (x n : Int) (h1 : 0 ≤ n) (h2 : 0 ≤ IntKind.u64.wrap (32 - n)) : strongroomref02_turn.f x n = some (rturnP x n) := by
 unfold strongroomref02_turn.f
 rw [if_pos h1, if_pos h2]
 rfl
theorem rturn2 (x : Int) : strongroomref02_turn.f x 2 = some (rturnP x 2) := rturn_some x 2 (by decide +kernel) (by decide +kernel)
theorem rturn6 (x : Int) : strongroomref02_turn.f x 6 = some (rturnP x 6) := rturn_some x 6 (by decide +kernel) (by decide +kernel)
theorem rturn7 (x : Int) : strongroomref02_turn.f x 7 = some (rturnP x 7) := rturn_some x 7 (by decide +kernel) (by decide +kernel)
theorem rturn11 (x : Int) : strongroomref02_turn.f x 11 = some (rturnP x 11) := rturn_some x 11 (by decide +kernel) (by decide +kernel)
theorem rturn13 (x : Int) : strongroomref02_turn.f x 13 = some (rturnP x 13) := rturn_some x 13 (by decide +kernel) (by decide +kernel)
theorem rturn17 (x : Int) : strongroomref02_turn.f x 17 = some (rturnP x 17) := rturn_some x 17 (by decide +kernel) (by decide +kernel)
theorem rturn18 (x : Int) : strongroomref02_turn.f x 18 = some (rturnP x 18) := rturn_some x 18 (by decide +kernel) (by decide +kernel)
theorem rturn19 (x : Int) : strongroomref02_turn.f x 19 = some (rturnP x 19) := rturn_some x 19 (by decide +kernel) (by decide +kernel)
theorem rturn22 (x : Int) : strongroomref02_turn.f x 22 = some (rturnP x 22) := rturn_some x 22 (by decide +kernel) (by decide +kernel)
theorem rturn25 (x : Int) : strongroomref02_turn.f x 25 = some (rturnP x 25) := rturn_some x 25 (by decide +kernel) (by decide +kernel)
/-- A byte of a text, as_ a number. -/
def bAt (b : ByteArray) (i : Nat) : Int := ((b.data.getD i 0).toNat : Int)
theorem bAt_eq (b : ByteArray) (i : Nat) (h : i < b.size) : ((b[i]'h).toNat : Int) = bAt b i := by
 unfold bAt
 rw [show b.data.getD i 0 = b.data[i]'h by simp [Array.getD_eq_getD_getElem?, Array.getElem?_eq_getElem (show i < b.data.size from h)]]
 rfl
theorem bAt_ge (b : ByteArray) (i : Nat) : 0 ≤ bAt b i ∧ bAt b i < 256 := by
 unfold bAt
 have := (b.data.getD i 0).toNat_lt
 omega
def rwordP (b : ByteArray) (t : Nat) : Int := (bAt b (4 * t) * 16777216 + bAt b (4 * t + 1) * 65536 + bAt b (4 * t + 2) * 256 + bAt b (4 * t + 3)) % 4294967296
theorem rword_val {b : ByteArray} {t q q1 q2 q3 : Nat} (h : 4 * t = q ∧ q + 1 = q1 ∧ q + 2 = q2 ∧ q + 3 = q3) (h0 : q < b.size) (h1 : q1 < b.size) (h2 : q2 < b.size) (h3 : q3 < b.size) :
  (((b[q]'h0).toNat : Int) % 4294967296 * 16777216 + ((b[q1]'h1).toNat : Int) % 4294967296 * 65536 + ((b[q2]'h2).toNat : Int) % 4294967296 * 256 + ((b[q3]'h3).toNat : Int)) % 4294967296 = rwordP b t := by
 rw [bAt_eq, bAt_eq, bAt_eq, bAt_eq, rwordP]
 obtain ⟨rfl, rfl, rfl, rfl⟩ := h
 have a0 := bAt_ge b (4 * t)
 have a1 := bAt_ge b (4 * t + 1)
 have a2 := bAt_ge b (4 * t + 2)
 have a3 := bAt_ge b (4 * t + 3)
 rw [Int.emod_eq_of_lt a0.1 (by omega), Int.emod_eq_of_lt a1.1 (by omega), Int.emod_eq_of_lt a2.1 (by omega)]
def rlowP (x : Int) : Int := Go.bits .xor .u32 (Go.bits .xor .u32 (rturnP x 7) (rturnP x 18)) (x / 8)
def rhighP (x : Int) : Int := Go.bits .xor .u32 (Go.bits .xor .u32 (rturnP x 17) (rturnP x 19)) (x / 1024)
def rnextP (b : ByteArray) (W : List Int) (t : Nat) : Int :=
 if t < 16 then rwordP b t else (W.getD (t - 16) 0 + W.getD (t - 7) 0 + rlowP (W.getD (t - 15) 0) + rhighP (W.getD (t - 2) 0)) % 4294967296
def rschedP (b : ByteArray) : Nat → List Int
 | 0 => List.replicate 64 0
 | t + 1 => (rschedP b t).set t (rnextP b (rschedP b t) t)
theorem rschedP_length (b : ByteArray) : ∀ t, (rschedP b t).length = 64
 | 0 => by simp [rschedP]
 | t + 1 => by rw [rschedP, List.length_set, rschedP_length b t]
def ruP (k x : Int) (z : R8) : Int := (z.h + Go.bits .xor .u32 (Go.bits .xor .u32 (rturnP z.e 6) (rturnP z.e 11)) (rturnP z.e 25) + Go.bits .xor .u32 (Go.bits .and .u32 z.e z.f) (Go.bits .and .u32 ((4294967295 - z.e) % 4294967296) z.g) + k + x) % 4294967296
def rvP (z : R8) : Int := (Go.bits .xor .u32 (Go.bits .xor .u32 (rturnP z.a 2) (rturnP z.a 13)) (rturnP z.a 22) + Go.bits .xor .u32 (Go.bits .xor .u32 (Go.bits .and .u32 z.a z.b) (Go.bits .and .u32 z.a z.c)) (Go.bits .and .u32 z.b z.c)) % 4294967296
def rroundP (k x : Int) (z : R8) : R8 := ⟨(ruP k x z + rvP z) % 4294967296, z.a, z.b, z.c, (z.d + ruP k x z) % 4294967296, z.e, z.f, z.g⟩
def rroundsP (K W : List Int) (z : R8) : Nat → R8
 | 0 => z
 | t + 1 => rroundP (K.getD t 0) (W.getD t 0) (rroundsP K W z t)
def rmixP (K S : List Int) (b : ByteArray) : List Int := addP S (rroundsP K (rschedP b 64) (ofL S) 64).toL 8
end Go.Proofs.Ytcdnmlfnfhoieaa.A

/- strongroomref02.Mix, walked. Conditions: the roots' words 64, the state 8 words, the block 64 bytes. -/
namespace Go.Proofs.Ytcdnmlfnfhoieaa.A
open Go.RowKit Go.Proofs.YtcdnmlfnfhoieaaW.PrintWords Go.Proofs.YtcdnmlfnfhoieaaW.PrintLast Go.Proofs.YtcdnmlfnfhoieaaW.PrintMore Go.Proofs.Ytcdnmlfnfhoieaa.Bs
set_option linter.unusedVariables false
set_option linter.unusedSimpArgs false
attribute [local irreducible] strongroomref02_turn.f rturnP
theorem rturn_q {w : World} {x n r : Int} {m : Nat} (h : strongroomref02_turn.f x n = some r) : Calls Try.prog 117 #[.int .u32 x, .int .u64 n] (w.drewN m) fun e w'' => e = .returned (.int .u32 r) ∧ ∃ k, w'' = w.drewN k :=
 (strongroomref02_turn.calls x n r _ h).mono fun _ _ ⟨he, hm⟩ => ⟨he, by obtain ⟨k, hk⟩ := hm; exact ⟨m + k, by rw [hk, World.drewN_drewN]⟩⟩
theorem rturn_qa {w : World} {x n r : Int} {a m : Nat} (h : strongroomref02_turn.f x n = some r) : Calls Try.prog 117 #[.int .u32 x, .int .u64 n] (w.drewN (a + m)) fun e w'' => e = .returned (.int .u32 r) ∧ ∃ k, w'' = w.drewN (a + k) :=
 (strongroomref02_turn.calls x n r _ h).mono fun _ _ ⟨he, hm⟩ => ⟨he, by obtain ⟨k, hk⟩ := hm; exact ⟨m + k, by rw [hk, World.drewN_drewN, Nat.add_assoc]⟩⟩
/-- The variables' blocks, and all that was there ahead as_ it was. -/
structure RMixSt (w w' : World) (g3 g4 g6 g7 : Nat) (K S W : List Int) : Prop where
 h3 : w'.heap[g3]? = some (.cells (cs32 K) 106 (0, 0))
 h4 : w'.heap[g4]? = some (.cells (cs32 S) 38 (0, 0))
 h6 : w'.heap[g6]? = some (.cells (cs32 (List.replicate 8 0)) 38 (0, 0))
 h7 : w'.heap[g7]? = some (.cells (cs32 W) 106 (0, 0))
 hl : Below w.heap.size w w'
structure Apart4 (n g3 g4 g6 g7 : Nat) : Prop where
 l3 : n ≤ g3
 l4 : n ≤ g4
 l6 : n ≤ g6
 l7 : n ≤ g7
 n34 : g3 ≠ g4
 n36 : g3 ≠ g6
 n37 : g3 ≠ g7
 n46 : g4 ≠ g6
 n47 : g4 ≠ g7
 n67 : g6 ≠ g7
theorem RMixSt.drewN {w w' : World} {g3 g4 g6 g7 : Nat} {K S W : List Int} (h : RMixSt w w' g3 g4 g6 g7 K S W) (n : Nat) : RMixSt w (w'.drewN n) g3 g4 g6 g7 K S W :=
 ⟨blk_drewN h.h3 n, blk_drewN h.h4 n, blk_drewN h.h6 n, blk_drewN h.h7 n, pw_below_drewN h.hl n⟩
theorem RMixSt.set7 {w w' : World} {g3 g4 g6 g7 : Nat} {K S W : List Int} (h : RMixSt w w' g3 g4 g6 g7 K S W) (a : Apart4 w.heap.size g3 g4 g6 g7) (i : Nat) (n : Int) : RMixSt w (w'.setCell ⟨g7, i, none⟩ (.int .u32 n)) g3 g4 g6 g7 K S (W.set i n) :=
 ⟨blk_far h.h3 a.n37 _, blk_far h.h4 a.n47 _, blk_far h.h6 a.n67 _, by rw [← cs32_set]; exact blk_set h.h7 i _, below_set h.hl a.l7⟩
theorem RMixSt.set4 {w w' : World} {g3 g4 g6 g7 : Nat} {K S W : List Int} (h : RMixSt w w' g3 g4 g6 g7 K S W) (a : Apart4 w.heap.size g3 g4 g6 g7) (i : Nat) (n : Int) : RMixSt w (w'.setCell ⟨g4, i, none⟩ (.int .u32 n)) g3 g4 g6 g7 K (S.set i n) W :=
 ⟨blk_far h.h3 a.n34 _, by rw [← cs32_set]; exact blk_set h.h4 i _, blk_far h.h6 (Ne.symm a.n46) _, blk_far h.h7 (Ne.symm a.n47) _, below_set h.hl a.l4⟩
theorem RMixSt.c3 {w w' : World} {g3 g4 g6 g7 : Nat} {K S W : List Int} (h : RMixSt w w' g3 g4 g6 g7 K S W) (i : Nat) (hi : i < K.length) : w'.cell? ⟨g3, i, none⟩ = some (.int .u32 (K.getD i 0)) := by rw [blk_cell h.h3 i]; exact cs32_get K i hi
theorem RMixSt.c4 {w w' : World} {g3 g4 g6 g7 : Nat} {K S W : List Int} (h : RMixSt w w' g3 g4 g6 g7 K S W) (i : Nat) (hi : i < S.length) : w'.cell? ⟨g4, i, none⟩ = some (.int .u32 (S.getD i 0)) := by rw [blk_cell h.h4 i]; exact cs32_get S i hi
theorem RMixSt.c7 {w w' : World} {g3 g4 g6 g7 : Nat} {K S W : List Int} (h : RMixSt w w' g3 g4 g6 g7 K S W) (i : Nat) (hi : i < W.length) : w'.cell? ⟨g7, i, none⟩ = some (.int .u32 (W.getD i 0)) := by rw [blk_cell h.h7 i]; exact cs32_get W i hi
theorem RMixSt.row {w w' : World} {g3 g4 g6 g7 gz : Nat} {K S W : List Int} (h : RMixSt w w' g3 g4 g6 g7 K S W) (l : w.heap.size ≤ gz) (n4 : gz ≠ g4) (n6 : gz ≠ g6) (n7 : gz ≠ g7) (n3 : gz ≠ g3) (cs : Array Value) : RMixSt w (w'.setRow gz cs) g3 g4 g6 g7 K S W :=
 ⟨by rw [setRow_other _ _ _ _ (Ne.symm n3)]; exact h.h3, by rw [setRow_other _ _ _ _ (Ne.symm n4)]; exact h.h4, by rw [setRow_other _ _ _ _ (Ne.symm n6)]; exact h.h6, by rw [setRow_other _ _ _ _ (Ne.symm n7)]; exact h.h7, h.hl.trans (below_setRow l)⟩
set_option maxHeartbeats 8000000 in
set_option maxRecDepth 100000 in
theorem rmix_walk {w : World} {K S : List Int} {b : ByteArray} (hK : K.length = 64) (hS : S.length = 8) (hb : b.size = 64) :
  Calls Try.prog 113 #[.agg (cs32 K), .agg (cs32 S), .string b] w fun e w' => e = .returned (.agg (cs32 (rmixP K S b))) ∧ Below w.heap.size w w' := by
 have HKL := Aside0.mk hK
 have HSL := Aside0.mk hS
 have HBZ := Aside0.mk hb
 clear hK hb
 have hu106 := Try.underlying106
 have hu38 := Try.underlying38
 go_enter Try.func113, Try.ntmps113
 go_upto_region 3 with (first | ((with_reducible refine gate_dst (N := 3) rfl ?_); refine box_event ?hg (N := 3) ?hd (cs := cs32 K) (t := 106) ?hr ?_; (case hd => rfl); (case hg => rfl); (case hr => first | (go_simp; done) | (go_simp; rfl)); intro g3 hg3 w3 hb3 hbel3; have HG3 := Aside0.mk hg3; have HB3 := Aside0.mk hb3; have HL3 := Aside0.mk hbel3; clear hg3 hb3 hbel3) | ((with_reducible refine gate_dst (N := 4) rfl ?_); refine box_event ?hg (N := 4) ?hd (cs := cs32 S) (t := 38) ?hr ?_; (case hd => rfl); (case hg => rfl); (case hr => first | (go_simp; done) | (go_simp; rfl)); intro g4 hg4 w4 hb4 hbel4; have HG4 := Aside0.mk hg4; have HB4 := Aside0.mk hb4; have HL4 := Aside0.mk hbel4; clear hg4 hb4 hbel4) | ((with_reducible refine gate_dst (N := 6) rfl ?_); refine box_event ?hg (N := 6) ?hd (cs := cs32 (List.replicate 8 0)) (t := 38) ?hr ?_; (case hd => rfl); (case hg => rfl); (case hr => first | (go_simp; done) | (go_simp; rfl)); intro g6 hg6 w6 hb6 hbel6; have HG6 := Aside0.mk hg6; have HB6 := Aside0.mk hb6; have HL6 := Aside0.mk hbel6; clear hg6 hb6 hbel6) | ((with_reducible refine gate_dst (N := 7) rfl ?_); refine box_event ?hg (N := 7) ?hd (cs := cs32 (List.replicate 64 0)) (t := 106) ?hr ?_; (case hd => rfl); (case hg => rfl); (case hr => first | (go_simp; done) | (go_simp; rfl)); intro g7 hg7 w7 hb7 hbel7; have HG7 := Aside0.mk hg7; have HB7 := Aside0.mk hb7; have HL7 := Aside0.mk hbel7; clear hg7 hb7 hbel7))
 have b3 := blk_below (blk_below (blk_below HB3.out HL4.out) HL6.out) HL7.out
 have b4 := blk_below (blk_below HB4.out HL6.out) HL7.out
 have HS : Aside0 (RMixSt w w7 g3 g4 g6 g7 K S (rschedP b 0)) := ⟨⟨b3, b4, blk_below HB6.out HL7.out, HB7.out, below_step (below_step (below_step HL3.out HL4.out) HL6.out) HL7.out⟩⟩
 have HAP : Aside0 (Apart4 w.heap.size g3 g4 g6 g7) := ⟨by
  have s3 := below_size HL3.out
  have s4 := below_size (below_step HL3.out HL4.out)
  have s6 := below_size (below_step (below_step HL3.out HL4.out) HL6.out)
  have t3 := blk_lt HB3.out
  have t34 := blk_lt (blk_below HB3.out HL4.out)
  have t36 := blk_lt (blk_below (blk_below HB3.out HL4.out) HL6.out)
  have t4 := blk_lt HB4.out
  have t46 := blk_lt (blk_below HB4.out HL6.out)
  have t6 := blk_lt HB6.out
  have e3 := HG3.out
  have e4 := HG4.out
  have e6 := HG6.out
  have e7 := HG7.out
  constructor <;> omega⟩
 clear HB3 HB4 HB6 HB7 HL3 HL4 HL6 HL7 HG3 HG4 HG6 HG7 b3 b4
 go_wp2
 go_loopg [8] 16 (fun kq v w' => ∃ t : Nat, v = .int .i64 t ∧ Aside0 (t + kq = 16) ∧ Aside0 (RMixSt w w' g3 g4 g6 g7 K S (rschedP b t)))
 case atStart => exact ⟨0, rfl, ⟨rfl⟩, HS⟩
 case round =>
  clear HS
  obtain ⟨t, rfl, HT, HS⟩ := hrel
  by_cases ht : t < 16
  ·have HT16 := Aside0.mk ht
   have d1 : decide ((t : Int) < 16) = true := decide_eq_true (by omega)
   obtain ⟨q, hq⟩ : ∃ q, 4 * t = q := ⟨_, rfl⟩
   have w1 : wrap64 (4 * (t : Int)) = (q : Int) := by rw [wrap64_id _ (by omega) (by omega)]; omega
   have w2 : wrap64 ((q : Int) + 1) = ((q + 1 : Nat) : Int) := by rw [wrap64_id _ (by omega) (by omega)]; omega
   have w3 : wrap64 ((q : Int) + 2) = ((q + 2 : Nat) : Int) := by rw [wrap64_id _ (by omega) (by omega)]; omega
   have w4 : wrap64 ((q : Int) + 3) = ((q + 3 : Nat) : Int) := by rw [wrap64_id _ (by omega) (by omega)]; omega
   have hz := HBZ.out
   have z0 : ((q : Nat) : Int) < (b.size : Int) := by omega
   obtain ⟨q1, hq1⟩ : ∃ x, q + 1 = x := ⟨_, rfl⟩
   obtain ⟨q2, hq2⟩ : ∃ x, q + 2 = x := ⟨_, rfl⟩
   obtain ⟨q3, hq3⟩ : ∃ x, q + 3 = x := ⟨_, rfl⟩
   rw [hq1] at w2
   rw [hq2] at w3
   rw [hq3] at w4
   have p0 := eq_true (show (0 : Int) ≤ (q : Int) by omega)
   have p1 := eq_true (show (0 : Int) ≤ (q1 : Int) by omega)
   have p2 := eq_true (show (0 : Int) ≤ (q2 : Int) by omega)
   have p3 := eq_true (show (0 : Int) ≤ (q3 : Int) by omega)
   have s0 := eq_true (show (q : Int) < (b.size : Int) by omega)
   have s1 := eq_true (show (q1 : Int) < (b.size : Int) by omega)
   have s2 := eq_true (show (q2 : Int) < (b.size : Int) by omega)
   have s3 := eq_true (show (q3 : Int) < (b.size : Int) by omega)
   have s0' := eq_true (show q < b.size by omega)
   have s1' := eq_true (show q1 < b.size by omega)
   have s2' := eq_true (show q2 < b.size by omega)
   have s3' := eq_true (show q3 < b.size by omega)
   have p4 := eq_true (show (0 : Int) ≤ (t : Int) by omega)
   have p5 := eq_true (show (t : Int) < 64 by omega)
   have f7 : wr.frozen? ⟨g7, t, none⟩ = false := blk_frozen HS.out.h7 t
   have c7 := HS.out.c7 t (by rw [rschedP_length]; omega)
   obtain ⟨x7, hx7⟩ : ∃ x, (rschedP b t).getD t 0 = x := ⟨_, rfl⟩
   rw [hx7] at c7
   clear hx7
   have HQ := Aside0.mk (And.intro hq (And.intro hq1 (And.intro hq2 hq3)))
   clear hq hq1 hq2 hq3 ht z0 hz
   go_wp2
   go_region
   all_goals
    go_wp2
    go_roundg (15 - t)
    case measure => have := HT.out; have := HT16.out; omega
    case rel =>
     refine ⟨t + 1, inc64 t (by have := HT16.out; omega), ⟨by have := HT16.out; omega⟩, ⟨?_⟩⟩
     rw [rword_val HQ.out, rschedP, rnextP, if_pos HT16.out]
     exact (HS.out.set7 HAP.out t _).drewN 1
  ·have ht2 : t = 16 := by have := HT.out; omega
   subst ht2
   clear HT ht
   go_wp2
   go_loopg [9] 48 (fun kq v w' => ∃ t : Nat, v = .int .i64 t ∧ Aside0 (t + kq = 64) ∧ Aside0 (16 ≤ t) ∧ Aside0 (RMixSt w w' g3 g4 g6 g7 K S (rschedP b t)))
   case atStart => exact ⟨16, rfl, ⟨rfl⟩, ⟨Nat.le_refl _⟩, HS⟩
   case round =>
    clear HS
    obtain ⟨t, rfl, HT, HT16, HS⟩ := hrel
    by_cases ht : t < 64
    ·have d1 : decide ((t : Int) < 64) = true := decide_eq_true (by omega)
     have ht16 := HT16.out
     obtain ⟨s, rfl⟩ : ∃ s, t = s + 16 := ⟨t - 16, by omega⟩
     have hs : s < 48 := by omega
     have HSLT := Aside0.mk hs
     clear ht ht16
     have hl := rschedP_length b (s + 16)
     have c0 := HS.out.c7 s (by omega)
     have c1 := HS.out.c7 (s + 1) (by omega)
     have c9 := HS.out.c7 (s + 9) (by omega)
     have c14 := HS.out.c7 (s + 14) (by omega)
     have c16 := HS.out.c7 (s + 16) (by omega)
     have f16 : wr.frozen? ⟨g7, s + 16, none⟩ = false := blk_frozen HS.out.h7 (s + 16)
     obtain ⟨x0, hx0⟩ : ∃ x, (rschedP b (s + 16)).getD s 0 = x := ⟨_, rfl⟩
     obtain ⟨x1, hx1⟩ : ∃ x, (rschedP b (s + 16)).getD (s + 1) 0 = x := ⟨_, rfl⟩
     obtain ⟨x9, hx9⟩ : ∃ x, (rschedP b (s + 16)).getD (s + 9) 0 = x := ⟨_, rfl⟩
     obtain ⟨x14, hx14⟩ : ∃ x, (rschedP b (s + 16)).getD (s + 14) 0 = x := ⟨_, rfl⟩
     rw [hx0] at c0
     rw [hx1] at c1
     rw [hx9] at c9
     rw [hx14] at c14
     have HX : Aside0 (rnextP b (rschedP b (s + 16)) (s + 16) = (x0 + x9 + rlowP x1 + rhighP x14) % 4294967296) := ⟨by rw [rnextP, if_neg (by omega), ← hx0, ← hx1, ← hx9, ← hx14]; rfl⟩
     clear hx0 hx1 hx9 hx14
     have w15 : wrap64 (((s + 16 : Nat) : Int) - 15) = ((s + 1 : Nat) : Int) := by rw [wrap64_id _ (by omega) (by omega)]; omega
     have w2 : wrap64 (((s + 16 : Nat) : Int) - 2) = ((s + 14 : Nat) : Int) := by rw [wrap64_id _ (by omega) (by omega)]; omega
     have w7 : wrap64 (((s + 16 : Nat) : Int) - 7) = ((s + 9 : Nat) : Int) := by rw [wrap64_id _ (by omega) (by omega)]; omega
     have w16 : wrap64 (((s + 16 : Nat) : Int) - 16) = (s : Int) := by rw [wrap64_id _ (by omega) (by omega)]; omega
     have p1 := eq_true (show (0 : Int) ≤ ((s + 1 : Nat) : Int) by omega)
     have p2 := eq_true (show ((s + 1 : Nat) : Int) < 64 by omega)
     have p3 := eq_true (show (0 : Int) ≤ ((s + 14 : Nat) : Int) by omega)
     have p4 := eq_true (show ((s + 14 : Nat) : Int) < 64 by omega)
     go_wp2
     go_quiet ((first | exact rturn_q (rturn7 _) | exact rturn_q (rturn18 _) | exact rturn_qa (rturn7 _) | exact rturn_qa (rturn18 _)))
     go_wp2
     go_quiet ((first | exact rturn_q (rturn17 _) | exact rturn_q (rturn19 _) | exact rturn_qa (rturn17 _) | exact rturn_qa (rturn19 _)))
     go_wp2
     have p5 := eq_true (show (0 : Int) ≤ (s : Int) by omega)
     have p6 := eq_true (show (s : Int) < 64 by have := HSLT.out; omega)
     have p7 := eq_true (show (0 : Int) ≤ ((s + 9 : Nat) : Int) by omega)
     have p8 := eq_true (show ((s + 9 : Nat) : Int) < 64 by have := HSLT.out; omega)
     have p9 := eq_true (show (0 : Int) ≤ ((s + 16 : Nat) : Int) by omega)
     have p10 := eq_true (show ((s + 16 : Nat) : Int) < 64 by have := HSLT.out; omega)
     go_region
     all_goals
      go_wp2
      go_roundg (63 - (s + 16))
      case measure => have := HT.out; have := HSLT.out; omega
      case rel =>
       refine ⟨s + 16 + 1, rfl, ⟨by have := HSLT.out; omega⟩, ⟨by omega⟩, ⟨?_⟩⟩
       rw [rschedP, HX.out]
       exact (HS.out.drewN _).set7 HAP.out (s + 16) _
    ·have ht2 : t = 64 := by have := HT.out; omega
     subst ht2
     obtain ⟨W, hW⟩ : ∃ W, rschedP b 64 = W := ⟨_, rfl⟩
     have hWl : W.length = 64 := by rw [← hW, rschedP_length]
     rw [hW] at HS
     have HW := Aside0.mk hW
     have HWL := Aside0.mk hWl
     clear hW hWl HT HT16 ht
     have HI38S : Aside0 ((Try.prog.info? 38).map (·.size) = some (cs32 S).size) := ⟨by rw [cs32_size, HSL.out]; kernel_rfl⟩
     have HOS : Aside0 ((cs32 (List.replicate 8 0)).size = (cs32 S).size) := ⟨by rw [cs32_size, cs32_size, HSL.out]; rfl⟩
     have HAS : Aside0 ((cs32 S).all (·.oneCell') = true) := ⟨cs32_all _⟩
     go_upto_region 13 with (first | ((with_reducible refine gate_dst (N := 105) rfl ?_); refine wpList_load_row rfl 38 (.tmp 4) rfl g4 rfl 38 (cs32 S) (0, 0) _ HS.out.h4 hu38 rfl HI38S.out ?_) | ((with_reducible refine gate_dst (N := 12) rfl ?_); refine box_event ?hg (N := 12) ?hd (cs := cs32 (List.replicate 8 0)) (t := 38) ?hr ?_; (case hd => rfl); (case hg => rfl); (case hr => first | (go_simp; done) | (go_simp; rfl)); intro gz hgz wz hbz hbelz; have HGZ := Aside0.mk hgz; have HBZZ := Aside0.mk hbz; have HLZ := Aside0.mk hbelz; clear hgz hbz hbelz) | (refine gate_ (.store 38 (.tmp 12) (.tmp 105)) rfl ?_; refine wpList_store_row rfl 38 (.tmp 12) (.tmp 105) rfl gz (cs32 S) rfl rfl 38 _ HBZZ.out HI38S.out HOS.out HAS.out ?_))
     have HZS : Aside0 (RMixSt w (wz.setRow gz (cs32 S)) g3 g4 g6 g7 K S W ∧ (wz.setRow gz (cs32 S)).heap[gz]? = some (.cells (cs32 S) 38 (0, 0)) ∧ w.heap.size ≤ gz ∧ gz ≠ g4 ∧ gz ≠ g6 ∧ gz ≠ g7 ∧ gz ≠ g3) := ⟨by
      have e3 := blk_lt HS.out.h3
      have e4 := blk_lt HS.out.h4
      have e6 := blk_lt HS.out.h6
      have e7 := blk_lt HS.out.h7
      have eg : gz = wr.heap.size := HGZ.out
      have hz := below_size HS.out.hl
      refine ⟨⟨?_, ?_, ?_, ?_, ?_⟩, setRow_heap _ _ _ _ _ _ HBZZ.out, by omega, by omega, by omega, by omega, by omega⟩
      ·rw [setRow_other _ _ _ _ (by omega)]; exact blk_below HS.out.h3 HLZ.out
      ·rw [setRow_other _ _ _ _ (by omega)]; exact blk_below HS.out.h4 HLZ.out
      ·rw [setRow_other _ _ _ _ (by omega)]; exact blk_below HS.out.h6 HLZ.out
      ·rw [setRow_other _ _ _ _ (by omega)]; exact blk_below HS.out.h7 HLZ.out
      ·exact (below_step HS.out.hl HLZ.out).trans (below_setRow (by omega))⟩
     clear HS HGZ HBZZ HLZ HI38S HOS HAS
     obtain ⟨wy, hwy⟩ : ∃ x, wz.setRow gz (cs32 S) = x := ⟨_, rfl⟩
     rw [hwy] at HZS
     rw [hwy]
     clear hwy
     have HS : Aside0 (RMixSt w wy g3 g4 g6 g7 K S W) := ⟨HZS.out.1⟩
     have HZ : Aside0 (wy.heap[gz]? = some (.cells (cs32 (ofL S).toL) 38 (0, 0))) := ⟨by
      rw [HZS.out.2.1]
      have : S = (ofL S).toL := by
       have h8 := HSL.out
       rcases S with _ | ⟨a, _ | ⟨b, _ | ⟨c, _ | ⟨d, _ | ⟨e, _ | ⟨f, _ | ⟨g, _ | ⟨h, _ | ⟨i, l⟩⟩⟩⟩⟩⟩⟩⟩⟩ <;> simp at h8
       rfl
      rw [← this]⟩
     have HGE : Aside0 (w.heap.size ≤ gz ∧ gz ≠ g4 ∧ gz ≠ g6 ∧ gz ≠ g7 ∧ gz ≠ g3) := ⟨HZS.out.2.2⟩
     clear HZS
     go_wp2
     go_loopg [13] 64 (fun kq v w' => ∃ (t : Nat) (z : R8), v = .int .i64 t ∧ Aside0 (t + kq = 64) ∧ Aside0 (z = rroundsP K W (ofL S) t) ∧ Aside0 (RMixSt w w' g3 g4 g6 g7 K S W) ∧ Aside0 (w'.heap[gz]? = some (.cells (cs32 z.toL) 38 (0, 0))))
     case atStart => exact ⟨0, ofL S, rfl, ⟨rfl⟩, ⟨rfl⟩, HS, HZ⟩
     case round =>
      clear HS HZ
      obtain ⟨t, ⟨a, b1, c1, d, e, f, g, h8⟩, rfl, HT, HZT, HS, HZ⟩ := hrel
      by_cases ht : t < 64
      ·have cK := HS.out.c3 t (by rw [HKL.out]; exact ht)
       have c7 := HS.out.c7 t (by rw [HWL.out]; exact ht)
       obtain ⟨kk, hkk⟩ : ∃ x, K.getD t 0 = x := ⟨_, rfl⟩
       obtain ⟨ww, hww⟩ : ∃ x, W.getD t 0 = x := ⟨_, rfl⟩
       rw [hkk] at cK
       rw [hww] at c7
       have HR : Aside0 (rroundsP K W (ofL S) (t + 1) = rroundP kk ww ⟨a, b1, c1, d, e, f, g, h8⟩) := ⟨by rw [rroundsP, hkk, hww, ← HZT.out]⟩
       have HT64 := Aside0.mk ht
       have d1 : decide ((t : Int) < 64) = true := decide_eq_true (by omega)
       have p1 := eq_true (show (0 : Int) ≤ (t : Int) by omega)
       have p2 := eq_true (show (t : Int) < 64 by omega)
       have z0 : wr.cell? ⟨gz, 0, none⟩ = some (.int .u32 a) := by rw [blk_cell HZ.out 0]; rfl
       have z1 : wr.cell? ⟨gz, 1, none⟩ = some (.int .u32 b1) := by rw [blk_cell HZ.out 1]; rfl
       have z2 : wr.cell? ⟨gz, 2, none⟩ = some (.int .u32 c1) := by rw [blk_cell HZ.out 2]; rfl
       have z3 : wr.cell? ⟨gz, 3, none⟩ = some (.int .u32 d) := by rw [blk_cell HZ.out 3]; rfl
       have z4 : wr.cell? ⟨gz, 4, none⟩ = some (.int .u32 e) := by rw [blk_cell HZ.out 4]; rfl
       have z5 : wr.cell? ⟨gz, 5, none⟩ = some (.int .u32 f) := by rw [blk_cell HZ.out 5]; rfl
       have z6 : wr.cell? ⟨gz, 6, none⟩ = some (.int .u32 g) := by rw [blk_cell HZ.out 6]; rfl
       have z7 : wr.cell? ⟨gz, 7, none⟩ = some (.int .u32 h8) := by rw [blk_cell HZ.out 7]; rfl
       clear hkk hww ht
       go_wp2
       go_quiet ((first | exact rturn_q (rturn6 _) | exact rturn_q (rturn11 _) | exact rturn_q (rturn25 _) | exact rturn_qa (rturn6 _) | exact rturn_qa (rturn11 _) | exact rturn_qa (rturn25 _)))
       go_wp2
       go_quiet ((first | exact rturn_q (rturn2 _) | exact rturn_q (rturn13 _) | exact rturn_q (rturn22 _) | exact rturn_qa (rturn2 _) | exact rturn_qa (rturn13 _) | exact rturn_qa (rturn22 _)))
       obtain ⟨u, hu⟩ : ∃ x, ruP kk ww ⟨a, b1, c1, d, e, f, g, h8⟩ = x := ⟨_, rfl⟩
       obtain ⟨v, hv⟩ : ∃ x, rvP ⟨a, b1, c1, d, e, f, g, h8⟩ = x := ⟨_, rfl⟩
       have HR2 : Aside0 ((rroundP kk ww ⟨a, b1, c1, d, e, f, g, h8⟩).toL = [(u + v) % 4294967296, a, b1, c1, (d + u) % 4294967296, e, f, g]) := ⟨by rw [rroundP, hu, hv]; rfl⟩
       simp only [ruP] at hu
       simp only [rvP] at hv
       rw [Int.emod_add_emod, hu, hv]
       clear hu hv
       have HI38Z : Aside0 ((Try.prog.info? 38).map (·.size) = some (cs32 [(u + v) % 4294967296, a, b1, c1, (d + u) % 4294967296, e, f, g]).size) := ⟨by kernel_rfl⟩
       have HOZ : Aside0 ((cs32 (R8.toL ⟨a, b1, c1, d, e, f, g, h8⟩)).size = (cs32 [(u + v) % 4294967296, a, b1, c1, (d + u) % 4294967296, e, f, g]).size) := ⟨by rfl⟩
       have HAZ : Aside0 ((cs32 [(u + v) % 4294967296, a, b1, c1, (d + u) % 4294967296, e, f, g]).all (·.oneCell') = true) := ⟨cs32_all _⟩
       go_wp2_with (refine gate_ (.store 38 (.tmp 12) (.tmp 193)) rfl ?_; refine wpList_store_row rfl 38 (.tmp 12) (.tmp 193) rfl gz (cs32 [(u + v) % 4294967296, a, b1, c1, (d + u) % 4294967296, e, f, g]) rfl rfl 38 _ (blk_drewN HZ.out _) HI38Z.out HOZ.out HAZ.out ?_)
       go_roundg (63 - t)
       case measure => have := HT.out; have := HT64.out; omega
       case rel =>
        refine ⟨t + 1, rroundP kk ww ⟨a, b1, c1, d, e, f, g, h8⟩, inc64 t (by have := HT64.out; omega), ⟨by have := HT64.out; omega⟩, ⟨HR.out.symm⟩, ⟨?_⟩, ⟨?_⟩⟩
        ·exact (HS.out.drewN _).row HGE.out.1 HGE.out.2.1 HGE.out.2.2.1 HGE.out.2.2.2.1 HGE.out.2.2.2.2 _
        ·rw [HR2.out]
         exact setRow_heap _ _ _ _ _ _ (blk_drewN HZ.out _)
      ·have ht2 : t = 64 := by have := HT.out; omega
       subst ht2
       clear HT ht
       have HZL : Aside0 ((rroundsP K W (ofL S) 64).toL = [a, b1, c1, d, e, f, g, h8]) := ⟨by rw [← HZT.out]; rfl⟩
       obtain ⟨Z, hZ⟩ : ∃ Z, [a, b1, c1, d, e, f, g, h8] = Z := ⟨_, rfl⟩
       have hZZ : R8.toL ⟨a, b1, c1, d, e, f, g, h8⟩ = Z := hZ
       have HZ8 : Aside0 (Z.length = 8) := ⟨by rw [← hZ]; rfl⟩
       rw [hZ] at HZL
       rw [hZZ] at HZ
       clear hZ hZZ HZT
       go_wp2
       go_loopg [16] 8 (fun kq v w' => ∃ i : Nat, v = .int .i64 i ∧ Aside0 (i + kq = 8) ∧ Aside0 (RMixSt w w' g3 g4 g6 g7 K (addP S Z i) W) ∧ Aside0 (w'.heap[gz]? = some (.cells (cs32 Z) 38 (0, 0))))
       case atStart => exact ⟨0, rfl, ⟨rfl⟩, HS, HZ⟩
       case round =>
        clear HS HZ
        obtain ⟨i, rfl, HI, HS, HZ⟩ := hrel
        by_cases hi : i < 8
        ·have c4 := HS.out.c4 i (by rw [addP_length, HSL.out]; exact hi)
         have f4 : wr.frozen? ⟨g4, i, none⟩ = false := blk_frozen HS.out.h4 i
         have cz : wr.cell? ⟨gz, i, none⟩ = some (.int .u32 (Z.getD i 0)) := by rw [blk_cell HZ.out i]; exact cs32_get Z i (by rw [HZ8.out]; exact hi)
         obtain ⟨x, hx⟩ : ∃ x, (addP S Z i).getD i 0 = x := ⟨_, rfl⟩
         obtain ⟨y, hy⟩ : ∃ x, Z.getD i 0 = x := ⟨_, rfl⟩
         rw [hx] at c4
         rw [hy] at cz
         have HA : Aside0 (addP S Z (i + 1) = (addP S Z i).set i ((x + y) % 4294967296)) := ⟨by rw [addP, hx, hy]⟩
         have HI8 := Aside0.mk hi
         have d1 : decide ((i : Int) < 8) = true := decide_eq_true (by omega)
         have p1 := eq_true (show (0 : Int) ≤ (i : Int) by omega)
         have p2 := eq_true (show (i : Int) < 8 by omega)
         clear hx hy hi
         go_wp2
         go_region
         all_goals
          go_wp2
          go_roundg (7 - i)
          case measure => have := HI.out; have := HI8.out; omega
          case rel =>
           refine ⟨i + 1, inc64 i (by have := HI8.out; omega), ⟨by have := HI8.out; omega⟩, ⟨?_⟩, ⟨?_⟩⟩
           ·rw [HA.out]
            exact (HS.out.drewN _).set4 HAP.out i _
           ·exact blk_far (blk_drewN HZ.out _) HGE.out.2.1 _
        ·have hi8 : i = 8 := by have := HI.out; omega
         subst hi8
         clear HI hi
         have HLN : Aside0 ((cs32 (addP S Z 8)).size = 8) := ⟨by rw [cs32_size, addP_length, HSL.out]⟩
         have HI38 : Aside0 ((Try.prog.info? 38).map (·.size) = some (cs32 (addP S Z 8)).size) := ⟨by rw [HLN.out]; kernel_rfl⟩
         have HO : Aside0 ((cs32 (List.replicate 8 0)).size = (cs32 (addP S Z 8)).size) := ⟨by rw [HLN.out]; rfl⟩
         have HA : Aside0 ((cs32 (addP S Z 8)).all (·.oneCell') = true) := ⟨cs32_all _⟩
         go_wp2_with (first | ((with_reducible refine gate_dst (N := 207) rfl ?_); refine wpList_load_row rfl 38 (.tmp 4) rfl g4 rfl 38 (cs32 (addP S Z 8)) (0, 0) _ HS.out.h4 hu38 rfl HI38.out ?_) | (refine gate_ (.store 38 (.tmp 6) (.tmp 207)) rfl ?_; refine wpList_store_row rfl 38 (.tmp 6) (.tmp 207) rfl g6 (cs32 (addP S Z 8)) rfl rfl 38 _ HS.out.h6 HI38.out HO.out HA.out ?_))
         refine bodyPost_ret_by (results_cell_row rfl _ _ g6 38 (cs32 (addP S Z 8)) (0, 0) _ rfl (setRow_heap _ _ _ _ _ _ HS.out.h6) hu38 rfl HI38.out) rfl ?_
         refine ⟨?_, HS.out.hl.trans (below_setRow HAP.out.l6)⟩
         rw [rmixP, HW.out, HZL.out]
end Go.Proofs.Ytcdnmlfnfhoieaa.A

/- What strongroomref02.Sum reckons, plainly. -/
namespace Go.Proofs.Ytcdnmlfnfhoieaa.A
open Go.RowKit Go.Proofs.YtcdnmlfnfhoieaaW.PrintWords Go.Proofs.YtcdnmlfnfhoieaaW.PrintLast Go.Proofs.YtcdnmlfnfhoieaaW.PrintMore Go.Proofs.Ytcdnmlfnfhoieaa.Bs
theorem rmixP_length (K S : List Int) (b : ByteArray) : (rmixP K S b).length = S.length := addP_length _ _ _
theorem rstr_append (a b : List Int) : strOfNums (a ++ b) = strOfNums a ++ strOfNums b := by
 apply ByteArray.ext
 simp [strOfNums]
/-- All blocks from i on. -/
def rabsorb (K : List Int) (b : ByteArray) : Nat → List Int → Nat → List Int
 | 0, S, _ => S
 | m + 1, S, j => rabsorb K b m (rmixP K S (b.extract (64 * j) (64 * j + 64))) (j + 1)
def rb4 (x : Int) : List Int := [Int.tdiv x 16777216 % 256, Int.tdiv x 65536 % 256, Int.tdiv x 256 % 256, Int.tmod x 256 % 256]
def rb32 (S : List Int) : Nat → List Int
 | 0 => []
 | i + 1 => rb32 S i ++ rb4 (S.getD i 0)
theorem rb32_length (S : List Int) : ∀ i, (rb32 S i).length = 4 * i
 | 0 => rfl
 | i + 1 => by rw [rb32, List.length_append, rb32_length S i]; simp [rb4]; omega
def allP (b : ByteArray) : ByteArray := b ++ strOfNums (padL b.size)
theorem allP_size (b : ByteArray) : (allP b).size = b.size + (padL b.size).length := by rw [allP, ByteArray.size_append, strOfNums_size]
theorem allP_mod (b : ByteArray) : (allP b).size % 64 = 0 := by
 rw [allP_size, padL_length]
 omega
theorem rpad_l1 (k : Nat) (x3 : ByteArray) (m : Nat) (hm : m < 18446744073709551616) (acc : List Int) (i : Nat) (hi : i < 8) (hl : acc.length ≤ 64) : strongroomref02_Pad.l1 (k + 1) x3 (m : Int) (strOfNums acc) (i : Int) = strongroomref02_Pad.l1 k x3 ((m / 256 : Nat) : Int) (strOfNums (((m % 256 : Nat) : Int) :: acc)) ((i + 1 : Nat) : Int) := by
 have e1 : Int.tmod (m : Int) 256 % 256 = ((m % 256 : Nat) : Int) := by rw [Int.tmod_eq_emod_of_nonneg (by omega)]; omega
 have e2 : IntKind.u64.wrap (Int.tdiv (m : Int) 256) = ((m / 256 : Nat) : Int) := by rw [Int.tdiv_eq_ediv_of_nonneg (by omega), wrap_u64 _ (by omega) (by omega)]; omega
 have e3 : wrap64 ((i : Int) + 1) = ((i + 1 : Nat) : Int) := by rw [wrap64_id _ (by omega) (by omega)]; rfl
 have e4 : strOfNums [((m % 256 : Nat) : Int)] ++ strOfNums acc = strOfNums (((m % 256 : Nat) : Int) :: acc) := (rstr_append [_] acc).symm
 rw [strongroomref02_Pad.l1, if_pos (by omega), e1, Option.bind_some, if_pos (by rw [strOfNums_size, strOfNums_size]; simp; omega), e2, e3, e4]
theorem rpad_end (k : Nat) (x3 : ByteArray) (n : Nat) (hn : n < 1152921504606846976) (hl : x3.size ≤ 64) (hk : 9 ≤ k) : strongroomref02_Pad.l1 k x3 (8 * (n : Int)) (strOfNums []) 0 = some (x3 ++ strOfNums (be8 (8 * (n : Int)))) := by
 obtain ⟨j, rfl⟩ : ∃ j, k = j + 1 + 1 + 1 + 1 + 1 + 1 + 1 + 1 + 1 := ⟨k - 9, by omega⟩
 obtain ⟨m, hm⟩ : ∃ m, m = 8 * n := ⟨_, rfl⟩
 have h0 := rpad_l1 (j + 1 + 1 + 1 + 1 + 1 + 1 + 1 + 1) x3 m (by omega) [] 0 (by omega) (by simp)
 rw [show ((0 : Nat) : Int) = 0 from rfl] at h0
 rw [show 8 * (n : Int) = (m : Int) by omega, h0, rpad_l1 _ x3 _ (by omega) _ 1 (by omega) (by simp), rpad_l1 _ x3 _ (by omega) _ 2 (by omega) (by simp), rpad_l1 _ x3 _ (by omega) _ 3 (by omega) (by simp), rpad_l1 _ x3 _ (by omega) _ 4 (by omega) (by simp), rpad_l1 _ x3 _ (by omega) _ 5 (by omega) (by simp), rpad_l1 _ x3 _ (by omega) _ 6 (by omega) (by simp), rpad_l1 _ x3 _ (by omega) _ 7 (by omega) (by simp)]
 rw [strongroomref02_Pad.l1, if_neg (by omega), if_pos (by rw [strOfNums_size]; simp; omega)]
 congr 3
 have hb : ∀ (i s : Nat), (56 - 8 * (i : Int)).toNat = s → s ≤ 64 → byteAt (m : Int) i = ((m / 2 ^ s % 256 : Nat) : Int) := by
  intro i s h1 h2
  show (m : Int) / 2 ^ min (56 - 8 * (i : Int)).toNat 64 % 256 = _
  rw [h1, Nat.min_eq_left h2, Int.natCast_emod, Int.natCast_ediv, Int.natCast_pow]
  rfl
 rw [be8, hb 0 56 (by omega) (by omega), hb 1 48 (by omega) (by omega), hb 2 40 (by omega) (by omega), hb 3 32 (by omega) (by omega), hb 4 24 (by omega) (by omega), hb 5 16 (by omega) (by omega), hb 6 8 (by omega) (by omega), hb 7 0 (by omega) (by omega)]
 simp only [Nat.div_div_eq_div_mul, Nat.reducePow, Nat.reduceMul, Nat.div_one]
theorem rpad_l0 (n : Nat) (hn : n < 1152921504606846976) : ∀ (z k : Nat) (L : List Int), L.length + z ≤ 64 → (n % 64 + L.length + z) % 64 = 56 → z < 64 → z + 10 ≤ k → strongroomref02_Pad.l0 k (n : Int) (strOfNums L) = some (strOfNums (L ++ (List.replicate z 0 ++ be8 (8 * (n : Int))))) := by
 intro z
 induction z with
 | zero =>
  intro k L h1 h2 hz hk
  obtain ⟨j, rfl⟩ : ∃ j, k = j + 1 := ⟨k - 1, by omega⟩
  have e0 : Int.tmod (n : Int) 64 = ((n % 64 : Nat) : Int) := by rw [Int.tmod_eq_emod_of_nonneg (by omega)]; omega
  have e1 : wrap64 (((n % 64 : Nat) : Int) + (L.length : Int)) = ((n % 64 + L.length : Nat) : Int) := by rw [wrap64_id _ (by omega) (by omega)]; omega
  have e3 : Int.tmod ((n % 64 + L.length : Nat) : Int) 64 = 56 := by rw [Int.tmod_eq_emod_of_nonneg (by omega)]; omega
  have e4 : IntKind.u64.wrap (IntKind.u64.wrap (n : Int) * 8) = 8 * (n : Int) := by rw [wrap_u64 (n : Int) (by omega) (by omega), wrap_u64 _ (by omega) (by omega)]; omega
  have h := rpad_end j (strOfNums L) n hn (by rw [strOfNums_size]; omega) (by omega)
  rw [strongroomref02_Pad.l0, strOfNums_size, e0, e1, if_pos e3, e4]
  refine Eq.trans ?_ (h.trans ?_)
  ·rfl
  ·rw [List.replicate_zero, List.nil_append, rstr_append]
 | succ z ih =>
  intro k L h1 h2 hz hk
  obtain ⟨j, rfl⟩ : ∃ j, k = j + 1 := ⟨k - 1, by omega⟩
  have e0 : Int.tmod (n : Int) 64 = ((n % 64 : Nat) : Int) := by rw [Int.tmod_eq_emod_of_nonneg (by omega)]; omega
  have e1 : wrap64 (((n % 64 : Nat) : Int) + (L.length : Int)) = ((n % 64 + L.length : Nat) : Int) := by rw [wrap64_id _ (by omega) (by omega)]; omega
  have e3 : ¬ Int.tmod ((n % 64 + L.length : Nat) : Int) 64 = 56 := by rw [Int.tmod_eq_emod_of_nonneg (by omega)]; omega
  have e4 : strOfNums L ++ (⟨#[0]⟩ : ByteArray) = strOfNums (L ++ [0]) := by rw [rstr_append]; rfl
  rw [strongroomref02_Pad.l0, strOfNums_size, e0, e1, if_neg e3, if_pos (by omega), e4, ih j (L ++ [0]) (by simp; omega) (by simp; omega) (by omega) (by omega)]
  simp [List.replicate_succ]
theorem rpad_some (n : Nat) (hn : n < 1152921504606846976) : strongroomref02_Pad.f 80 (n : Int) = some (strOfNums (padL n)) := by
 unfold strongroomref02_Pad.f
 rw [if_neg (by omega)]
 have h := rpad_l0 n hn ((119 - n % 64) % 64) 80 [128] (by simp; omega) (by simp; omega) (by omega) (by omega)
 exact h
def rsumP (b : ByteArray) : ByteArray := strOfNums (rb32 (rabsorb K64 (allP b) ((allP b).size / 64) H8 0) 8)
end Go.Proofs.Ytcdnmlfnfhoieaa.A

/- strongroomref02.Sum, walked. Condition: fewer than 2^46 bytes. -/
namespace Go.Proofs.Ytcdnmlfnfhoieaa.A
open Go.RowKit Go.Proofs.YtcdnmlfnfhoieaaW.PrintWords Go.Proofs.YtcdnmlfnfhoieaaW.PrintLast Go.Proofs.YtcdnmlfnfhoieaaW.PrintMore Go.Proofs.Ytcdnmlfnfhoieaa.Bs
set_option linter.unusedVariables false
set_option linter.unusedSimpArgs false
theorem run_load_val_ {w : World} {g : Nat} {t ty : TypeId} {cs : Array Value} {fr : Nat × Nat} {n : Nat} {e : TypeId} (hg : w.heap[g]? = some (.cells cs t fr)) (hu : Try.prog.underlying ty = some (.array n e)) (hi : (Try.prog.info? ty).map (·.size) = some cs.size) :
  (Instr.loadAt ty (.pointer (some ⟨g, 0, none⟩))).run Try.prog w = .ok (.agg cs) w := by
 simp only [Instr.loadAt, Instr.sureAddr, Sem.run_bind, Sem.run_pure, Result.andThen_ok, run_loadVar_row w g t ty cs fr (.array n e) hg hu rfl hi]
theorem exec_load_ {ev : Operand → Value} {o : Oper} {x : Operand} {w : World} {g : Nat} {t ty : TypeId} {cs : Array Value} {fr : Nat × Nat} {n : Nat} {e : TypeId} (ho : o.op = .load ty x) (hx : ev x = .pointer (some ⟨g, 0, none⟩)) (hg : w.heap[g]? = some (.cells cs t fr)) (hu : Try.prog.underlying ty = some (.array n e)) (hi : (Try.prog.info? ty).map (·.size) = some cs.size) :
  (execOp ev o).run Try.prog w = .ok (.value (.agg cs)) w := by
 unfold execOp
 simp only [ho, hx, Sem.run_bind, Sem.run_pure, run_load_val_ hg hu hi, Result.andThen_ok]
theorem rb4_conv (W : World) (x : Int) : (convert 23 9 (.slice (some ⟨W.heap.size, 0, none⟩) 4 4)).run Try.prog (W.alloc (.cells #[.int .u8 (x.tdiv 16777216 % 256), .int .u8 (x.tdiv 65536 % 256), .int .u8 (x.tdiv 256 % 256), .int .u8 (x.tmod 256 % 256)] 5 (0, 0))).drew = .ok (.string (strOfNums (rb4 x))) (W.alloc (.cells #[.int .u8 (x.tdiv 16777216 % 256), .int .u8 (x.tdiv 65536 % 256), .int .u8 (x.tdiv 256 % 256), .int .u8 (x.tmod 256 % 256)] 5 (0, 0))).drew :=
 string_of_reads Try.underlying23 Try.underlying5 Try.underlying9 ⟨rfl, by decide, fun _ => ⟨_, rfl, fun j hj => by
  rw [add_plain, blk_cell (blk_drew (blk_new W _)) j]
  exact cs8_get (rb4 x) j hj⟩⟩
theorem rprime_some (i : Nat) (hi : i < 8) : strongroomref02_Prime.f 200 (i : Int) = some (primesP.getD i 0) := by
 rcases (show i = 0 ∨ i = 1 ∨ i = 2 ∨ i = 3 ∨ i = 4 ∨ i = 5 ∨ i = 6 ∨ i = 7 by omega) with rfl | rfl | rfl | rfl | rfl | rfl | rfl | rfl <;> (clear hi; kernel_rfl)
theorem rroot_some (i : Nat) (hi : i < 8) : strongroomref02_Root.f 60 (primesP.getD i 0) false = some (H8.getD i 0) := by
 rcases (show i = 0 ∨ i = 1 ∨ i = 2 ∨ i = 3 ∨ i = 4 ∨ i = 5 ∨ i = 6 ∨ i = 7 by omega) with rfl | rfl | rfl | rfl | rfl | rfl | rfl | rfl <;> (clear hi; kernel_rfl)
structure RSumSt (w w' : World) (g3 g4 : Nat) (S : List Int) : Prop where
 h3 : w'.heap[g3]? = some (.cells (cs32 K64) 106 (0, 0))
 h4 : w'.heap[g4]? = some (.cells (cs32 S) 38 (0, 0))
 hl : Below w.heap.size w w'
theorem RSumSt.drewN {w w' : World} {g3 g4 : Nat} {S : List Int} (h : RSumSt w w' g3 g4 S) (n : Nat) : RSumSt w (w'.drewN n) g3 g4 S := ⟨blk_drewN h.h3 n, blk_drewN h.h4 n, pw_below_drewN h.hl n⟩
theorem RSumSt.below {w w' w'' : World} {g3 g4 : Nat} {S : List Int} (h : RSumSt w w' g3 g4 S) (hb : Below w'.heap.size w' w'') : RSumSt w w'' g3 g4 S := ⟨blk_below h.h3 hb, blk_below h.h4 hb, below_step h.hl hb⟩
theorem RSumSt.set4 {w w' : World} {g3 g4 : Nat} {S : List Int} (h : RSumSt w w' g3 g4 S) (hn : g3 ≠ g4) (hg : w.heap.size ≤ g4) (i : Nat) (n : Int) : RSumSt w (w'.setCell ⟨g4, i, none⟩ (.int .u32 n)) g3 g4 (S.set i n) :=
 ⟨blk_far h.h3 hn _, by rw [← cs32_set]; exact blk_set h.h4 i _, below_set h.hl hg⟩
theorem RSumSt.row {w w' : World} {g3 g4 : Nat} {S : List Int} (h : RSumSt w w' g3 g4 S) (hn : g3 ≠ g4) (hg : w.heap.size ≤ g4) (Z : List Int) : RSumSt w (w'.setRow g4 (cs32 Z)) g3 g4 Z :=
 ⟨by rw [setRow_other _ _ _ _ hn]; exact h.h3, setRow_heap _ _ _ _ _ _ h.h4, h.hl.trans (below_setRow hg)⟩
set_option maxHeartbeats 4000000 in
set_option maxRecDepth 100000 in
theorem rsum_walk {w : World} (b : ByteArray) (hb : b.size < 70368744177664) :
  Calls Try.prog 107 #[.string b] w fun e w' => e = .returned (.string (rsumP b)) ∧ Below w.heap.size w w' := by
 have HBS := Aside0.mk hb
 have hu106 := Try.underlying106
 have hu38 := Try.underlying38
 have hK6 : (Try.prog.info? 106).map (·.size) = some (cs32 K64).size := by kernel_rfl
 have hKO : (cs32 (List.replicate 64 0)).size = (cs32 K64).size := by kernel_rfl
 have HK6 := Aside0.mk hK6
 have HKO := Aside0.mk hKO
 have HKA : Aside0 ((cs32 K64).all (·.oneCell') = true) := ⟨cs32_all _⟩
 clear hK6 hKO
 go_enter Try.func107, Try.ntmps107
 go_wp2_with fail
 refine (strongroomref02_Words.calls w).mono ?_
 rintro e w1 ⟨rfl, hl1⟩
 have HL1 := Aside0.mk hl1
 clear hl1
 go_upto_region 3 with (first | ((with_reducible refine gate_dst (N := 3) rfl ?_); refine box_event ?hg (N := 3) ?hd (cs := cs32 (List.replicate 64 0)) (t := 106) ?hr ?_; (case hd => rfl); (case hg => rfl); (case hr => first | (go_simp; done) | (go_simp; rfl)); intro g3 hg3 w3 hb3 hbel3; have HG3 := Aside0.mk hg3; have HB3 := Aside0.mk hb3; have HL3 := Aside0.mk hbel3; clear hg3 hb3 hbel3) | (refine gate_ (.store 106 (.tmp 3) (.tmp 10)) rfl ?_; refine wpList_store_row rfl 106 (.tmp 3) (.tmp 10) rfl g3 (cs32 K64) rfl rfl 106 _ HB3.out HK6.out HKO.out HKA.out ?_) | ((with_reducible refine gate_dst (N := 4) rfl ?_); refine box_event ?hg (N := 4) ?hd (cs := cs32 (List.replicate 8 0)) (t := 38) ?hr ?_; (case hd => rfl); (case hg => rfl); (case hr => first | (go_simp; done) | (go_simp; rfl)); intro g4 hg4 w4 hb4 hbel4; have HG4 := Aside0.mk hg4; have HB4 := Aside0.mk hb4; have HL4 := Aside0.mk hbel4; clear hg4 hb4 hbel4))
 have HS : Aside0 (RSumSt w w4 g3 g4 (H8.take 0 ++ List.replicate (8 - 0) 0)) := ⟨blk_below (setRow_heap _ _ _ _ _ _ HB3.out) HL4.out, HB4.out, below_step ((below_step HL1.out HL3.out).trans (below_setRow (by rw [HG3.out]; exact below_size HL1.out))) HL4.out⟩
 have HNE : Aside0 (g3 ≠ g4) := ⟨by rw [HG4.out, size_setRow]; exact Nat.ne_of_lt (blk_lt HB3.out)⟩
 have HGE : Aside0 (w.heap.size ≤ g4) := ⟨by rw [HG4.out, size_setRow]; exact below_size (below_step HL1.out HL3.out)⟩
 clear HB3 HB4 HL1 HL3 HL4 HG3 HG4 HK6 HKO HKA
 go_wp2
 go_loopg [5] 8 (fun kq v w' => ∃ i : Nat, v = .int .i64 i ∧ Aside0 (i + kq = 8) ∧ Aside0 (RSumSt w w' g3 g4 (H8.take i ++ List.replicate (8 - i) 0)))
 case atStart => exact ⟨0, rfl, ⟨rfl⟩, HS⟩
 case round =>
  clear HS
  obtain ⟨i, rfl, HI, HS⟩ := hrel
  by_cases hi : i < 8
  ·have d1 : decide ((i : Int) < 8) = true := decide_eq_true (by omega)
   have p1 := eq_true (show (0 : Int) ≤ (i : Int) by omega)
   have p2 := eq_true (show (i : Int) < 8 by omega)
   have f1 : ∀ i, wr.frozen? ⟨g4, i, none⟩ = false := fun i => blk_frozen HS.out.h4 _
   have c1 : wr.cell? ⟨g4, i, none⟩ = some (.int .u32 0) := by rw [blk_cell HS.out.h4 i, cs32_get _ _ (by rw [(h8_step i hi).2.1]; exact hi), (h8_step i hi).2.2]
   obtain ⟨p, hp⟩ : ∃ p, primesP.getD i 0 = p := ⟨_, rfl⟩
   obtain ⟨r, hr⟩ : ∃ p, H8.getD i 0 = p := ⟨_, rfl⟩
   have HP : Aside0 (strongroomref02_Prime.f 200 (i : Int) = some p) := ⟨by rw [← hp]; exact rprime_some i hi⟩
   have HR : Aside0 (strongroomref02_Root.f 60 p false = some r) := ⟨by rw [← hp, ← hr]; exact rroot_some i hi⟩
   have HRR := Aside0.mk hr
   have HI8 := Aside0.mk hi
   clear hp hr hi
   go_wp2_with fail
   refine (strongroomref02_Prime.calls 200 i p _ HP.out).mono ?_
   rintro e w5 ⟨rfl, ⟨n5, rfl⟩⟩
   go_wp2_with fail
   refine (strongroomref02_Root.calls 60 p false r _ HR.out).mono ?_
   rintro e w6 ⟨rfl, ⟨n6, rfl⟩⟩
   go_wp2
   go_roundg (7 - i)
   case measure => have := HI.out; have := HI8.out; omega
   case rel =>
    refine ⟨i + 1, inc64 i (by have := HI8.out; omega), ⟨by have := HI8.out; omega⟩, ⟨?_⟩⟩
    have h8 := h8_step i HI8.out
    rw [← h8.1, HRR.out]
    exact (HS.out.drewN _).set4 HNE.out HGE.out i r
  ·have hi8 : i = 8 := by have := HI.out; omega
   subst hi8
   clear HI hi
   have HS8 : Aside0 (RSumSt w wr g3 g4 H8) := HS
   clear HS
   have HPAD : Aside0 (strongroomref02_Pad.f 80 (b.size : Int) = some (strOfNums (padL b.size))) := ⟨rpad_some b.size (by have := HBS.out; omega)⟩
   go_wp2_with fail
   refine (strongroomref02_Pad.calls 80 (b.size : Int) _ _ HPAD.out).mono ?_
   rintro e w5 ⟨rfl, hb5⟩
   have HS : Aside0 (RSumSt w w5 g3 g4 H8) := ⟨HS8.out.below hb5⟩
   clear HS8 hb5 HPAD
   have HAS : Aside0 ((allP b).size < 80368744177664 ∧ (allP b).size % 64 = 0) := ⟨by rw [allP_size, padL_length]; have := HBS.out; omega, allP_mod b⟩
   have ha : b ++ strOfNums (padL b.size) = allP b := rfl
   obtain ⟨al, hal⟩ : ∃ x, allP b = x := ⟨_, rfl⟩
   obtain ⟨pd, hpd⟩ : ∃ x, strOfNums (padL b.size) = x := ⟨_, rfl⟩
   have HSP : Aside0 (rsumP b = strOfNums (rb32 (rabsorb K64 al (al.size / 64) H8 0) 8)) := ⟨by rw [rsumP, hal]⟩
   rw [hal, hpd] at ha
   rw [hal] at HAS
   rw [hpd]
   have hsz : b.size + pd.size = al.size := by rw [← ha, ByteArray.size_append]
   have hlim : (9223372036854775807 < b.size + pd.size) = False := eq_false (by have := HAS.out.1; omega)
   have hlim2 : decide (b.size + pd.size ≤ 9223372036854775807) = true := decide_eq_true (by have := HAS.out.1; omega)
   clear hal hpd hsz
   obtain ⟨nb, hnb⟩ : ∃ n, al.size = 64 * n := ⟨al.size / 64, by have := HAS.out.2; omega⟩
   have HNB := Aside0.mk hnb
   have HLT : Aside0 (64 * nb < 80368744177664) := ⟨by have := HAS.out.1; omega⟩
   obtain ⟨ZZ, hZZ⟩ : ∃ x, rabsorb K64 al (al.size / 64) H8 0 = x := ⟨_, rfl⟩
   have HZ0 : Aside0 (rabsorb K64 al (nb - 0) H8 0 = ZZ) := ⟨by rw [← hZZ, hnb, Nat.mul_div_cancel_left nb (by omega)]; rfl⟩
   rw [hZZ] at HSP
   clear hnb hZZ HAS
   go_wp2
   try rw [ha]
   clear ha
   go_loopg [7] nb (fun kq v w' => ∃ (j : Nat) (S : List Int), v = .int .i64 ((64 * j : Nat) : Int) ∧ Aside0 (j + kq = nb) ∧ Aside0 (S.length = 8) ∧ Aside0 (rabsorb K64 al (nb - j) S j = ZZ) ∧ Aside0 (RSumSt w w' g3 g4 S))
   case atStart => exact ⟨0, H8, rfl, ⟨by omega⟩, ⟨rfl⟩, HZ0, HS⟩
   case round =>
    clear HS HZ0 hlim hlim2
    obtain ⟨j, S, rfl, HJ, HSL, HZ0, HS⟩ := hrel
    by_cases hj : j < nb
    ·obtain ⟨q, hq⟩ : ∃ q, 64 * j = q := ⟨_, rfl⟩
     obtain ⟨r, hr⟩ : ∃ x, q + 64 = x := ⟨_, rfl⟩
     have HQ := Aside0.mk hq
     have HR := Aside0.mk hr
     have HAL : Aside0 (r ≤ al.size) := ⟨by rw [HNB.out]; omega⟩
     have HJ1 := Aside0.mk hj
     have hlt := HLT.out
     have w1 : wrap64 ((q : Int) + 64) = (r : Int) := by rw [wrap64_id _ (by omega) (by omega)]; omega
     have d1 : decide (((64 * j : Nat) : Int) < (al.size : Int)) = true := decide_eq_true (by rw [HNB.out]; omega)
     have p1 := eq_true (show (0 : Int) ≤ (q : Int) by omega)
     have p2 := eq_true (show (q : Int) ≤ (r : Int) by omega)
     have p3 := eq_true (show (r : Int) ≤ (al.size : Int) by rw [HNB.out]; omega)
     have p4 := eq_true (show (0 : Int) ≤ (r : Int) by omega)
     have n2 := eq_true (show q ≤ r by omega)
     have n3 := eq_true (show r ≤ al.size by exact HAL.out)
     rw [hq] at d1
     have d2 : decide (q < al.size) = true := decide_eq_true (by have := HAL.out; omega)
     have HEX : Aside0 ((al.extract q r).size = 64) := ⟨by rw [ByteArray.size_extract]; have := HAL.out; omega⟩
     obtain ⟨S2, hS2⟩ : ∃ S2, rmixP K64 S (al.extract q r) = S2 := ⟨_, rfl⟩
     have hS2l : S2.length = 8 := by rw [← hS2, rmixP_length]; exact HSL.out
     have HMX := Aside0.mk hS2
     have HST : Aside0 (∀ W : World, W.heap[g4]? = some (.cells (cs32 S) 38 (0, 0)) → (storeCells ⟨g4, 0, none⟩ (cs32 S2).toList).run Try.prog W = .ok () (W.setRow g4 (cs32 S2))) := ⟨fun W hW => by
      have hst := run_storeCells_from (P := Try.prog) g4 38 (cs32 S2).toList 0 (cs32 S) W hW (by simp [cs32_size, hS2l, HSL.out]) (by simp [cs32, Value.oneCell'])
      simpa using hst⟩
     have HSZ : Aside0 ((cs32 S2).size = 8) := ⟨by rw [cs32_size, hS2l]⟩
     have HS38 : Aside0 ((Try.prog.info? 38).map (·.size) = some (cs32 S).size) := ⟨by rw [cs32_size, HSL.out]; kernel_rfl⟩
     have HK6 : Aside0 ((Try.prog.info? 106).map (·.size) = some (cs32 K64).size) := ⟨by kernel_rfl⟩
     have HS2L := Aside0.mk hS2l
     have HST2 : Aside0 (rabsorb K64 al (nb - (j + 1)) S2 (j + 1) = ZZ) := ⟨by
      have h := HZ0.out
      rw [show nb - j = (nb - (j + 1)) + 1 by omega, rabsorb, hq, hr, hS2] at h
      exact h⟩
     clear hS2 hS2l hq hr hj hlt HZ0
     rw [HQ.out]
     go_wp2
     refine start_ (n := 9) (S := fun w' => w'.heap[g3]? = some (.cells (cs32 K64) 106 (0, 0)) ∧ w'.heap[g4]? = some (.cells (cs32 S) 38 (0, 0))) (ds := [8]) #[false, false, false, false, false, false, false, false, false] (by kernel_rfl) rfl rfl ⟨(blk_drew HS.out.h3), (blk_drew HS.out.h4)⟩ (fun hHeld => ?_)
     refine pure_ (i := 2) (N := some 33) (v := ?_) (a' := ?_) #[false, false, true, false, false, false, false, false, false] rfl rfl (by kernel_rfl) (fun _ _ _ h => h) (Or.inl ⟨by rfl, ?_⟩) ?_ ?_
     rotate_left
     ·intro w'
      go_simp
      with_reducible rfl
     rotate_left
     ·simp only [Act.put, List.setIfInBounds_toArray, List.set_cons_zero, List.set_cons_succ, i64_w, i32_w]
      rfl
     refine pure_ (i := 3) (N := some 34) (v := ?_) (a' := ?_) #[false, false, true, true, false, false, false, false, false] rfl rfl (by kernel_rfl) (fun _ _ _ h => h) (Or.inl ⟨by rfl, ?_⟩) ?_ ?_
     rotate_left
     ·intro w'
      go_simp
      with_reducible rfl
     rotate_left
     ·simp only [Act.put, List.setIfInBounds_toArray, List.set_cons_zero, List.set_cons_succ, i64_w, i32_w]
      rfl
     refine pure_ (i := 4) (N := some 35) (v := ?_) (a' := ?_) #[false, false, true, true, true, false, false, false, false] rfl rfl (by kernel_rfl) (fun _ _ _ h => h) (Or.inl ⟨by rfl, ?_⟩) ?_ ?_
     rotate_left
     ·intro w'
      go_simp
      with_reducible rfl
     rotate_left
     ·simp only [Act.put, List.setIfInBounds_toArray, List.set_cons_zero, List.set_cons_succ, i64_w, i32_w]
      rfl
     refine pure_ (i := 5) (N := some 36) (v := ?_) (a' := ?_) #[false, false, true, true, true, true, false, false, false] rfl rfl (by kernel_rfl) (fun _ _ _ h => h) (Or.inl ⟨by rfl, ?_⟩) ?_ ?_
     rotate_left
     ·intro w'
      go_simp
      with_reducible rfl
     rotate_left
     ·simp only [Act.put, List.setIfInBounds_toArray, List.set_cons_zero, List.set_cons_succ, i64_w, i32_w]
      rfl
     refine pure_ (i := 6) (N := some 37) (v := ?_) (a' := ?_) #[false, false, true, true, true, true, true, false, false] rfl rfl (by kernel_rfl) (fun _ _ _ h => h) (Or.inl ⟨by rfl, ?_⟩) ?_ ?_
     rotate_left
     ·intro w'
      go_simp
      with_reducible rfl
     rotate_left
     ·simp only [Act.put, List.setIfInBounds_toArray, List.set_cons_zero, List.set_cons_succ, i64_w, i32_w]
      rfl
     refine take_ (i := 0) (N := some 31) (v := ?_) (a' := ?_) #[true, false, true, true, true, true, true, false, false] rfl rfl (by kernel_rfl) (fun _ _ _ h => h) (Or.inl ⟨by rfl, ?_⟩) hHeld ?_ ?_
     rotate_left
     ·rintro w' ⟨s0, s1⟩
      refine exec_load_ (x := .tmp 3) (g := g3) ?_ ?_ s0 hu106 HK6.out <;> rfl
     rotate_left
     ·simp only [Act.put, List.setIfInBounds_toArray, List.set_cons_zero, List.set_cons_succ, i64_w, i32_w]
      rfl
     refine take_ (i := 1) (N := some 32) (v := ?_) (a' := ?_) #[true, true, true, true, true, true, true, false, false] rfl rfl (by kernel_rfl) (fun _ _ _ h => h) (Or.inl ⟨by rfl, ?_⟩) hHeld ?_ ?_
     rotate_left
     ·rintro w' ⟨s0, s1⟩
      refine exec_load_ (x := .tmp 4) (g := g4) ?_ ?_ s1 hu38 HS38.out <;> rfl
     rotate_left
     ·simp only [Act.put, List.setIfInBounds_toArray, List.set_cons_zero, List.set_cons_succ, i64_w, i32_w]
      rfl
     refine one_ (i := 7) (N := some 38) #[true, true, true, true, true, true, true, true, false] rfl rfl (by kernel_rfl) (by decide) (fun K hK => ?_)
     refine goes_ Try.func113 (by kernel_rfl) rfl #[.agg (cs32 K64), .agg (cs32 S), .string (al.extract q r)] (by rfl) rfl rfl (by simp only [List.map_toArray, List.map_cons, List.map_nil]; rfl) ?_
     with_reducible refine (rmix_walk K64_length HSL.out HEX.out).mono ?_
     rintro e w9 ⟨rfl, hb9⟩
     refine ⟨_, rfl, ?_⟩
     rw [HMX.out]
     have HS9 := Aside0.mk ((HS.out.drewN 1).below hb9)
     clear hb9
     refine hK.out _ _ ⟨HS9.out.h3, HS9.out.h4⟩ (fun hHeld => ?_)
     clear hK K
     refine norm_ (a' := ?_) ?_ ?_
     rotate_left
     ·show Act.put _ (some 38) _ = _
      simp only [Act.put, List.setIfInBounds_toArray, List.set_cons_zero, List.set_cons_succ, i64_w, i32_w]
      rfl
     refine last_ (i := 8) (N := none) #[true, true, true, true, true, true, true, true, true] rfl rfl (by kernel_rfl) (by decide) (fun K hK => ?_)
     refine skip_ (w1 := ?_) (by rfl) rfl ?_ ?_
     rotate_left
     ·have hst := HST.out _ HS9.out.h4
      have hsz := HSZ.out
      go_simp
      rfl
     refine hK.out _ _ ?_
     clear hK K
     refine done_ (by kernel_rfl) ?_
     go_wp2
     go_roundg (nb - (j + 1))
     case measure => have := HJ.out; have := HJ1.out; omega
     case rel =>
      refine ⟨j + 1, S2, ?_, ⟨by have := HJ.out; have := HJ1.out; omega⟩, HS2L, HST2, ⟨HS9.out.row HNE.out HGE.out S2⟩⟩
      have := HQ.out
      have := HR.out
      rw [show 64 * (j + 1) = r by omega, w1]
    ·have hj2 : j = nb := by have := HJ.out; omega
     subst hj2
     have hz := HZ0.out
     rw [Nat.sub_self, rabsorb] at hz
     subst hz
     have d1 : decide (((64 * j : Nat) : Int) < (al.size : Int)) = false := decide_eq_false (by rw [HNB.out]; omega)
     have d2 : decide (64 * j < al.size) = false := decide_eq_false (by rw [HNB.out]; omega)
     obtain ⟨q, hq⟩ : ∃ q, 64 * j = q := ⟨_, rfl⟩
     rw [hq] at d1 d2 ⊢
     clear HZ0 HJ hj HLT HNB hq
     go_wp2
     go_loopg [8, 9] 8 (fun kq v8 v w' => ∃ (i : Nat), v8 = .string (strOfNums (rb32 S i)) ∧ v = .int .i64 i ∧ Aside0 (i + kq = 8) ∧ Aside0 (RSumSt w w' g3 g4 S))
     case atStart => exact ⟨0, rfl, rfl, ⟨rfl⟩, HS⟩
     case round =>
      clear HS d1 d2
      obtain ⟨i, rfl, rfl, HI, HS⟩ := hrel
      by_cases hi : i < 8
      ·have c4 : wr.cell? ⟨g4, i, none⟩ = some (.int .u32 (S.getD i 0)) := by rw [blk_cell HS.out.h4 i]; exact cs32_get _ i (by rw [HSL.out]; exact hi)
       obtain ⟨x, hx⟩ : ∃ x, S.getD i 0 = x := ⟨_, rfl⟩
       rw [hx] at c4
       have HX : Aside0 (rb32 S (i + 1) = rb32 S i ++ rb4 x) := ⟨by rw [rb32, hx]⟩
       have HI8 := Aside0.mk hi
       have HSZ : Aside0 ((strOfNums (rb32 S i)).size ≤ 32) := ⟨by rw [strOfNums_size, rb32_length]; omega⟩
       obtain ⟨o, ho⟩ : ∃ o, strOfNums (rb32 S i) = o := ⟨_, rfl⟩
       rw [ho] at HSZ
       rw [ho]
       have HO := Aside0.mk ho
       have d1 : decide ((i : Int) < 8) = true := decide_eq_true (by omega)
       have p1 := eq_true (show (0 : Int) ≤ (i : Int) by omega)
       have p2 := eq_true (show (i : Int) < 8 by omega)
       have hcv := rb4_conv wr x
       obtain ⟨s4, hs4⟩ : ∃ s, strOfNums (rb4 x) = s := ⟨_, rfl⟩
       have hs4z : s4.size = 4 := by rw [← hs4, strOfNums_size]; rfl
       rw [hs4] at hcv
       have hlim : (9223372036854775807 < o.size + s4.size) = False := eq_false (by have := HSZ.out; omega)
       have HS4 := Aside0.mk hs4
       clear hx hi ho hs4 hs4z
       go_wp2
       go_region
       all_goals
        go_wp2
        go_roundg (7 - i)
        case measure => have := HI.out; have := HI8.out; omega
        case rel =>
         refine ⟨i + 1, by rw [HX.out, rstr_append, HO.out, HS4.out], inc64 i (by have := HI8.out; omega), ⟨by have := HI.out; have := HI8.out; omega⟩, ⟨HS.out.below (below_drew (below_alloc (Below.refl _ _) _))⟩⟩
      ·have hi8 : i = 8 := by have := HI.out; omega
       subst hi8
       go_wp2
       go_ret
       exact ⟨by rw [HSP.out]; rfl, HS.out.hl⟩
end Go.Proofs.Ytcdnmlfnfhoieaa.A

/- strongroomref02.Sum reckons what sha.Sum does. No condition. -/
namespace Go.Proofs.Ytcdnmlfnfhoieaa.A
open Go.RowKit Go.Proofs.YtcdnmlfnfhoieaaW.PrintWords Go.Proofs.YtcdnmlfnfhoieaaW.PrintLast Go.Proofs.YtcdnmlfnfhoieaaW.PrintMore Go.Proofs.Ytcdnmlfnfhoieaa.Bs
theorem rwrap32 (n : Int) : IntKind.u32.wrap n = n % 4294967296 := by
 unfold IntKind.wrap
 have e : (2 : Int) ^ IntKind.u32.bits = 4294967296 := by decide
 have s : IntKind.u32.signed = false := rfl
 simp only [e, s, Bool.false_and]
 rw [if_neg (by simp)]
theorem or32_comm (x y : Int) : Go.bits .or .u32 x y = Go.bits .or .u32 y x := by
 show IntKind.u32.wrap ((BitVec.ofInt 32 x ||| BitVec.ofInt 32 y).toNat : Int) = IntKind.u32.wrap ((BitVec.ofInt 32 y ||| BitVec.ofInt 32 x).toNat : Int)
 rw [BitVec.or_comm]
theorem or32_nat (a b : Nat) (ha : a < 4294967296) (hb : b < 4294967296) : Go.bits .or .u32 (a : Int) (b : Int) = ((a ||| b : Nat) : Int) := by
 have hx : a ||| b < 2 ^ 32 := Nat.or_lt_two_pow (by omega) (by omega)
 have h1 : (BitVec.ofInt 32 (a : Int)).toNat = a := by
  rw [BitVec.ofInt_natCast, BitVec.toNat_ofNat]; exact Nat.mod_eq_of_lt (by omega)
 have h2 : (BitVec.ofInt 32 (b : Int)).toNat = b := by
  rw [BitVec.ofInt_natCast, BitVec.toNat_ofNat]; exact Nat.mod_eq_of_lt (by omega)
 show IntKind.u32.wrap ((BitVec.ofInt 32 (a : Int) ||| BitVec.ofInt 32 (b : Int)).toNat : Int) = _
 rw [BitVec.toNat_or, h1, h2, rwrap32]
 omega
theorem not32 (x : Int) (h0 : 0 ≤ x) (h1 : x < 4294967296) : Go.bits .xor .u32 IntKind.u32.max x = (4294967295 - x) % 4294967296 := by
 obtain ⟨n, rfl⟩ : ∃ n : Nat, x = (n : Int) := ⟨x.toNat, by omega⟩
 have hm : IntKind.u32.max = 4294967295 := by decide
 have h2 : (BitVec.ofInt 32 (n : Int)).toNat = n := by
  rw [BitVec.ofInt_natCast, BitVec.toNat_ofNat]; exact Nat.mod_eq_of_lt (by omega)
 have ha : BitVec.ofInt 32 4294967295 = BitVec.allOnes 32 := by decide
 rw [hm]
 show IntKind.u32.wrap ((BitVec.ofInt 32 4294967295 ^^^ BitVec.ofInt 32 (n : Int)).toNat : Int) = _
 rw [ha, BitVec.allOnes_xor, BitVec.toNat_not, h2, rwrap32]
 omega
theorem turn_eq_ (x n : Int) (m : Int) (e1 : Go.bits .and .u64 (IntKind.u64.wrap (wrap64 (-n))) 31 = m) (e2 : IntKind.u64.wrap (32 - m) = n) (e3 : IntKind.u64.wrap (32 - n) = m) : turnP x n = rturnP x n := by
 rw [turnP, rturnP, e1, e2, e3, or32_comm]
theorem teq2 (x : Int) : turnP x 2 = rturnP x 2 := turn_eq_ x 2 30 (by decide +kernel) (by decide +kernel) (by decide +kernel)
theorem teq6 (x : Int) : turnP x 6 = rturnP x 6 := turn_eq_ x 6 26 (by decide +kernel) (by decide +kernel) (by decide +kernel)
theorem teq7 (x : Int) : turnP x 7 = rturnP x 7 := turn_eq_ x 7 25 (by decide +kernel) (by decide +kernel) (by decide +kernel)
theorem teq11 (x : Int) : turnP x 11 = rturnP x 11 := turn_eq_ x 11 21 (by decide +kernel) (by decide +kernel) (by decide +kernel)
theorem teq13 (x : Int) : turnP x 13 = rturnP x 13 := turn_eq_ x 13 19 (by decide +kernel) (by decide +kernel) (by decide +kernel)
theorem teq17 (x : Int) : turnP x 17 = rturnP x 17 := turn_eq_ x 17 15 (by decide +kernel) (by decide +kernel) (by decide +kernel)
theorem teq18 (x : Int) : turnP x 18 = rturnP x 18 := turn_eq_ x 18 14 (by decide +kernel) (by decide +kernel) (by decide +kernel)
theorem teq19 (x : Int) : turnP x 19 = rturnP x 19 := turn_eq_ x 19 13 (by decide +kernel) (by decide +kernel) (by decide +kernel)
theorem teq22 (x : Int) : turnP x 22 = rturnP x 22 := turn_eq_ x 22 10 (by decide +kernel) (by decide +kernel) (by decide +kernel)
theorem teq25 (x : Int) : turnP x 25 = rturnP x 25 := turn_eq_ x 25 7 (by decide +kernel) (by decide +kernel) (by decide +kernel)
theorem low_eq (x : Int) : lowP x = rlowP x := by rw [lowP, rlowP, teq7, teq18]
theorem high_eq (x : Int) : highP x = rhighP x := by rw [highP, rhighP, teq17, teq19]
/-- One more byte. -/
theorem byte_val (v b : Nat) (hv : v < 16777216) (hb : b < 256) : byteP (v : Int) (b : Int) = ((v * 256 + b : Nat) : Int) := by
 have e1 : (v : Int) * 256 % 4294967296 = ((v * 256 : Nat) : Int) := by omega
 have e2 : (b : Int) % 4294967296 = (b : Int) := by omega
 rw [byteP, e1, e2, or32_nat _ _ (by omega) (by omega)]
 congr 1
 have h := Nat.shiftLeft_add_eq_or_of_lt (b := b) (i := 8) (by omega) v
 rw [Nat.shiftLeft_eq, show (2 : Nat) ^ 8 = 256 by decide] at h
 exact h.symm
theorem getD_bytes (b : ByteArray) (i : Nat) : (bytesOf b).getD i 0 = bAt b i := by
 unfold bytesOf bAt
 rw [List.getD_eq_getElem?_getD, List.getElem?_map, Array.getElem?_toList, Array.getD_eq_getD_getElem?]
 cases b.data[i]? <;> rfl
theorem part_val (b : ByteArray) (t : Nat) : partP (bytesOf b) 0 t 4 = rwordP b t := by
 have g : ∀ i, ∃ n : Nat, bAt b i = (n : Int) ∧ n < 256 := fun i => ⟨(b.data.getD i 0).toNat, rfl, (b.data.getD i 0).toNat_lt⟩
 obtain ⟨n0, h0, l0⟩ := g (4 * t + 0)
 obtain ⟨n1, h1, l1⟩ := g (4 * t + 1)
 obtain ⟨n2, h2, l2⟩ := g (4 * t + 2)
 obtain ⟨n3, h3, l3⟩ := g (4 * t + 3)
 rw [partP, partP, partP, partP, partP, getD_bytes, getD_bytes, getD_bytes, getD_bytes, rwordP, h0, h1, h2, h3, show (0 : Int) = ((0 : Nat) : Int) from rfl, byte_val 0 n0 (by omega) l0, byte_val _ n1 (by omega) l1, byte_val _ n2 (by omega) l2, byte_val _ n3 (by omega) l3]
 rw [Nat.add_zero] at h0
 rw [h0]
 omega
theorem sched_zero (B : List Int) : ∀ t i, t ≤ i → i < 64 → (schedP B t).getD i 0 = 0 := by
 intro t
 induction t with
 | zero =>
  intro i _ hi
  rw [schedP, List.getD_eq_getElem?_getD, List.getElem?_replicate, if_pos hi]
  rfl
 | succ t ih =>
  intro i h hi
  rw [schedP, List.getD_eq_getElem?_getD, List.getElem?_set_ne (by omega), ← List.getD_eq_getElem?_getD, ih i (by omega) hi]
theorem sched_eq (b : ByteArray) : ∀ t, t ≤ 64 → schedP (bytesOf b) t = rschedP b t := by
 intro t
 induction t with
 | zero => intro _; rfl
 | succ t ih =>
  intro h
  have e := ih (by omega)
  rw [schedP, rschedP, ← e]
  congr 1
  unfold nextP rnextP
  split
  ·rw [sched_zero _ t t (Nat.le_refl _) (by omega), part_val]
  ·rw [low_eq, high_eq]
structure InR (z : R8) : Prop where
 a : 0 ≤ z.a ∧ z.a < 4294967296
 b : 0 ≤ z.b ∧ z.b < 4294967296
 c : 0 ≤ z.c ∧ z.c < 4294967296
 d : 0 ≤ z.d ∧ z.d < 4294967296
 e : 0 ≤ z.e ∧ z.e < 4294967296
 f : 0 ≤ z.f ∧ z.f < 4294967296
 g : 0 ≤ z.g ∧ z.g < 4294967296
theorem rinw (x : Int) : 0 ≤ x % 4294967296 ∧ x % 4294967296 < 4294967296 := ⟨Int.emod_nonneg _ (by decide), Int.emod_lt_of_pos _ (by decide)⟩
theorem round_eq (k x : Int) (z : R8) (h : InR z) : roundP k x z = rroundP k x z := by
 have hu : uP k x z = ruP k x z := by rw [uP, ruP, teq6, teq11, teq25, not32 _ h.e.1 h.e.2]
 have hv : vP z = rvP z := by rw [vP, rvP, teq2, teq13, teq22]
 rw [roundP, rroundP, hu, hv]
theorem round_in (k x : Int) (z : R8) (h : InR z) : InR (roundP k x z) := ⟨rinw _, h.a, h.b, h.c, rinw _, h.e, h.f⟩
theorem rounds_in (K W : List Int) (z : R8) (h : InR z) : ∀ t, InR (roundsP K W z t)
 | 0 => h
 | t + 1 => round_in _ _ _ (rounds_in K W z h t)
theorem rounds_eq (K W : List Int) (z : R8) (h : InR z) : ∀ t, roundsP K W z t = rroundsP K W z t
 | 0 => rfl
 | t + 1 => by rw [roundsP, rroundsP, ← rounds_eq K W z h t, round_eq _ _ _ (rounds_in K W z h t)]
def AllIn (S : List Int) : Prop := ∀ i, 0 ≤ S.getD i 0 ∧ S.getD i 0 < 4294967296
theorem mix_eq (K S : List Int) (b : ByteArray) (h : AllIn S) : mixP K S (bytesOf b) = rmixP K S b := by
 rw [mixP, rmixP, sched_eq b 64 (Nat.le_refl _), rounds_eq _ _ _ ⟨h 0, h 1, h 2, h 3, h 4, h 5, h 6⟩]
theorem addP_in (S Z : List Int) (h : AllIn S) : ∀ i, AllIn (addP S Z i)
 | 0 => h
 | i + 1 => by
  intro j
  rw [addP, List.getD_eq_getElem?_getD, List.getElem?_set]
  split
  ·split
   ·exact rinw _
   ·exact ⟨by decide, by decide⟩
  ·rw [← List.getD_eq_getElem?_getD]
   exact addP_in S Z h i j
theorem rmix_in (K S : List Int) (b : ByteArray) (h : AllIn S) : AllIn (rmixP K S b) := addP_in _ _ h _
theorem H8_in : AllIn H8 := by
 intro i
 rcases (show i = 0 ∨ i = 1 ∨ i = 2 ∨ i = 3 ∨ i = 4 ∨ i = 5 ∨ i = 6 ∨ i = 7 ∨ 8 ≤ i by omega) with rfl | rfl | rfl | rfl | rfl | rfl | rfl | rfl | h
 all_goals first
  | exact ⟨by decide, by decide⟩
  | (rw [List.getD_eq_getElem?_getD, List.getElem?_eq_none (by exact h)]; exact ⟨by decide, by decide⟩)
theorem bytes_extract (b : ByteArray) (i j : Nat) : bytesOf (b.extract i j) = ((bytesOf b).drop i).take (j - i) := by
 unfold bytesOf
 rw [ByteArray.data_extract, Array.toList_extract, List.map_take, List.map_drop]
theorem rabsorb_eq (K : List Int) (b : ByteArray) : ∀ (m : Nat) (S : List Int) (j : Nat), AllIn S → b.size = 64 * (j + m) → rabsorb K b m S j = (absorb K (64 * m) S ((bytesOf b).drop (64 * j))).1 ∧ AllIn (rabsorb K b m S j) := by
 intro m
 induction m with
 | zero => intro S j h hs; exact ⟨rfl, h⟩
 | succ m ih =>
  intro S j h hs
  obtain ⟨h1, h2⟩ := ih (rmixP K S (b.extract (64 * j) (64 * j + 64))) (j + 1) (rmix_in _ _ _ h) (by omega)
  refine ⟨?_, h2⟩
  rw [rabsorb, h1, ← mix_eq _ _ _ h, bytes_extract, show 64 * (m + 1) = 64 * m + 64 by omega, show 64 * j + 64 - 64 * j = 64 by omega]
  have e : (bytesOf b).drop (64 * j) = ((bytesOf b).drop (64 * j)).take 64 ++ (bytesOf b).drop (64 * (j + 1)) := by
   rw [show 64 * (j + 1) = 64 * j + 64 by omega, ← List.drop_drop, List.take_append_drop]
  conv => rhs; rw [e]
  rw [absorb_block K S _ _ (64 * m) (by rw [List.length_take, List.length_drop, bytesOf_length]; omega) (by rw [List.length_drop, bytesOf_length]; omega)]
theorem rb4_eq (x : Int) (h : 0 ≤ x ∧ x < 4294967296) : rb4 x = b4 x := by
 rw [rb4, b4, Int.tdiv_eq_ediv_of_nonneg h.1, Int.tdiv_eq_ediv_of_nonneg h.1, Int.tdiv_eq_ediv_of_nonneg h.1, Int.tmod_eq_emod_of_nonneg h.1, Int.emod_emod]
theorem rb32_eq (S : List Int) (h : AllIn S) : ∀ n, rb32 S n = b32 S n
 | 0 => rfl
 | n + 1 => by rw [rb32, b32, rb32_eq S h n, rb4_eq _ (h n)]
theorem rpadL_byte (n : Nat) : ∀ x ∈ padL n, 0 ≤ x ∧ x < 256 := by
 intro x hx
 rw [padL, List.mem_cons, List.mem_append] at hx
 rcases hx with rfl | hx | hx
 ·decide
 ·rw [List.eq_of_mem_replicate hx]; decide
 ·simp only [be8, List.mem_cons, List.not_mem_nil, or_false] at hx
  rcases hx with rfl | rfl | rfl | rfl | rfl | rfl | rfl | rfl <;> exact ⟨Int.emod_nonneg _ (by decide), Int.emod_lt_of_pos _ (by decide)⟩
theorem rbytesOf_str (l : List Int) (hb : ∀ x ∈ l, 0 ≤ x ∧ x < 256) : bytesOf (strOfNums l) = l := by
 unfold bytesOf
 rw [strOfNums_data, List.map_map]
 apply List.ext_getElem
 ·simp
 ·intro i h1 h2
  have := hb _ (List.getElem_mem h2)
  simp
  omega
theorem bytes_append (a b : ByteArray) : bytesOf (a ++ b) = bytesOf a ++ bytesOf b := by
 unfold bytesOf
 rw [ByteArray.data_append, Array.toList_append, List.map_append]
theorem bytes_allP (b : ByteArray) : bytesOf (allP b) = bytesOf b ++ padL b.size := by
 rw [allP, bytes_append, rbytesOf_str _ (rpadL_byte _)]
theorem rsum_eq (b : ByteArray) : rsumP b = sumP (bytesOf b) := by
 have hs := allP_mod b
 obtain ⟨m, hm⟩ : ∃ m, (allP b).size = 64 * m := ⟨(allP b).size / 64, by omega⟩
 obtain ⟨h1, h2⟩ := rabsorb_eq K64 (allP b) m H8 0 H8_in (by omega)
 rw [rsumP, sumP, sumL, digestP, hm, Nat.mul_div_cancel_left m (by omega), rb32_eq _ h2, h1, bytesOf_length, Nat.mul_zero, List.drop_zero, bytes_allP]
 have hl := allP_size b
 rw [← hl, hm]
end Go.Proofs.Ytcdnmlfnfhoieaa.A

/- strongroomref02.Sum in the form in which the other texts call it. -/
namespace Go.Proofs.Ytcdnmlfnfhoieaa.A
open Go.RowKit Go.Proofs.YtcdnmlfnfhoieaaW.PrintWords Go.Proofs.YtcdnmlfnfhoieaaW.PrintLast Go.Proofs.YtcdnmlfnfhoieaaW.PrintMore Go.Proofs.Ytcdnmlfnfhoieaa.Bs
def strongroomref02_Sum.f (b : ByteArray) : Option ByteArray := if b.size < 70368744177664 then some (sumP (bytesOf b)) else none
theorem strongroomref02_Sum.some_ (b : ByteArray) (h : b.size < 70368744177664) : strongroomref02_Sum.f b = some (sumP (bytesOf b)) := if_pos h
theorem strongroomref02_Sum.calls (b r : ByteArray) (w : World) (h : strongroomref02_Sum.f b = some r) : Calls Try.prog 107 #[.string b] w fun e w' => e = .returned (.string r) ∧ Below w.heap.size w w' := by
 unfold strongroomref02_Sum.f at h
 by_cases hc : b.size < 70368744177664
 ·rw [if_pos hc] at h
  obtain rfl := Option.some.inj h
  rw [← rsum_eq]
  exact rsum_walk b hc
 ·rw [if_neg hc] at h
  cases h
end Go.Proofs.Ytcdnmlfnfhoieaa.A

namespace Go.Proofs.Ytcdnmlfnfhoieaa.A
open Go.RowKit Go.Proofs.YtcdnmlfnfhoieaaW.PrintWords Go.Proofs.YtcdnmlfnfhoieaaW.PrintLast Go.Proofs.YtcdnmlfnfhoieaaW.PrintMore
attribute [local go_sem] max2_int min2_int max_two min_two max_three min_three max_four min_four
set_option linter.unusedVariables false
set_option linter.unusedSimpArgs false
/-! ### strongroomref03_turned: function 108 -/
mutual
def strongroomref03_turned.j0 : Nat → ByteArray → Int → Option (ByteArray)
 | 0, _, _ => none
 | k + 1, x0, x1 => strongroomref03_turned.l0 k x0 x1 (⟨#[]⟩ : ByteArray) 0
def strongroomref03_turned.l0 : Nat → ByteArray → Int → ByteArray → Int → Option (ByteArray)
 | 0, _, _, _, _ => none
 | k + 1, x0, x1, x5, x6 => if x6 < 64 then (if x6 < (x0.size : Int) then (if 0 ≤ x6 then ((some (([Go.bits .xor .u8 (bt x0 x6) x1] : List Int) : List Int)).bind fun y319 => (if x5.size + (strOfNums y319).size ≤ 9223372036854775807 then (strongroomref03_turned.l0 k x0 x1 (x5 ++ (strOfNums y319)) (wrap64 (x6 + 1))) else (none))) else (none)) else ((some (([Go.bits .xor .u8 0 x1] : List Int) : List Int)).bind fun y322 => (if x5.size + (strOfNums y322).size ≤ 9223372036854775807 then (strongroomref03_turned.l0 k x0 x1 (x5 ++ (strOfNums y322)) (wrap64 (x6 + 1))) else (none)))) else (some x5)
end
def strongroomref03_turned.f (k : Nat) (a0 : ByteArray) (a1 : Int) : Option (ByteArray) := if (a0.size : Int) > 64 then ((strongroomref02_Sum.f a0).bind fun t318 => (strongroomref03_turned.j0 k t318 a1)) else (strongroomref03_turned.j0 k a0 a1)
theorem strongroomref03_turned.mono_l : ∀ k, (∀ y0 y1, LeO (strongroomref03_turned.j0 k y0 y1) (strongroomref03_turned.j0 (k + 1) y0 y1)) ∧ (∀ y0 y1 y2 y3, LeO (strongroomref03_turned.l0 k y0 y1 y2 y3) (strongroomref03_turned.l0 (k + 1) y0 y1 y2 y3))
 | 0 => ⟨fun _ _ r h => by simp [strongroomref03_turned.j0] at h, fun _ _ _ _ r h => by simp [strongroomref03_turned.l0] at h⟩
 | k + 1 => by
  obtain ⟨ih0, ih1⟩ := strongroomref03_turned.mono_l k
  refine ⟨?_, ?_⟩
  ·intro y0 y1
   unfold strongroomref03_turned.j0
   repeat' first
   | (with_reducible exact ih0 _ _)
   | (with_reducible exact ih1 _ _ _ _)
   | (with_reducible exact LeO.refl _)
   | (with_reducible exact LeO.none _)
   | (with_reducible refine LeO.ite ?_ ?_)
   | (with_reducible refine LeO.bind ?_ (fun _ => ?_))
   | exact ih0 _ _
   | exact ih1 _ _ _ _
   | exact LeO.none _
   | refine LeO.ite ?_ ?_
   | refine LeO.bind ?_ (fun _ => ?_)
  ·intro y0 y1 y2 y3
   unfold strongroomref03_turned.l0
   repeat' first
   | (with_reducible exact ih0 _ _)
   | (with_reducible exact ih1 _ _ _ _)
   | (with_reducible exact LeO.refl _)
   | (with_reducible exact LeO.none _)
   | (with_reducible refine LeO.ite ?_ ?_)
   | (with_reducible refine LeO.bind ?_ (fun _ => ?_))
   | exact ih0 _ _
   | exact ih1 _ _ _ _
   | exact LeO.none _
   | refine LeO.ite ?_ ?_
   | refine LeO.bind ?_ (fun _ => ?_)
theorem strongroomref03_turned.mono : ∀ a0 a1 k, LeO (strongroomref03_turned.f k a0 a1) (strongroomref03_turned.f (k + 1) a0 a1) := by
 intro a0 a1 k
 obtain ⟨ih0, ih1⟩ := strongroomref03_turned.mono_l k
 unfold strongroomref03_turned.f
 repeat' first
   | (with_reducible exact ih0 _ _)
   | (with_reducible exact ih1 _ _ _ _)
   | (with_reducible exact LeO.refl _)
   | (with_reducible exact LeO.none _)
   | (with_reducible refine LeO.ite ?_ ?_)
   | (with_reducible refine LeO.bind ?_ (fun _ => ?_))
   | exact ih0 _ _
   | exact ih1 _ _ _ _
   | exact LeO.none _
   | refine LeO.ite ?_ ?_
   | refine LeO.bind ?_ (fun _ => ?_)
set_option maxHeartbeats 8000000 in
set_option maxRecDepth 100000 in
theorem strongroomref03_turned.calls (k : Nat) (a0 : ByteArray) (a1 : Int) (r : ByteArray) (w : World) (h : strongroomref03_turned.f k a0 a1 = some r) :
  Calls Try.prog 108 #[.string a0, .int .u8 a1] w fun e w' => e = .returned (.string r) ∧ Below w.heap.size w w' := by
 have HB := Aside0.mk (Below.refl w.heap.size w)
 have H : (if (a0.size : Int) > 64 then ((strongroomref02_Sum.f a0).bind fun t318 => (strongroomref03_turned.j0 k t318 a1)) else (strongroomref03_turned.j0 k a0 a1)) = some r := h
 clear h
 have HC3 := Aside0.mk H
 clear H
 go_enter Try.func108, Try.ntmps108
 go_upto_if 10 with (fail)
 go_cut [0] (fun v0 wc => ∃ (kq : Nat) (x0_2 : ByteArray), v0 = .string x0_2 ∧ Aside0 (strongroomref03_turned.j0 kq x0_2 a1 = some r) ∧ Aside0 (kq ≤ k) ∧ Aside0 (Below w.heap.size w wc))
 case first =>
  have H := HC3.out
  clear HC3
  by_cases c4 : (a0.size : Int) > 64
  ·rw [if_pos c4] at H
   have c4b0 : decide (64 < (a0.size : Int)) = true := decide_eq_true c4
   have c4b1 : decide (64 < a0.size) = true := decide_eq_true (by omega)
   clear c4
   (first | rw [c4b0] | (simp only [i64_w, i32_w]; rw [c4b0]) | skip)
   replace H := Option.bind_eq_some_iff.mp H
   obtain ⟨t318, A50, H⟩ := H
   replace H : (strongroomref03_turned.j0 k t318 a1) = some r := H
   have A5 := Aside0.mk A50
   clear A50
   have H' := Aside0.mk H
   clear H
   go_wp2_with (first | ((with_reducible refine gate_callee (f := 107) rfl ?_); refine goesL_ (some 12) rfl rfl Try.func107 (by kernel_rfl) rfl #[.string a0] rfl (by (try simp only [List.map_toArray, List.map_cons, List.map_nil]); first | done | rfl | (simp only [List.length_drop, List.length_take]; rfl)) ?_; (with_reducible refine (strongroomref02_Sum.calls a0 t318 _ A5.out).mono ?_); rintro e w6 ⟨rfl, hb⟩; refine ⟨_, rfl, ?_⟩; have n0_ := Aside0.mk (below_step (by repeat (first | (with_reducible first | exact HB.out | apply below_alloc | apply pw_below_drewN | apply below_drew1) | exact HB.out)) hb); clear HB; have HB := n0_; clear n0_; (try clear hb); (try clear hb2); (try clear hk); (try clear hi)))
   go_meet
   case rel => exact ⟨_, (t318), (by first | rfl | (simp; done) | (simp [*]; done)), H', ⟨by first | omega | exact Nat.le_refl _⟩, ⟨by repeat (first | (with_reducible first | exact HB.out | apply below_alloc | apply pw_below_drewN | apply below_drew1) | exact HB.out)⟩⟩
  ·rw [if_neg c4] at H
   have c4b0 : decide (64 < (a0.size : Int)) = false := decide_eq_false c4
   have c4b1 : decide (64 < a0.size) = false := decide_eq_false (by omega)
   clear c4
   (first | rw [c4b0] | (simp only [i64_w, i32_w]; rw [c4b0]) | skip)
   have H' := Aside0.mk H
   clear H
   go_wp2
   go_meet
   case rel => exact ⟨_, (a0), (by first | rfl | (simp; done) | (simp [*]; done)), H', ⟨by first | omega | exact Nat.le_refl _⟩, ⟨by repeat (first | (with_reducible first | exact HB.out | apply below_alloc | apply pw_below_drewN | apply below_drew1) | exact HB.out)⟩⟩
 case rest =>
  clear HC3
  try clear c1
  try clear p2
  try clear c4
  try clear c4b0
  try clear c4b1
  obtain ⟨kq, x0_2, rfl, HA, HJ2, HB⟩ := hcut
  cases kq with
  | zero => exact absurd HA.out (by simp [strongroomref03_turned.j0])
  | succ kj2 =>
   have H := HA.out
   clear HA
   simp only [strongroomref03_turned.j0] at H
   have H' := Aside0.mk H
   clear H
   go_wp2
   go_loopg [5, 6] kj2 (fun kq v5 v6 w' => ∃ (x5_2 : ByteArray) (x6_2 : Int), v5 = .string x5_2 ∧ v6 = .int .i64 x6_2 ∧ Aside0 (strongroomref03_turned.l0 kq x0_2 a1 x5_2 x6_2 = some r) ∧ Aside0 (kq ≤ kj2) ∧ Aside0 (Below w.heap.size w w'))
   case atStart => exact ⟨((⟨#[]⟩ : ByteArray)), (0), (by first | rfl | (simp; done) | (simp [*]; done)), (by first | rfl | (simp; done) | (simp [*]; done)), H', ⟨Nat.le_refl _⟩, ⟨by repeat (first | (with_reducible first | exact HB.out | apply below_alloc | apply pw_below_drewN | apply below_drew1) | exact HB.out)⟩⟩
   case round =>
    clear H'
    try clear c1
    try clear p2
    try clear c4
    try clear c4b0
    try clear c4b1
    try clear p2
    obtain ⟨x5_2, x6_2, rfl, rfl, HA, HK2, HB⟩ := hrel
    cases gk with
    | zero => exact absurd HA.out (by simp [strongroomref03_turned.l0])
    | succ k2 =>
     have H := HA.out
     clear HA
     simp only [strongroomref03_turned.l0] at H
     by_cases c7 : x6_2 < 64
     ·rw [if_pos c7] at H
      have c7b0 : decide (x6_2 < 64) = true := decide_eq_true c7
      clear c7
      by_cases c8 : x6_2 < (x0_2.size : Int)
      ·rw [if_pos c8] at H
       have c8b0 : decide (x6_2 < (x0_2.size : Int)) = true := decide_eq_true c8
       clear c8
       by_cases c9 : 0 ≤ x6_2
       ·rw [if_pos c9] at H
        have c9b0 : decide (0 ≤ x6_2) = true := decide_eq_true c9
        clear c9
        obtain ⟨y319, hy319⟩ : ∃ y_ : List Int, y_ = (([Go.bits .xor .u8 (bt x0_2 x6_2) a1] : List Int)) := ⟨_, rfl⟩
        replace H : (if x5_2.size + (strOfNums y319).size ≤ 9223372036854775807 then (strongroomref03_turned.l0 k2 x0_2 a1 (x5_2 ++ (strOfNums y319)) (wrap64 (x6_2 + 1))) else (none)) = some r := by first | (rw [hy319]; with_reducible exact H) | (have H2_ := (Option.bind_some _ _).symm.trans H; rw [hy319]; with_reducible exact H2_) | (have H2_ := (Option.bind_some _ _).symm.trans H; with_reducible exact H2_) | with_reducible exact H | (rw [hy319]; exact H) | exact H
        have Ny319 := Aside0.mk hy319
        clear hy319
        by_cases c11 : x5_2.size + (strOfNums y319).size ≤ 9223372036854775807
        ·rw [if_pos c11] at H
         have c11b0 := eq_true c11
         have c11b1 : decide (x5_2.size + (strOfNums y319).size ≤ 9223372036854775807) = true := decide_eq_true c11
         try have c11b2 : (9223372036854775807 < x5_2.size + (strOfNums y319).size) = False := eq_false (Nat.not_lt.2 c11)
         have H' := Aside0.mk H
         clear H
         have p10 : 0 ≤ (x6_2 : Int) := of_decide_eq_true (by first | (with_reducible assumption) | assumption)
         have q10 : x6_2 < (x0_2.size : Int) := of_decide_eq_true (by first | (with_reducible assumption) | assumption)
         have hx10 := bt_at x0_2 x6_2
         replace p10 := eq_true p10
         replace q10 := eq_true q10
         go_wp2_with (first | ((with_reducible refine gate_dst (N := 28) rfl ?_); refine Kd.R_lit (Kd.int .u8) _ 5 ?hg (N := 28) ?hd (xs := ([Go.bits .xor .u8 (bt x0_2 x6_2) a1] : List Int)) (inner := [.int .u8 (Go.bits .xor .u8 (bt x0_2 x6_2) a1)]) (ok := fun _ => True) (okp := fun _ => True) ?hr ?hp (fun _ hk => hk) trivial (Below.refl _ _) (Nat.le_refl _) (by simp) ?_; (case hd => rfl); (case hg => rfl); (case hr => first | (go_simp; done) | (go_simp; rfl)); (case hp => exact (Reps.one (show Kd.M (Kd.int .u8) _ _ _ (Go.bits .xor .u8 (bt x0_2 x6_2) a1) [.int .u8 (Go.bits .xor .u8 (bt x0_2 x6_2) a1)] from rfl) (Reps.none _ _))); intro v320 w12 ho13 hb hg_ hnew_; clear hg_ hnew_; (first | rw [← Ny319.out] at ho13 | (simp only [Int.reduceToNat] at ho13; rw [← Ny319.out] at ho13)); have n0_ := Aside0.mk (Kd.R_lower ho13 (below_size (by repeat (first | (with_reducible first | exact HB.out | apply below_alloc | apply pw_below_drewN | apply below_drew1) | exact HB.out)))); have n1_ := Aside0.mk (below_step (by repeat (first | (with_reducible first | exact HB.out | apply below_alloc | apply pw_below_drewN | apply below_drew1) | exact HB.out)) hb); clear HB; have HO321 := n0_; have HB := n1_; clear n0_ n1_; clear hb ho13; have hcv14 := own_string (P := Try.prog) Try.underlying23 Try.underlying5 Try.underlying9 (Kd.own_of_R HO321.out)))
         go_roundg k2
         case measure => have := HJ2.out; have := HK2.out; omega
         case rel => exact ⟨(x5_2 ++ (strOfNums y319)), (wrap64 (x6_2 + 1)), (by first | rfl | (simp; done) | (simp [*]; done)), (by first | rfl | (simp; done) | (simp [*]; done)), H', ⟨by have := HJ2.out; have := HK2.out; omega⟩, ⟨by repeat (first | (with_reducible first | exact HB.out | apply below_alloc | apply pw_below_drewN | apply below_drew1) | exact HB.out)⟩⟩
        ·rw [if_neg c11] at H
         exact absurd H (by simp)
       ·rw [if_neg c9] at H
        exact absurd H (by simp)
      ·rw [if_neg c8] at H
       have c8b0 : decide (x6_2 < (x0_2.size : Int)) = false := decide_eq_false c8
       clear c8
       obtain ⟨y322, hy322⟩ : ∃ y_ : List Int, y_ = (([Go.bits .xor .u8 0 a1] : List Int)) := ⟨_, rfl⟩
       replace H : (if x5_2.size + (strOfNums y322).size ≤ 9223372036854775807 then (strongroomref03_turned.l0 k2 x0_2 a1 (x5_2 ++ (strOfNums y322)) (wrap64 (x6_2 + 1))) else (none)) = some r := by first | (rw [hy322]; with_reducible exact H) | (have H2_ := (Option.bind_some _ _).symm.trans H; rw [hy322]; with_reducible exact H2_) | (have H2_ := (Option.bind_some _ _).symm.trans H; with_reducible exact H2_) | with_reducible exact H | (rw [hy322]; exact H) | exact H
       have Ny322 := Aside0.mk hy322
       clear hy322
       by_cases c15 : x5_2.size + (strOfNums y322).size ≤ 9223372036854775807
       ·rw [if_pos c15] at H
        have c15b0 := eq_true c15
        have c15b1 : decide (x5_2.size + (strOfNums y322).size ≤ 9223372036854775807) = true := decide_eq_true c15
        try have c15b2 : (9223372036854775807 < x5_2.size + (strOfNums y322).size) = False := eq_false (Nat.not_lt.2 c15)
        have H' := Aside0.mk H
        clear H
        go_wp2_with (first | ((with_reducible refine gate_dst (N := 28) rfl ?_); refine Kd.R_lit (Kd.int .u8) _ 5 ?hg (N := 28) ?hd (xs := ([Go.bits .xor .u8 0 a1] : List Int)) (inner := [.int .u8 (Go.bits .xor .u8 0 a1)]) (ok := fun _ => True) (okp := fun _ => True) ?hr ?hp (fun _ hk => hk) trivial (Below.refl _ _) (Nat.le_refl _) (by simp) ?_; (case hd => rfl); (case hg => rfl); (case hr => first | (go_simp; done) | (go_simp; rfl)); (case hp => exact (Reps.one (show Kd.M (Kd.int .u8) _ _ _ (Go.bits .xor .u8 0 a1) [.int .u8 (Go.bits .xor .u8 0 a1)] from rfl) (Reps.none _ _))); intro v323 w16 ho17 hb hg_ hnew_; clear hg_ hnew_; (first | rw [← Ny322.out] at ho17 | (simp only [Int.reduceToNat] at ho17; rw [← Ny322.out] at ho17)); have n0_ := Aside0.mk (Kd.R_lower ho17 (below_size (by repeat (first | (with_reducible first | exact HB.out | apply below_alloc | apply pw_below_drewN | apply below_drew1) | exact HB.out)))); have n1_ := Aside0.mk (below_step (by repeat (first | (with_reducible first | exact HB.out | apply below_alloc | apply pw_below_drewN | apply below_drew1) | exact HB.out)) hb); clear HB; have HO324 := n0_; have HB := n1_; clear n0_ n1_; clear hb ho17; have hcv18 := own_string (P := Try.prog) Try.underlying23 Try.underlying5 Try.underlying9 (Kd.own_of_R HO324.out)))
        go_roundg k2
        case measure => have := HJ2.out; have := HK2.out; omega
        case rel => exact ⟨(x5_2 ++ (strOfNums y322)), (wrap64 (x6_2 + 1)), (by first | rfl | (simp; done) | (simp [*]; done)), (by first | rfl | (simp; done) | (simp [*]; done)), H', ⟨by have := HJ2.out; have := HK2.out; omega⟩, ⟨by repeat (first | (with_reducible first | exact HB.out | apply below_alloc | apply pw_below_drewN | apply below_drew1) | exact HB.out)⟩⟩
       ·rw [if_neg c15] at H
        exact absurd H (by simp)
     ·rw [if_neg c7] at H
      have c7b0 : decide (x6_2 < 64) = false := decide_eq_false c7
      clear c7
      obtain rfl := Option.some.inj H
      go_wp2
      go_ret
      exact ⟨by first | rfl | (simp [errW_none, errW_some] <;> rfl) | (simp [*, errW_none, errW_some] <;> rfl), by repeat (first | (with_reducible first | exact HB.out | apply below_alloc | apply pw_below_drewN | apply below_drew1) | exact HB.out)⟩
end Go.Proofs.Ytcdnmlfnfhoieaa.A

/- strongroomref03.Seal: the document's seal is sealP. Condition: fewer than 2^45 bytes. -/
namespace Go.Proofs.Ytcdnmlfnfhoieaa.A
open Go.RowKit Go.Proofs.YtcdnmlfnfhoieaaW.PrintWords Go.Proofs.YtcdnmlfnfhoieaaW.PrintLast Go.Proofs.YtcdnmlfnfhoieaaW.PrintMore Go.Proofs.Ytcdnmlfnfhoieaa.Bs
set_option linter.unusedVariables false
theorem xorI_part (n : Int) (L : List Int) : ∀ i, i ≤ L.length → xorI n L i = (L.take i).map (fun x => Go.bits .xor .u8 x n) ++ L.drop i := by
 intro i
 induction i with
 | zero => intro _; simp [xorI]
 | succ i ih =>
  intro h
  have hl : ((L.take i).map (fun x => Go.bits .xor .u8 x n)).length = i := by rw [List.length_map, List.length_take]; omega
  have hd : L.drop i = L[i]'(by omega) :: L.drop (i + 1) := List.drop_eq_getElem_cons (by omega)
  have ht : L.take (i + 1) = L.take i ++ [L[i]'(by omega)] := List.take_succ_eq_append_getElem (by omega)
  rw [xorI, ih (by omega), hd, ht, List.map_append, List.getD_eq_getElem?_getD, List.getElem?_append_right (by omega), hl, Nat.sub_self, List.set_append_right _ _ (by omega), hl, Nat.sub_self]
  simp
  rw [hd, List.set_cons_zero, List.getElem?_eq_getElem (by omega)]
  rfl
theorem xorI_map (n : Int) (L : List Int) : xorI n L L.length = L.map (fun x => Go.bits .xor .u8 x n) := by
 rw [xorI_part n L _ (Nat.le_refl _), List.take_length, List.drop_length, List.append_nil]
def turnM (kk : ByteArray) (n : Int) : List Int := (blockL kk).map (fun x => Go.bits .xor .u8 x n)
theorem turnM_length (kk : ByteArray) (n : Int) (h : kk.size ≤ 64) : (turnM kk n).length = 64 := by rw [turnM, List.length_map, blockL_length _ h]
theorem turnM_eq (key : ByteArray) (n : Int) : turnedL key n = turnM (keyP key) n := by
 have h := xorI_map n (blockL (keyP key))
 rw [blockL_length _ (keyP_size key)] at h
 exact h
theorem turnM_take (kk : ByteArray) (n : Int) (h : kk.size ≤ 64) (i : Nat) (hi : i < 64) : (turnM kk n).take (i + 1) = (turnM kk n).take i ++ [Go.bits .xor .u8 (if i < kk.size then bt kk (i : Int) else 0) n] := by
 rw [List.take_succ_eq_append_getElem (by rw [turnM_length kk n h]; exact hi)]
 congr 2
 rw [show (turnM kk n)[i]'(by rw [turnM_length kk n h]; exact hi) = Go.bits .xor .u8 ((blockL kk)[i]'(by rw [blockL_length kk h]; exact hi)) n from List.getElem_map _]
 congr 1
 unfold blockL
 split
 ·rename_i hk
  rw [List.getElem_append_left (by rw [bytesOf_length]; exact hk), ← rd_bytesOf]
  simp [rd, List.getD_eq_getElem?_getD, hk, bytesOf_length]
 ·rename_i hk
  rw [List.getElem_append_right (by rw [bytesOf_length]; omega), List.getElem_replicate]
theorem rturn_step (k : Nat) (kk : ByteArray) (n : Int) (h : kk.size ≤ 64) (i : Nat) (hi : i < 64) :
  strongroomref03_turned.l0 (k + 1) kk n (strOfNums ((turnM kk n).take i)) (i : Int) = strongroomref03_turned.l0 k kk n (strOfNums ((turnM kk n).take (i + 1))) ((i + 1 : Nat) : Int) := by
 have e3 : wrap64 ((i : Int) + 1) = ((i + 1 : Nat) : Int) := by rw [wrap64_id _ (by omega) (by omega)]; rfl
 have hs : ((turnM kk n).take i).length ≤ 64 := by rw [List.length_take]; omega
 rw [turnM_take kk n h i hi, rstr_append, strongroomref03_turned.l0, if_pos (by omega), e3]
 by_cases hk : i < kk.size
 ·rw [if_pos (by omega), if_pos (by omega), if_pos hk, Option.bind_some, if_pos (by rw [strOfNums_size, strOfNums_size]; simp; omega)]
 ·rw [if_neg (by omega), if_neg hk, Option.bind_some, if_pos (by rw [strOfNums_size, strOfNums_size]; simp; omega)]
theorem rturn_loop (kk : ByteArray) (n : Int) (h : kk.size ≤ 64) : ∀ (m i : Nat), i + m = 64 → ∀ k, m < k → strongroomref03_turned.l0 k kk n (strOfNums ((turnM kk n).take i)) (i : Int) = some (strOfNums (turnM kk n)) := by
 intro m
 induction m with
 | zero =>
  intro i hi k hk
  obtain ⟨j, rfl⟩ : ∃ j, k = j + 1 := ⟨k - 1, by omega⟩
  rw [strongroomref03_turned.l0, if_neg (by omega), List.take_of_length_le (by rw [turnM_length kk n h]; omega)]
 | succ m ih =>
  intro i hi k hk
  obtain ⟨j, rfl⟩ : ∃ j, k = j + 1 := ⟨k - 1, by omega⟩
  rw [rturn_step j kk n h i (by omega)]
  exact ih (i + 1) (by omega) j (by omega)
theorem rturned_some (key : ByteArray) (n : Int) (hk : key.size < 70368744177664) : strongroomref03_turned.f 80 key n = some (strOfNums (turnedL key n)) := by
 have hl : ∀ kk : ByteArray, kk.size ≤ 64 → strongroomref03_turned.j0 80 kk n = some (strOfNums (turnM kk n)) := by
  intro kk h
  have := rturn_loop kk n h 64 0 (by omega) 79 (by omega)
  rw [strongroomref03_turned.j0]
  exact this
 rw [turnM_eq]
 unfold strongroomref03_turned.f keyP
 by_cases h64 : 64 < key.size
 ·rw [if_pos (by omega), if_pos h64, strongroomref02_Sum.some_ key hk, Option.bind_some]
  exact hl _ (by rw [sumP_size]; decide)
 ·rw [if_neg (by omega), if_neg h64]
  exact hl key (by omega)
theorem xor8_byte (x y : Int) : 0 ≤ Go.bits .xor .u8 x y ∧ Go.bits .xor .u8 x y < 256 := by
 show 0 ≤ IntKind.u8.wrap _ ∧ IntKind.u8.wrap _ < 256
 unfold IntKind.wrap
 have e : (2 : Int) ^ IntKind.u8.bits = 256 := by decide
 have s : IntKind.u8.signed = false := rfl
 simp only [e, s, Bool.false_and]
 rw [if_neg (by simp)]
 exact ⟨Int.emod_nonneg _ (by decide), Int.emod_lt_of_pos _ (by decide)⟩
theorem bytes_turned (key : ByteArray) (n : Int) : bytesOf (strOfNums (turnedL key n)) = turnedL key n := by
 refine rbytesOf_str _ ?_
 rw [turnM_eq]
 intro x hx
 obtain ⟨y, _, rfl⟩ := List.mem_map.1 hx
 exact xor8_byte _ _
set_option maxHeartbeats 1000000 in
theorem rseal_walk {w : World} (key msg : ByteArray) (hk : key.size < 35184372088832) (hm : msg.size < 35184372088832) :
  Calls Try.prog 102 #[.string key, .string msg] w fun e w' => e = .returned (.string (sealP key msg)) ∧ Below w.heap.size w w' := by
 have HK := Aside0.mk (rturned_some key 92 (by omega))
 have HK5 := Aside0.mk (rturned_some key 54 (by omega))
 have s1 : (strOfNums (turnedL key 92)).size = 64 := by rw [strOfNums_size, turnedL_length]
 have s2 : (strOfNums (turnedL key 54)).size = 64 := by rw [strOfNums_size, turnedL_length]
 obtain ⟨t1, ht1⟩ : ∃ x, strOfNums (turnedL key 92) = x := ⟨_, rfl⟩
 obtain ⟨t2, ht2⟩ : ∃ x, strOfNums (turnedL key 54) = x := ⟨_, rfl⟩
 have hb1 : bytesOf t1 = turnedL key 92 := by rw [← ht1, bytes_turned]
 have hb2 : bytesOf t2 = turnedL key 54 := by rw [← ht2, bytes_turned]
 rw [ht1] at HK s1
 rw [ht2] at HK5 s2
 obtain ⟨d, hd⟩ : ∃ x, sumP (bytesOf (t2 ++ msg)) = x := ⟨_, rfl⟩
 have hds : d.size = 32 := by rw [← hd, sumP_size]
 have HS1 : Aside0 (strongroomref02_Sum.f (t2 ++ msg) = some d) := ⟨by rw [← hd]; exact strongroomref02_Sum.some_ _ (by rw [ByteArray.size_append]; omega)⟩
 have HS2 : Aside0 (strongroomref02_Sum.f (t1 ++ d) = some (sealP key msg)) := ⟨by
  rw [strongroomref02_Sum.some_ _ (by rw [ByteArray.size_append]; omega), sealP, bytes_append, hb1, ← hb2, ← bytes_append, hd]⟩
 have l1 : (9223372036854775807 < t2.size + msg.size) = False := eq_false (by omega)
 have l2 : (9223372036854775807 < t1.size + d.size) = False := eq_false (by omega)
 clear ht1 ht2 hd hb1 hb2 s1 s2 hds hk hm
 go_enter Try.func102, Try.ntmps102
 go_wp2_with fail
 refine (strongroomref03_turned.calls 80 key 92 t1 _ HK.out).mono ?_
 rintro e w1 ⟨rfl, hb1⟩
 have HL1 := Aside0.mk hb1
 clear hb1
 go_wp2_with fail
 refine (strongroomref03_turned.calls 80 key 54 t2 _ HK5.out).mono ?_
 rintro e w2 ⟨rfl, hb2⟩
 have HL2 := Aside0.mk (below_step HL1.out hb2)
 clear hb2
 go_wp2_with fail
 refine (strongroomref02_Sum.calls _ _ _ HS1.out).mono ?_
 rintro e w3 ⟨rfl, hb3⟩
 have HL3 := Aside0.mk (below_step HL2.out hb3)
 clear hb3
 go_wp2_with fail
 refine (strongroomref02_Sum.calls _ _ _ HS2.out).mono ?_
 rintro e w4 ⟨rfl, hb4⟩
 have HL4 := Aside0.mk (below_step HL3.out hb4)
 clear hb4
 go_wp2_with fail
 go_ret
 exact ⟨rfl, HL4.out⟩
/-- In the form in which the other texts call it. -/
def strongroomref03_Seal.f (key msg : ByteArray) : Option ByteArray := if key.size < 35184372088832 ∧ msg.size < 35184372088832 then some (sealP key msg) else none
theorem strongroomref03_Seal.some_ (key msg : ByteArray) (hk : key.size < 35184372088832) (hm : msg.size < 35184372088832) : strongroomref03_Seal.f key msg = some (sealP key msg) := if_pos ⟨hk, hm⟩
theorem strongroomref03_Seal.calls (key msg r : ByteArray) (w : World) (h : strongroomref03_Seal.f key msg = some r) : Calls Try.prog 102 #[.string key, .string msg] w fun e w' => e = .returned (.string r) ∧ Below w.heap.size w w' := by
 unfold strongroomref03_Seal.f at h
 by_cases hc : key.size < 35184372088832 ∧ msg.size < 35184372088832
 ·rw [if_pos hc] at h
  obtain rfl := Option.some.inj h
  exact rseal_walk key msg hc.1 hc.2
 ·rw [if_neg hc] at h
  cases h
end Go.Proofs.Ytcdnmlfnfhoieaa.A

namespace Go.Proofs.Ytcdnmlfnfhoieaa.A
open Go.RowKit Go.Proofs.YtcdnmlfnfhoieaaW.PrintWords Go.Proofs.YtcdnmlfnfhoieaaW.PrintLast Go.Proofs.YtcdnmlfnfhoieaaW.PrintMore
attribute [local go_sem] max2_int min2_int max_two min_two max_three min_three max_four min_four
set_option linter.unusedVariables false
set_option linter.unusedSimpArgs false
/-! ### strongroomref03_Chain: function 79 -/
def strongroomref03_Chain.f : Nat → ByteArray → List ByteArray → Option (ByteArray)
 | 0, _, _ => none
 | k + 1, a0, l1 => if (l1.length : Int) = 0 then (some a0) else (if 0 ≤ (wrap64 ((l1.length : Int) - 1)) then (if (wrap64 ((l1.length : Int) - 1)) ≤ (l1.length : Int) then ((strongroomref03_Chain.f k a0 (l1.take ((wrap64 ((l1.length : Int) - 1)) : Int).toNat)).bind fun t326 => (if (wrap64 ((l1.length : Int) - 1)) < (l1.length : Int) then ((strongroomref03_Seal.f t326 (rdOf ByteArray.empty l1 (wrap64 ((l1.length : Int) - 1)))).bind fun t328 => (some t328)) else (none))) else (none)) else (none))
theorem strongroomref03_Chain.mono_l : ∀ k, (∀ y0 y1, LeO (strongroomref03_Chain.f k y0 y1) (strongroomref03_Chain.f (k + 1) y0 y1))
 | 0 => fun _ _ r h => by simp [strongroomref03_Chain.f] at h
 | k + 1 => by
  have ih0 := strongroomref03_Chain.mono_l k
  ·intro y0 y1
   unfold strongroomref03_Chain.f
   repeat' first
   | (with_reducible exact ih0 _ _)
   | (with_reducible exact LeO.refl _)
   | (with_reducible exact LeO.none _)
   | (with_reducible refine LeO.ite ?_ ?_)
   | (with_reducible refine LeO.bind ?_ (fun _ => ?_))
   | exact ih0 _ _
   | exact LeO.none _
   | refine LeO.ite ?_ ?_
   | refine LeO.bind ?_ (fun _ => ?_)
theorem strongroomref03_Chain.mono : ∀ a0 a1 k, LeO (strongroomref03_Chain.f k a0 a1) (strongroomref03_Chain.f (k + 1) a0 a1) := by
 intro a0 a1 k
 have ih0 := strongroomref03_Chain.mono_l k
 exact ih0 a0 a1
def strongroomref03_Chain.T4 : Bool × List (List Nat × List Nat) := (true, [([], []), ([], []), ([], []), ([2], [2]), ([1, 3], [1, 3]), ([0, 4], [0, 4]), ([], []), ([], []), ([7], [7]), ([6, 8], [6, 8]), ([9], [9]), ([5, 10, 5], [5, 10]), ([11, 11, 0, 1, 2, 3, 4, 5, 6, 7, 8, 9, 10, 11], [11])])
def strongroomref03_Chain.B4 : List Nat := [0, 0, 0, 4, 14, 31, 0, 0, 128, 448, 960, 2047, 4095]
theorem strongroomref03_Chain.tab4 : rtab .any (opsOf Try.f79 4) = strongroomref03_Chain.T4 := by kernel_rfl
theorem strongroomref03_Chain.bits4 : waitsOk strongroomref03_Chain.T4.2 strongroomref03_Chain.B4 = true := by kernel_rfl
set_option maxHeartbeats 8000000 in
set_option maxRecDepth 100000 in
theorem strongroomref03_Chain.calls (k : Nat) : ∀ (a0 : ByteArray) (A1 : Option Addr) (c1 : Nat) (l1 : List ByteArray) (r : ByteArray) (w : World) (hr1 : Kd.C Kd.string w A1 l1.length l1) (hc1 : l1.length ≤ c1) (h : strongroomref03_Chain.f k a0 l1 = some r),
  Calls Try.prog 79 #[.string a0, .slice A1 l1.length c1] w fun e w' => e = .returned (.string r) ∧ Below w.heap.size w w' := by
 induction k using Nat.strongRecOn with
 | _ k ih =>
 intro a0 A1 c1 l1 r w hr1 hc1 h
 cases k with
 | zero => exact absurd h (by simp [strongroomref03_Chain.f])
 | succ k =>
 simp only [strongroomref03_Chain.f] at h
 have HR1 := Aside0.mk hr1
 have HC1 := Aside0.mk hc1
 clear hr1 hc1
 have HB := Aside0.mk (Below.refl w.heap.size w)
 have H : (if (l1.length : Int) = 0 then (some a0) else (if 0 ≤ (wrap64 ((l1.length : Int) - 1)) then (if (wrap64 ((l1.length : Int) - 1)) ≤ (l1.length : Int) then ((strongroomref03_Chain.f k a0 (l1.take ((wrap64 ((l1.length : Int) - 1)) : Int).toNat)).bind fun t326 => (if (wrap64 ((l1.length : Int) - 1)) < (l1.length : Int) then ((strongroomref03_Seal.f t326 (rdOf ByteArray.empty l1 (wrap64 ((l1.length : Int) - 1)))).bind fun t328 => (some t328)) else (none))) else (none)) else (none))) = some r := h
 clear h
 by_cases c3 : (l1.length : Int) = 0
 ·rw [if_pos c3] at H
  have c3b0 : ((l1.length : Int) == 0) = true := beq_iff_eq.mpr c3
  have c3b1 : ((l1.length : Int) != 0) = false := bne_eq_false_iff_eq.mpr c3
  clear c3
  obtain rfl := Option.some.inj H
  go_enter Try.func79, Try.ntmps79
  go_wp2
  go_ret
  exact ⟨by first | rfl | (simp [errW_none, errW_some] <;> rfl) | (simp [*, errW_none, errW_some] <;> rfl), by repeat (first | (with_reducible first | exact HB.out | apply below_alloc | apply pw_below_drewN | apply below_drew1) | exact HB.out)⟩
 ·rw [if_neg c3] at H
  have c3b0 : ((l1.length : Int) == 0) = false := beq_eq_false_iff_ne.mpr c3
  have c3b1 : ((l1.length : Int) != 0) = true := bne_iff_ne.mpr c3
  have c3b2 : ¬ (l1 = []) := fun h_ => c3 (by rw [h_]; rfl)
  obtain ⟨ji4, hji4⟩ : ∃ j_ : Int, (wrap64 ((l1.length : Int) - 1)) = j_ := ⟨_, rfl⟩
  replace H : (if 0 ≤ (ji4) then (if (ji4) ≤ (l1.length : Int) then ((strongroomref03_Chain.f k a0 (l1.take ((ji4) : Int).toNat)).bind fun t326 => (if (ji4) < (l1.length : Int) then ((strongroomref03_Seal.f t326 (rdOf ByteArray.empty l1 (ji4))).bind fun t328 => (some t328)) else (none))) else (none)) else (none)) = some r := by first | (rw [hji4] at H; exact H) | (simp only [hji4] at H ⊢; exact H)
  have hji4w : (IntKind.i64.wrap ((l1.length : Int) - 1)) = ji4 := (i64_w _).trans hji4
  by_cases c5 : 0 ≤ (ji4)
  ·rw [if_pos c5] at H
   have c5b0 := eq_true c5
   have c5b1 : decide (0 ≤ (ji4)) = true := decide_eq_true c5
   clear c5
   by_cases c6 : (ji4) ≤ (l1.length : Int)
   ·rw [if_pos c6] at H
    have c6b0 := eq_true c6
    have c6b1 : decide ((ji4) ≤ (l1.length : Int)) = true := decide_eq_true c6
    clear c6
    replace H := Option.bind_eq_some_iff.mp H
    obtain ⟨t326, A70, H⟩ := H
    replace H : (if (ji4) < (l1.length : Int) then ((strongroomref03_Seal.f t326 (rdOf ByteArray.empty l1 (ji4))).bind fun t328 => (some t328)) else (none)) = some r := H
    have A7 := Aside0.mk A70
    clear A70
    by_cases c8 : (ji4) < (l1.length : Int)
    ·rw [if_pos c8] at H
     have c8b0 : decide ((ji4) < (l1.length : Int)) = true := decide_eq_true c8
     clear c8
     replace H := Option.bind_eq_some_iff.mp H
     obtain ⟨t328, A90, H⟩ := H
     replace H : (some t328) = some r := H
     have A9 := Aside0.mk A90
     clear A90
     obtain rfl := Option.some.inj H
     go_enter Try.func79, Try.ntmps79
     try go_wp2
     have n0_ := Aside0.mk (below_drew1 HB.out)
     clear HB
     have HB := n0_
     clear n0_
     obtain ⟨i011, hi011, _, hsz11, _⟩ := info_parts info9
     obtain ⟨hcut11, hA11, hC11⟩ := print_take_of (P := Try.prog) Value.string (⟨#[]⟩ : ByteArray) 48 9 .i64 Try.underlying48 hi011 hsz11 A1 c1 l1 (ji4) (of_decide_eq_true (by first | (with_reducible assumption) | assumption)) (of_decide_eq_true (by first | (with_reducible assumption) | assumption)) HC1.out
     have HR325 := Aside0.mk (Kd.C_of_reads (h1 := fun _ => rfl) (hA11 _ (Kd.reads_of_C HR1.out)))
     have HC325 := Aside0.mk hC11
     clear hA11 hC11 hi011 hsz11
     have p327 : 0 ≤ ((ji4) : Int) := of_decide_eq_true (by first | (with_reducible assumption) | assumption)
     have q327 : (ji4) < (l1.length : Int) := of_decide_eq_true (by first | (with_reducible assumption) | assumption)
     obtain ⟨ad327, e327, hx327_0⟩ := Kd.at_string HR1.out (ji4) p327 q327
     have hw327_0 := hx327_0
     cases e327
     replace hx327_0 := (HB.out.cell (World.block_lt_of_cell? w _ hx327_0)).trans hx327_0
     replace p327 := eq_true p327
     replace q327 := eq_true q327
     refine start_ (n := 13) (S := fun w' => w'.cell? (ad327.add ((ji4)).toNat) = some (.string (rdOf ByteArray.empty l1 (ji4)))) (ds := []) #[false, false, false, false, false, false, false, false, false, false, false, false, false] (by kernel_rfl) rfl rfl (((HB.out.cell (World.block_lt_of_cell? w _ hw327_0)).trans hw327_0)) (fun hHeld => ?_); refine with_tabW strongroomref03_Chain.tab4 strongroomref03_Chain.bits4 (fun HT_ HW_ => ?_)
     generalize w.drew = w10 at HB HR325 hx327_0 hHeld ⊢
     refine pure_ (i := 0) (N := some 11) (v := ?_) (a' := ?_) #[true, false, false, false, false, false, false, false, false, false, false, false, false] rfl rfl (any_of HT_.out (by kernel_rfl)) (fun _ _ _ h => h) (Or.inl ⟨by rfl, ?_⟩) ?_ ?_
     rotate_left
     ·intro w'
      go_simp
      with_reducible rfl
     rotate_left
     ·simp only [Act.put, List.setIfInBounds_toArray, List.set_cons_zero, List.set_cons_succ, i64_w, i32_w]
      rfl
     refine pure_ (i := 1) (N := some 12) (v := ?_) (a' := ?_) #[true, true, false, false, false, false, false, false, false, false, false, false, false] rfl rfl (any_of HT_.out (by kernel_rfl)) (fun _ _ _ h => h) (Or.inl ⟨by rfl, ?_⟩) ?_ ?_
     rotate_left
     ·intro w'
      go_simp
      with_reducible rfl
     rotate_left
     ·simp only [Act.put, List.setIfInBounds_toArray, List.set_cons_zero, List.set_cons_succ, i64_w, i32_w]
      rfl
     refine pure_ (i := 2) (N := some 13) (v := ?_) (a' := ?_) #[true, true, true, false, false, false, false, false, false, false, false, false, false] rfl rfl (any_of HT_.out (by kernel_rfl)) (fun _ _ _ h => h) (Or.inl ⟨by rfl, ?_⟩) ?_ ?_
     rotate_left
     ·intro w'
      go_simp
      with_reducible rfl
     rotate_left
     ·simp only [Act.put, List.setIfInBounds_toArray, List.set_cons_zero, List.set_cons_succ, i64_w, i32_w]
      rfl
     refine pure_ (i := 3) (N := some 14) (v := ?_) (a' := ?_) #[true, true, true, true, false, false, false, false, false, false, false, false, false] rfl rfl (any_of HT_.out (by kernel_rfl)) (fun _ _ _ h => h) (Or.inl ⟨by rfl, ?_⟩) ?_ ?_
     rotate_left
     ·intro w'
      go_simp
      with_reducible rfl
     rotate_left
     ·simp only [Act.put, List.setIfInBounds_toArray, List.set_cons_zero, List.set_cons_succ, i64_w, i32_w]
      rfl
     refine pure_ (i := 4) (N := some 15) (v := ?_) (a' := ?_) #[true, true, true, true, true, false, false, false, false, false, false, false, false] rfl rfl (any_of HT_.out (by kernel_rfl)) (fun _ _ _ h => h) (Or.inl ⟨by rfl, ?_⟩) ?_ ?_
     rotate_left
     ·intro w'
      go_simp
      with_reducible rfl
     rotate_left
     ·simp only [Act.put, List.setIfInBounds_toArray, List.set_cons_zero, List.set_cons_succ, i64_w, i32_w]
      rfl
     refine pure_ (i := 6) (N := some 17) (v := ?_) (a' := ?_) #[true, true, true, true, true, false, true, false, false, false, false, false, false] rfl rfl (any_of HT_.out (by kernel_rfl)) (fun _ _ _ h => h) (Or.inl ⟨by rfl, ?_⟩) ?_ ?_
     rotate_left
     ·intro w'
      go_simp
      with_reducible rfl
     rotate_left
     ·simp only [Act.put, List.setIfInBounds_toArray, List.set_cons_zero, List.set_cons_succ, i64_w, i32_w]
      rfl
     refine pure_ (i := 7) (N := some 18) (v := ?_) (a' := ?_) #[true, true, true, true, true, false, true, true, false, false, false, false, false] rfl rfl (any_of HT_.out (by kernel_rfl)) (fun _ _ _ h => h) (Or.inl ⟨by rfl, ?_⟩) ?_ ?_
     rotate_left
     ·intro w'
      go_simp
      with_reducible rfl
     rotate_left
     ·simp only [Act.put, List.setIfInBounds_toArray, List.set_cons_zero, List.set_cons_succ, i64_w, i32_w]
      rfl
     refine pure_ (i := 8) (N := some 19) (v := ?_) (a' := ?_) #[true, true, true, true, true, false, true, true, true, false, false, false, false] rfl rfl (any_of HT_.out (by kernel_rfl)) (fun _ _ _ h => h) (Or.inl ⟨by rfl, ?_⟩) ?_ ?_
     rotate_left
     ·intro w'
      go_simp
      with_reducible rfl
     rotate_left
     ·simp only [Act.put, List.setIfInBounds_toArray, List.set_cons_zero, List.set_cons_succ, i64_w, i32_w]
      rfl
     refine pure_ (i := 9) (N := some 20) (v := ?_) (a' := ?_) #[true, true, true, true, true, false, true, true, true, true, false, false, false] rfl rfl (any_of HT_.out (by kernel_rfl)) (fun _ _ _ h => h) (Or.inl ⟨by rfl, ?_⟩) ?_ ?_
     rotate_left
     ·intro w'
      go_simp
      with_reducible rfl
     rotate_left
     ·simp only [Act.put, List.setIfInBounds_toArray, List.set_cons_zero, List.set_cons_succ, i64_w, i32_w]
      rfl
     refine take_ (i := 10) (N := some 21) (v := ?_) (a' := ?_) #[true, true, true, true, true, false, true, true, true, true, true, false, false] rfl rfl (take_ofW HT_.out HW_.out (by kernel_rfl)) (fun _ _ _ h => h) (Or.inl ⟨by rfl, ?_⟩) hHeld ?_ ?_
     rotate_left
     ·intro w' s0
      go_simp
      with_reducible rfl
     rotate_left
     ·simp only [Act.put, List.setIfInBounds_toArray, List.set_cons_zero, List.set_cons_succ, i64_w, i32_w]
      rfl
     refine one_ (i := 5) (N := some 16) #[true, true, true, true, true, true, true, true, true, true, true, false, false] rfl rfl (one_of HT_.out (by kernel_rfl)) (by decide) (fun K hK => ?_)
     refine goes_ Try.func79 (by kernel_rfl) rfl #[.string a0, .slice (some ad327) (l1.take ((ji4) : Int).toNat).length c1] (by rfl) rfl rfl (by (try simp only [List.map_toArray, List.map_cons, List.map_nil]); first | done | (rw [show (l1.take ((ji4) : Int).toNat).length = (ji4).toNat from (by rw [List.length_take]; have h_ : ((ji4) : Int) ≤ (l1.length : Int) := of_decide_eq_true (by first | (with_reducible assumption) | assumption); omega)] <;> rfl) | (simp only [hji4]; rfl) | rfl | (simp only [List.length_drop, List.length_take]; rfl)) ?_
     with_reducible refine (ih k (by omega) a0 _ _ (l1.take ((ji4) : Int).toNat) t326 _ ?side1 ?side2 A7.out).mono ?_
     (case side1 => repeat (first | exact (Kd.C_below HR325.out HB.out) | (with_reducible refine Kd.C_alloc ?_ _) | (with_reducible refine Kd.C_drewN ?_ _) | (with_reducible refine Kd.C_drew ?_)))
     (case side2 => exact HC325.out)
     rintro e w12 ⟨rfl, hb⟩
     refine ⟨_, rfl, ?_⟩
     have n0_ := Aside0.mk (below_step (by repeat (first | (with_reducible first | exact HB.out | apply below_alloc | apply pw_below_drewN | apply below_drew1) | exact HB.out)) hb)
     clear HB
     have HB := n0_
     clear n0_
     (try clear hb)
     (try clear hb2)
     (try clear hk)
     (try clear hi)
     refine hK.out _ _ (((HB.out.cell (World.block_lt_of_cell? w _ hw327_0)).trans hw327_0)) (fun hHeld => ?_)
     clear hK K
     refine norm_ (a' := ?_) ?_ ?_
     rotate_left
     ·show Act.put _ (some 16) _ = _
      simp only [Act.put, List.setIfInBounds_toArray, List.set_cons_zero, List.set_cons_succ, i64_w, i32_w]
      rfl
     refine one_ (i := 11) (N := some 22) #[true, true, true, true, true, true, true, true, true, true, true, true, false] rfl rfl (one_of HT_.out (by kernel_rfl)) (by decide) (fun K hK => ?_)
     refine goes_ Try.func102 (by kernel_rfl) rfl #[.string t326, .string (rdOf ByteArray.empty l1 (ji4))] (by rfl) rfl rfl (by (try simp only [List.map_toArray, List.map_cons, List.map_nil]); first | done | (simp only [hji4]; rfl) | rfl | (simp only [List.length_drop, List.length_take]; rfl)) ?_
     with_reducible refine (strongroomref03_Seal.calls t326 (rdOf ByteArray.empty l1 (ji4)) t328 _ A9.out).mono ?_
     rintro e w13 ⟨rfl, hb⟩
     refine ⟨_, rfl, ?_⟩
     have n0_ := Aside0.mk (below_step (by repeat (first | (with_reducible first | exact HB.out | apply below_alloc | apply pw_below_drewN | apply below_drew1) | exact HB.out)) hb)
     clear HB
     have HB := n0_
     clear n0_
     (try clear hb)
     (try clear hb2)
     (try clear hk)
     (try clear hi)
     refine hK.out _ _ (((HB.out.cell (World.block_lt_of_cell? w _ hw327_0)).trans hw327_0)) (fun hHeld => ?_)
     clear hK K
     refine norm_ (a' := ?_) ?_ ?_
     rotate_left
     ·show Act.put _ (some 22) _ = _
      simp only [Act.put, List.setIfInBounds_toArray, List.set_cons_zero, List.set_cons_succ, i64_w, i32_w]
      rfl
     refine pure_ (i := 12) (N := some 4) (v := ?_) (a' := ?_) #[true, true, true, true, true, true, true, true, true, true, true, true, true] rfl rfl (any_of HT_.out (by kernel_rfl)) (fun _ _ _ h => h) (Or.inl ⟨by rfl, ?_⟩) ?_ ?_
     rotate_left
     ·intro w'
      go_simp
      with_reducible rfl
     rotate_left
     ·simp only [Act.put, List.setIfInBounds_toArray, List.set_cons_zero, List.set_cons_succ, i64_w, i32_w]
      rfl
     refine done_ (done_of HT_.out (by kernel_rfl)) ?_
     try go_wp2
     go_ret
     exact ⟨by first | rfl | (simp [errW_none, errW_some] <;> rfl) | (simp only [← hji4]; first | rfl | (simp [errW_none, errW_some] <;> rfl)) | (simp [*, errW_none, errW_some] <;> rfl), by repeat (first | (with_reducible first | exact HB.out | apply below_alloc | apply pw_below_drewN | apply below_drew1) | exact HB.out)⟩
    ·rw [if_neg c8] at H
     exact absurd H (by simp)
   ·rw [if_neg c6] at H
    exact absurd H (by simp)
  ·rw [if_neg c5] at H
   exact absurd H (by simp)
end Go.Proofs.Ytcdnmlfnfhoieaa.A

namespace Go.Proofs.Ytcdnmlfnfhoieaa.A
open Go.RowKit Go.Proofs.YtcdnmlfnfhoieaaW.PrintWords Go.Proofs.YtcdnmlfnfhoieaaW.PrintLast Go.Proofs.YtcdnmlfnfhoieaaW.PrintMore
attribute [local go_sem] max2_int min2_int max_two min_two max_three min_three max_four min_four
set_option linter.unusedVariables false
set_option linter.unusedSimpArgs false
/-! ### strongroomref13_Chain: function 45 -/
def strongroomref13_Chain.l0 : Nat → ByteArray → List (S64) → List ByteArray → Int → Option (ByteArray)
 | 0, _, _, _, _ => none
 | k + 1, x0, x1, x5, x6 => if x6 < (x1.length : Int) then (if 0 ≤ x6 then ((strongroomref13_Bytes.f k ((rd_T64 x1 x6).f0) ((rd_T64 x1 x6).f1) ((rd_T64 x1 x6).f2) ((rd_T64 x1 x6).f3) ((rd_T64 x1 x6).f4)).bind fun t330 => (if x5.length < 8796093022208 then (strongroomref13_Chain.l0 k x0 x1 (x5 ++ [t330]) (wrap64 (x6 + 1))) else (none))) else (none)) else ((strongroomref03_Chain.f k x0 x5).bind fun t334 => (some t334))
def strongroomref13_Chain.f (k : Nat) (a0 : ByteArray) (l1 : List (S64)) : Option (ByteArray) := strongroomref13_Chain.l0 k a0 l1 ([] : List ByteArray) 0
theorem strongroomref13_Chain.mono_l : ∀ k, (∀ y0 y1 y2 y3, LeO (strongroomref13_Chain.l0 k y0 y1 y2 y3) (strongroomref13_Chain.l0 (k + 1) y0 y1 y2 y3))
 | 0 => fun _ _ _ _ r h => by simp [strongroomref13_Chain.l0] at h
 | k + 1 => by
  have ih0 := strongroomref13_Chain.mono_l k
  ·intro y0 y1 y2 y3
   unfold strongroomref13_Chain.l0
   repeat' first
   | (with_reducible exact ih0 _ _ _ _)
   | (with_reducible exact strongroomref03_Chain.mono _ _ _)
   | (with_reducible exact strongroomref13_Bytes.mono _ _ _ _ _ _)
   | (with_reducible exact LeO.refl _)
   | (with_reducible exact LeO.none _)
   | (with_reducible refine LeO.ite ?_ ?_)
   | (with_reducible refine LeO.bind ?_ (fun _ => ?_))
   | exact ih0 _ _ _ _
   | exact strongroomref03_Chain.mono _ _ _
   | exact strongroomref13_Bytes.mono _ _ _ _ _ _
   | exact LeO.none _
   | refine LeO.ite ?_ ?_
   | refine LeO.bind ?_ (fun _ => ?_)
theorem strongroomref13_Chain.mono : ∀ a0 a1 k, LeO (strongroomref13_Chain.f k a0 a1) (strongroomref13_Chain.f (k + 1) a0 a1) := by
 intro a0 a1 k
 have ih0 := strongroomref13_Chain.mono_l k
 unfold strongroomref13_Chain.f
 repeat' first
   | (with_reducible exact ih0 _ _ _ _)
   | (with_reducible exact strongroomref03_Chain.mono _ _ _)
   | (with_reducible exact strongroomref13_Bytes.mono _ _ _ _ _ _)
   | (with_reducible exact LeO.refl _)
   | (with_reducible exact LeO.none _)
   | (with_reducible refine LeO.ite ?_ ?_)
   | (with_reducible refine LeO.bind ?_ (fun _ => ?_))
   | exact ih0 _ _ _ _
   | exact strongroomref03_Chain.mono _ _ _
   | exact strongroomref13_Bytes.mono _ _ _ _ _ _
   | exact LeO.none _
   | refine LeO.ite ?_ ?_
   | refine LeO.bind ?_ (fun _ => ?_)
set_option maxHeartbeats 8000000 in
set_option maxRecDepth 100000 in
theorem strongroomref13_Chain.calls (k : Nat) (a0 : ByteArray) (A1 : Option Addr) (c1 : Nat) (l1 : List (S64)) (r : ByteArray) (w : World) (hr1 : Kd.C k64 w A1 l1.length l1) (hc1 : l1.length ≤ c1) (h : strongroomref13_Chain.f k a0 l1 = some r) :
  Calls Try.prog 45 #[.string a0, .slice A1 l1.length c1] w fun e w' => e = .returned (.string r) ∧ Below w.heap.size w w' := by
 have hu64 := Try.underlying64
 have HR1 := Aside0.mk hr1
 have HC1 := Aside0.mk hc1
 clear hr1 hc1
 have HB := Aside0.mk (Below.refl w.heap.size w)
 have H : (strongroomref13_Chain.l0 k a0 l1 ([] : List ByteArray) 0) = some r := h
 clear h
 have H' := Aside0.mk H
 clear H
 go_enter Try.func45, Try.ntmps45
 go_wp2
 go_loopg [5, 6] k (fun kq v5 v6 w' => ∃ (x5_1 : List ByteArray) (x6_1 : Int), v6 = .int .i64 x6_1 ∧ Aside0 (strongroomref13_Chain.l0 kq a0 l1 x5_1 x6_1 = some r) ∧ Aside0 (kq ≤ k) ∧ Aside0 (Kd.R Kd.string 9 w' w.heap.size (fun _ => True) v5 x5_1) ∧ Aside0 (Below w.heap.size w w'))
 case atStart => exact ⟨(([] : List ByteArray)), (0), (by first | rfl | (simp; done) | (simp [*]; done)), H', ⟨Nat.le_refl _⟩, ⟨by first | exact Kd.R_nil _ _ _ _ _ | exact Kd.N_nil _ _ _ _ _ | exact Kd.V_nil _ _ _ _ _ | exact Kd.Q_nil _ _ _ _ _ | exact Kd.S_nil _ _ _ _ _⟩, ⟨by repeat (first | (with_reducible first | exact HB.out | apply below_alloc | apply pw_below_drewN | apply below_drew1) | exact HB.out)⟩⟩
 case round =>
  clear H'
  try clear c1
  try clear p2
  obtain ⟨x5_1, x6_1, rfl, HA, HK1, HO_5, HB⟩ := hrel
  cases gk with
  | zero => exact absurd HA.out (by simp [strongroomref13_Chain.l0])
  | succ k1 =>
   have H := HA.out
   clear HA
   simp only [strongroomref13_Chain.l0] at H
   by_cases c3 : x6_1 < (l1.length : Int)
   ·rw [if_pos c3] at H
    have c3b0 : decide (x6_1 < (l1.length : Int)) = true := decide_eq_true c3
    clear c3
    by_cases c4 : 0 ≤ x6_1
    ·rw [if_pos c4] at H
     have c4b0 : decide (0 ≤ x6_1) = true := decide_eq_true c4
     clear c4
     replace H := Option.bind_eq_some_iff.mp H
     obtain ⟨t330, A50, H⟩ := H
     replace H : (if x5_1.length < 8796093022208 then (strongroomref13_Chain.l0 k1 a0 l1 (x5_1 ++ [t330]) (wrap64 (x6_1 + 1))) else (none)) = some r := H
     have A5 := Aside0.mk A50
     clear A50
     by_cases c6 : x5_1.length < 8796093022208
     ·rw [if_pos c6] at H
      have LMc6 := Aside0.mk c6
      clear c6
      obtain ⟨y331, hy331⟩ : ∃ y_ : List ByteArray, y_ = (x5_1 ++ [t330]) := ⟨_, rfl⟩
      replace H : (strongroomref13_Chain.l0 k1 a0 l1 y331 (wrap64 (x6_1 + 1))) = some r := by first | (rw [hy331]; with_reducible exact H) | (have H2_ := (Option.bind_some _ _).symm.trans H; rw [hy331]; with_reducible exact H2_) | (have H2_ := (Option.bind_some _ _).symm.trans H; with_reducible exact H2_) | with_reducible exact H | (rw [hy331]; exact H) | exact H
      have Ny331 := Aside0.mk hy331
      clear hy331
      have H' := Aside0.mk H
      clear H
      have p329 : 0 ≤ (x6_1 : Int) := of_decide_eq_true (by first | (with_reducible assumption) | assumption)
      have q329 : x6_1 < (l1.length : Int) := of_decide_eq_true (by first | (with_reducible assumption) | assumption)
      obtain ⟨ad329, e329, hx329_0, hx329_1, hx329_2, hx329_3, hx329_4⟩ := at_T64 HR1.out x6_1 p329 q329
      cases e329
      replace hx329_0 := (HB.out.cell (World.block_lt_of_cell? w _ hx329_0)).trans hx329_0
      replace hx329_1 := (HB.out.cell (World.block_lt_of_cell? w _ hx329_1)).trans hx329_1
      replace hx329_2 := (HB.out.cell (World.block_lt_of_cell? w _ hx329_2)).trans hx329_2
      replace hx329_3 := (HB.out.cell (World.block_lt_of_cell? w _ hx329_3)).trans hx329_3
      replace hx329_4 := (HB.out.cell (World.block_lt_of_cell? w _ hx329_4)).trans hx329_4
      replace p329 := eq_true p329
      replace q329 := eq_true q329
      go_wp2_with (first | ((with_reducible refine gate_callee (f := 48) rfl ?_); refine goesL_ (some 18) rfl rfl Try.func48 (by kernel_rfl) rfl #[.agg #[.int .i64 ((rd_T64 l1 x6_1).f0), .int .i64 ((rd_T64 l1 x6_1).f1), .int .i64 ((rd_T64 l1 x6_1).f2), .string ((rd_T64 l1 x6_1).f3), .int .i64 ((rd_T64 l1 x6_1).f4)]] rfl (by (try simp only [List.map_toArray, List.map_cons, List.map_nil]); first | done | rfl | (simp only [List.length_drop, List.length_take]; rfl)) ?_; (with_reducible refine (strongroomref13_Bytes.calls k1 ((rd_T64 l1 x6_1).f0) ((rd_T64 l1 x6_1).f1) ((rd_T64 l1 x6_1).f2) ((rd_T64 l1 x6_1).f3) ((rd_T64 l1 x6_1).f4) t330 _ A5.out).mono ?_); rintro e w7 ⟨rfl, hb⟩; refine ⟨_, rfl, ?_⟩; have n0_ := Aside0.mk (Kd.R_below (by (with_reducible repeat (first | apply Kd.R_alloc | apply Kd.R_drewN | apply Kd.R_drew)); exact HO_5.out) hb); have n1_ := Aside0.mk (below_step (by repeat (first | (with_reducible first | exact HB.out | apply below_alloc | apply pw_below_drewN | apply below_drew1) | exact HB.out)) hb); clear HO_5; clear HB; have HO_5 := n0_; have HB := n1_; clear n0_ n1_; (try clear hb); (try clear hb2); (try clear hk); (try clear hi)) | ((with_reducible refine gate_builtin (b := .append) (xs := #[.tmp 13, .tmp 19]) rfl ?_); at_builtin; refine Kd.R_append Kd.string (w0 := w) w.heap.size rfl (.tmp 13) (.tmp 19) 48 9 (.string ⟨#[]⟩) 16 rfl Try.underlying48 info9 rfl (by decide) (by omega) u5 x5_1 t330 [.string t330] (fun _ => True) (fun _ => False) rfl rfl ?aP (fun _ hk => hk.elim) ?aF ?aO ?aB ?aS ?aL ?_; (case aP => exact rfl); (case aB => exact (by repeat (first | (with_reducible first | exact HB.out | apply below_alloc | apply pw_below_drewN | apply below_drew1) | exact HB.out))); (case aF => exact (fun _ _ => trivial)); (case aO => exact (by (with_reducible repeat (first | apply Kd.R_alloc | apply Kd.R_drewN | apply Kd.R_drew)); exact HO_5.out)); (case aS => exact (below_size (by repeat (first | (with_reducible first | exact HB.out | apply below_alloc | apply pw_below_drewN | apply below_drew1) | exact HB.out)))); (case aL => have := LMc6.out; omega); intro v332 w8 ho hb hg hat; rw [← Ny331.out] at ho; have n0_ := Aside0.mk (hb); have n1_ := Aside0.mk (ho); clear HB; clear HO_5; have HB := n0_; have HO333 := n1_; clear n0_ n1_; clear ho hb hg hat))
      go_roundg k1
      case measure => have := HK1.out; omega
      case rel => exact ⟨(y331), (wrap64 (x6_1 + 1)), (by first | rfl | (simp; done) | (simp [*]; done)), H', ⟨by have := HK1.out; omega⟩, ⟨by (with_reducible repeat (first | apply Kd.R_alloc | apply Kd.R_drewN | apply Kd.R_drew)); exact HO333.out⟩, ⟨by repeat (first | (with_reducible first | exact HB.out | apply below_alloc | apply pw_below_drewN | apply below_drew1) | exact HB.out)⟩⟩
     ·rw [if_neg c6] at H
      exact absurd H (by simp)
    ·rw [if_neg c4] at H
     exact absurd H (by simp)
   ·rw [if_neg c3] at H
    have c3b0 : decide (x6_1 < (l1.length : Int)) = false := decide_eq_false c3
    clear c3
    replace H := Option.bind_eq_some_iff.mp H
    obtain ⟨t334, A90, H⟩ := H
    replace H : (some t334) = some r := H
    have A9 := Aside0.mk A90
    clear A90
    obtain rfl := Option.some.inj H
    obtain ⟨Ao10, co10, eo10⟩ := Kd.R_slice HO_5.out
    subst eo10
    go_wp2_with (first | ((with_reducible refine gate_callee (f := 79) rfl ?_); refine goesL_ (some 23) rfl rfl Try.func79 (by kernel_rfl) rfl #[.string a0, .slice Ao10 x5_1.length co10] rfl (by (try simp only [List.map_toArray, List.map_cons, List.map_nil]); first | done | rfl | (simp only [List.length_drop, List.length_take]; rfl)) ?_; (with_reducible refine (strongroomref03_Chain.calls k1 a0 _ _ x5_1 t334 _ ?side1 ?side2 A9.out).mono ?_); (case side1 => repeat (first | exact (Kd.R_reads' HO_5.out).2.2 | (with_reducible refine Kd.C_alloc ?_ _) | (with_reducible refine Kd.C_drewN ?_ _) | (with_reducible refine Kd.C_drew ?_))); (case side2 => exact (Kd.R_reads' HO_5.out).2.1); rintro e w11 ⟨rfl, hb⟩; refine ⟨_, rfl, ?_⟩; have n0_ := Aside0.mk (Kd.R_below (by (with_reducible repeat (first | apply Kd.R_alloc | apply Kd.R_drewN | apply Kd.R_drew)); exact HO_5.out) hb); have n1_ := Aside0.mk (below_step (by repeat (first | (with_reducible first | exact HB.out | apply below_alloc | apply pw_below_drewN | apply below_drew1) | exact HB.out)) hb); clear HO_5; clear HB; have HO_5 := n0_; have HB := n1_; clear n0_ n1_; (try clear hb); (try clear hb2); (try clear hk); (try clear hi)))
    go_ret
    exact ⟨by first | rfl | (simp [errW_none, errW_some] <;> rfl) | (simp [*, errW_none, errW_some] <;> rfl), by repeat (first | (with_reducible first | exact HB.out | apply below_alloc | apply pw_below_drewN | apply below_drew1) | exact HB.out)⟩
end Go.Proofs.Ytcdnmlfnfhoieaa.A
