/- MacBegins, for every key, label and two numbers: the law answers true, and every argument reads behind the call as before. No condition beyond the row's own. -/
import Derived.Test.YtcdnmlfnfhoieaaMSha0
import Derived.Deep.SlicePairs
import Derived.Lib.SmallJoins
import Derived.ChangeMaps5
import Derived.OpenShut
import Derived.Test.YtcdnmlfnfhoieaaRows
import Derived.WalkKit
import Derived.ProofKit
import Derived.ShutString
import Derived.ChangeOld
import Derived.Below
import Derived.SizedLaws

/- mac.Derive, walked: what is derived. Conditions: at most 8160 bytes are asked for, key and label have fewer than 2^44 bytes. -/
namespace Go.Proofs.Ytcdnmlfnfhoieaa.A
open Go.RowKit Go.Proofs.YtcdnmlfnfhoieaaW.PrintWords Go.Proofs.YtcdnmlfnfhoieaaW.PrintLast Go.Proofs.YtcdnmlfnfhoieaaW.PrintMore Go.Proofs.Ytcdnmlfnfhoieaa.Bs
set_option linter.unusedVariables false
set_option linter.unusedSimpArgs false

/-- The i-th seal. -/
def lastP (key label : ByteArray) : Nat → ByteArray
 | 0 => ⟨#[]⟩
 | i + 1 => sealP key (lastP key label i ++ label ++ strOfNums [(((i + 1) % 256 : Nat) : Int)])
def outL (key label : ByteArray) : Nat → List Int
 | 0 => []
 | i + 1 => outL key label i ++ bytesOf (lastP key label (i + 1))
theorem lastP_size (key label : ByteArray) (i : Nat) : (lastP key label i).size ≤ 32 := by
 cases i with
 | zero => exact Nat.zero_le _
 | succ i => rw [lastP, sealP_size]; decide
theorem outL_length (key label : ByteArray) : ∀ i, (outL key label i).length = 32 * i
 | 0 => rfl
 | i + 1 => by
  rw [outL, List.length_append, outL_length key label i, bytesOf_length, lastP, sealP_size]
  omega
theorem outL_take (key label : ByteArray) (i n : Nat) (h : n ≤ 32 * i) : ∀ j, (outL key label (i + j)).take n = (outL key label i).take n
 | 0 => rfl
 | j + 1 => by
  rw [show i + (j + 1) = (i + j) + 1 by omega, outL, List.take_append_of_le_length (by rw [outL_length]; omega), outL_take key label i n h j]
/-- What is derived. -/
def derP (key label : ByteArray) (n : Nat) : ByteArray := strOfNums ((outL key label 255).take n)
theorem derP_size (key label : ByteArray) (n : Nat) (h : n ≤ 8160) : (derP key label n).size = n := by
 rw [derP, strOfNums_size, List.length_take, outL_length]
 omega

set_option maxHeartbeats 4000000 in
set_option maxRecDepth 100000 in
theorem derive_walk {w : World} (key label : ByteArray) (n : Nat) (hn : n ≤ 8160) (hk : key.size < 17592186044416) (hl : label.size < 17592186044416) :
  Calls Try.prog 32 #[.string key, .string label, .int .i64 (n : Int)] w fun e w' => e = .returned (.tuple #[.string (derP key label n), .int .i64 0]) ∧ Below w.heap.size w w' := by
 have HN := Aside0.mk hn
 have HK := Aside0.mk hk
 have HL := Aside0.mk hl
 have d0 : decide ((n : Int) < 0) = false := decide_eq_false (by omega)
 have d1 : decide ((8160 : Int) < (n : Int)) = false := decide_eq_false (by omega)
 have hu23 := Try.underlying23
 clear hn hk hl
 go_enter Try.func32, Try.ntmps32
 go_wp2
 go_loopg [8, 9, 10] 256 (fun kq v8 v9 v10 w' => ∃ i : Nat, v9 = .string (lastP key label i) ∧ v10 = .int .u8 (((i + 1) % 256 : Nat) : Int) ∧ Aside0 (i + kq = 256) ∧ Aside0 (i ≤ 255) ∧ Aside0 (w'.ownsRow w.heap.size 5 1 v8 (outL key label i).length (nums .u8 (outL key label i))) ∧ Aside0 (Below w.heap.size w w'))
 case atStart => exact ⟨0, rfl, rfl, ⟨rfl⟩, ⟨by decide⟩, ⟨own_nil _ _ _ _⟩, ⟨Below.refl _ _⟩⟩
 case round =>
  obtain ⟨i, rfl, rfl, HI, HI5, HO, HB⟩ := hrel
  obtain ⟨A8, c8, rfl⟩ := own_slice HO.out
  have HOL := outL_length key label i
  obtain ⟨q, hq⟩ : ∃ q, (outL key label i).length = q := ⟨_, rfl⟩
  rw [hq] at HO HOL ⊢
  by_cases hi : q < n
  ·have d2 : decide (q < n) = true := decide_eq_true hi
   obtain ⟨L, hL⟩ : ∃ L, lastP key label i = L := ⟨_, rfl⟩
   obtain ⟨bb, hbb⟩ : ∃ b : Int, (((i + 1) % 256 : Nat) : Int) = b := ⟨_, rfl⟩
   have hcv0 := own_string (P := Try.prog) Try.underlying23 Try.underlying5 Try.underlying9 (own_lit wr 0 5 .u8 [bb] (Nat.zero_le _) (by simp))
   obtain ⟨s1, hs1⟩ : ∃ s, strOfNums [bb] = s := ⟨_, rfl⟩
   rw [hs1] at hcv0
   have hcv : (convert 23 9 (.slice (some ⟨wr.heap.size, 0, none⟩) 1 1)).run Try.prog (wr.alloc (.cells #[.int .u8 bb] 5)) = .ok (.string s1) (wr.alloc (.cells #[.int .u8 bb] 5)) := hcv0
   have z1 : s1.size = 1 := by rw [← hs1, strOfNums_size]; rfl
   have z0 : L.size ≤ 32 := by rw [← hL]; exact lastP_size key label i
   have f1 : (9223372036854775807 < L.size + label.size) = False := eq_false (by have := HL.out; omega)
   have f2 : (9223372036854775807 < L.size + label.size + s1.size) = False := eq_false (by have := HL.out; omega)
   have HNX : Aside0 (lastP key label (i + 1) = sealP key (L ++ label ++ s1)) := ⟨by rw [lastP, hL, hbb, hs1]⟩
   have HSL : Aside0 (mac_Seal.f key (L ++ label ++ s1) = some (sealP key (L ++ label ++ s1))) := ⟨mac_Seal.some_ _ _ (by have := HK.out; omega) (by rw [ByteArray.size_append, ByteArray.size_append]; have := HL.out; omega)⟩
   have HBW : Aside0 (((bb + 1) % 256 : Int) = (((i + 1 + 1) % 256 : Nat) : Int)) := ⟨by rw [← hbb]; omega⟩
   have HQ := Aside0.mk hq
   have HOL' := Aside0.mk HOL
   have HI8 := Aside0.mk hi
   obtain ⟨L2, hL2⟩ : ∃ L2, sealP key (L ++ label ++ s1) = L2 := ⟨_, rfl⟩
   rw [hL2] at HNX HSL
   have HZ2 : Aside0 (L2.size = 32) := ⟨by rw [← hL2, sealP_size]⟩
   rw [hbb, hL]
   clear hbb hL hs1 z1 z0 hL2 hq HOL hi hcv0
   go_wp2_with fail
   refine (mac_Seal.calls key (L ++ label ++ s1) L2 _ HSL.out).mono ?_
   rintro e w2 ⟨rfl, hb2⟩
   have HB2 := Aside0.mk (below_step (below_alloc HB.out _) hb2)
   have HO2 := Aside0.mk (pw_own_below (own_alloc HO.out _) hb2)
   clear hb2 hcv f1 f2
   have HLIM : Aside0 ((outL key label i).length + L2.size ≤ 140737488355328) := ⟨by have := HQ.out; have := HZ2.out; have := HI8.out; have := HN.out; omega⟩
   replace HO2 : Aside0 (w2.ownsRow w.heap.size 5 1 (.slice A8 q c8) (outL key label i).length (nums .u8 (outL key label i))) := ⟨by rw [HQ.out]; exact HO2.out⟩
   go_wp2_with ((with_reducible refine gate_builtin (b := .append) (xs := #[.tmp 32, .tmp 33]) rfl ?_); at_builtin; refine print_append_str (w0 := w) w.heap.size rfl (.tmp 32) (.tmp 33) 23 9 5 rfl hu23 Try.underlying9 info5 (.slice A8 q c8) (outL key label i) L2 rfl rfl HO2.out HB2.out (below_size HB2.out) HLIM.out ?_; intro v3 w3 ho3 hb3 hg3; have HO3 := Aside0.mk ho3; have HB3 := Aside0.mk hb3; clear ho3 hb3 hg3)
   go_roundg (255 - i)
   case measure => have := HI.out; have := HI5.out; have := HI8.out; have := HN.out; have := HOL'.out; omega
   case rel =>
    refine ⟨i + 1, by rw [HNX.out], by rw [← HBW.out], ⟨by have := HI.out; have := HI8.out; have := HN.out; have := HOL'.out; omega⟩, ⟨by have := HI8.out; have := HN.out; have := HOL'.out; omega⟩, ⟨?_⟩, HB3⟩
    rw [outL, HNX.out]
    exact HO3.out
  ·have d2 : decide (q < n) = false := decide_eq_false hi
   obtain ⟨i5, hi5, hs5⟩ : ∃ i, Try.prog.info? 5 = some i ∧ i.size = 1 := by
    obtain ⟨i, h1, h2⟩ := Option.map_eq_some_iff.1 info5
    exact ⟨i, h1, by simp only [Prod.mk.injEq] at h2; exact h2.2.1⟩
   have hqc : n ≤ c8 := by have := own_le HO.out; omega
   have hcut : ∀ W : World, (Instr.slice 23 (.slice A8 q c8) none (some (.int .i64 (n : Int))) none).run Try.prog W = .ok (.slice A8 n c8) W := by
    intro W
    have hel : Try.prog.elem 23 = 5 := by simp [Program.elem, hu23]
    have hu : Try.prog.underlying 23 = some (.slice (Try.prog.elem 23)) := by rw [hel]; exact hu23
    rw [run_slice_h W 23 _ _ _ hu .i64 (n : Int) (by omega) (by omega), hel]
    simp [sizeOf, typeInfo, hi5, hs5, sliced, Result.andThen]
    intro _
    cases A8 with
    | none => rfl
    | some a => simp [Addr.add]
   rw [← hq] at HO
   have hR : (Kd.int .u8).R 5 wr w.heap.size (fun _ => True) (.slice A8 (outL key label i).length c8) (outL key label i) := Kd.R_of_own HO.out (fun _ _ => trivial)
   have hcv := own_string (P := Try.prog) Try.underlying23 Try.underlying5 Try.underlying9 (Kd.own_of_R (Kd.R_take (m := n) hR (by omega)))
   have HFIN : Aside0 (derP key label n = strOfNums ((outL key label i).take n)) := ⟨by
    have := outL_take key label i n (by omega) (255 - i)
    rw [show i + (255 - i) = 255 by have := HI5.out; omega] at this
    rw [derP, this]⟩
   clear hR hi5 hs5
   go_wp2
   go_ret2
   exact ⟨by rw [HFIN.out]; rfl, HB.out⟩

end Go.Proofs.Ytcdnmlfnfhoieaa.A

namespace Go.Proofs.Ytcdnmlfnfhoieaa.A
open Go.RowKit Go.Proofs.YtcdnmlfnfhoieaaW.PrintWords Go.Proofs.YtcdnmlfnfhoieaaW.PrintLast Go.Proofs.YtcdnmlfnfhoieaaW.PrintMore
attribute [local go_sem] max2_int min2_int max_two min_two max_three min_three max_four min_four
set_option linter.unusedVariables false
set_option linter.unusedSimpArgs false

/-! ### mac_Chain: function 75 -/
def mac_Chain.l0 : Nat → ByteArray → List ByteArray → Int → Int → Option (ByteArray)
 | 0, _, _, _, _ => none
 | k + 1, x0, x7, x8, x9 => if x9 < x8 then (if 0 ≤ x9 then (if x9 < (x7.length : Int) then ((mac_Seal.f x0 (rdOf ByteArray.empty x7 x9)).bind fun t247 => (mac_Chain.l0 k t247 x7 x8 (wrap64 (x9 + 1)))) else (none)) else (none)) else (some x0)
def mac_Chain.f (k : Nat) (a0 : ByteArray) (l1 : List ByteArray) : Option (ByteArray) := mac_Chain.l0 k a0 l1 (l1.length : Int) 0
theorem mac_Chain.mono_l : ∀ k, (∀ y0 y1 y2 y3, LeO (mac_Chain.l0 k y0 y1 y2 y3) (mac_Chain.l0 (k + 1) y0 y1 y2 y3))
 | 0 => fun _ _ _ _ r h => by simp [mac_Chain.l0] at h
 | k + 1 => by
  have ih0 := mac_Chain.mono_l k
  ·intro y0 y1 y2 y3
   unfold mac_Chain.l0
   repeat' first
   | (with_reducible exact ih0 _ _ _ _)
   | (with_reducible exact LeO.refl _)
   | (with_reducible exact LeO.none _)
   | (with_reducible refine LeO.ite ?_ ?_)
   | (with_reducible refine LeO.bind ?_ (fun _ => ?_))
   | exact ih0 _ _ _ _
   | exact LeO.none _
   | refine LeO.ite ?_ ?_
   | refine LeO.bind ?_ (fun _ => ?_)
theorem mac_Chain.mono : ∀ a0 a1 k, LeO (mac_Chain.f k a0 a1) (mac_Chain.f (k + 1) a0 a1) := by
 intro a0 a1 k
 have ih0 := mac_Chain.mono_l k
 unfold mac_Chain.f
 repeat' first
   | (with_reducible exact ih0 _ _ _ _)
   | (with_reducible exact LeO.refl _)
   | (with_reducible exact LeO.none _)
   | (with_reducible refine LeO.ite ?_ ?_)
   | (with_reducible refine LeO.bind ?_ (fun _ => ?_))
   | exact ih0 _ _ _ _
   | exact LeO.none _
   | refine LeO.ite ?_ ?_
   | refine LeO.bind ?_ (fun _ => ?_)
set_option maxHeartbeats 8000000 in
set_option maxRecDepth 100000 in
theorem mac_Chain.calls (k : Nat) (a0 : ByteArray) (A1 : Option Addr) (c1 : Nat) (l1 : List ByteArray) (r : ByteArray) (w : World) (hr1 : Kd.C Kd.string w A1 l1.length l1) (hc1 : l1.length ≤ c1) (h : mac_Chain.f k a0 l1 = some r) :
  Calls Try.prog 75 #[.string a0, .slice A1 l1.length c1] w fun e w' => e = .returned (.string r) ∧ Below w.heap.size w w' := by
 have HR1 := Aside0.mk hr1
 have HC1 := Aside0.mk hc1
 clear hr1 hc1
 have HB := Aside0.mk (Below.refl w.heap.size w)
 have H : (mac_Chain.l0 k a0 l1 (l1.length : Int) 0) = some r := h
 clear h
 have H' := Aside0.mk H
 clear H
 go_enter Try.func75, Try.ntmps75
 go_wp2
 go_loopg [0, 9] k (fun kq v0 v9 w' => ∃ (x0_1 : ByteArray) (x9_1 : Int), v0 = .string x0_1 ∧ v9 = .int .i64 x9_1 ∧ Aside0 (mac_Chain.l0 kq x0_1 l1 (l1.length : Int) x9_1 = some r) ∧ Aside0 (kq ≤ k) ∧ Aside0 (Below w.heap.size w w'))
 case atStart => exact ⟨(a0), (0), (by first | rfl | (simp; done) | (simp [*]; done)), (by first | rfl | (simp; done) | (simp [*]; done)), H', ⟨Nat.le_refl _⟩, ⟨by repeat (first | (with_reducible first | exact HB.out | apply below_alloc | apply pw_below_drewN | apply below_drew1) | exact HB.out)⟩⟩
 case round =>
  clear H'
  try clear c1
  try clear p2
  obtain ⟨x0_1, x9_1, rfl, rfl, HA, HK1, HB⟩ := hrel
  cases gk with
  | zero => exact absurd HA.out (by simp [mac_Chain.l0])
  | succ k1 =>
   have H := HA.out
   clear HA
   simp only [mac_Chain.l0] at H
   by_cases c3 : x9_1 < (l1.length : Int)
   ·rw [if_pos c3] at H
    have c3b0 : decide (x9_1 < (l1.length : Int)) = true := decide_eq_true c3
    clear c3
    by_cases c4 : 0 ≤ x9_1
    ·rw [if_pos c4] at H
     have c4b0 : decide (0 ≤ x9_1) = true := decide_eq_true c4
     clear c4
     by_cases c5 : x9_1 < (l1.length : Int)
     ·rw [if_pos c5] at H
      have c5b0 : decide (x9_1 < (l1.length : Int)) = true := decide_eq_true c5
      clear c5
      replace H := Option.bind_eq_some_iff.mp H
      obtain ⟨t247, A60, H⟩ := H
      replace H : (mac_Chain.l0 k1 t247 l1 (l1.length : Int) (wrap64 (x9_1 + 1))) = some r := H
      have A6 := Aside0.mk A60
      clear A60
      have H' := Aside0.mk H
      clear H
      have p246 : 0 ≤ (x9_1 : Int) := of_decide_eq_true (by first | (with_reducible assumption) | assumption)
      have q246 : x9_1 < (l1.length : Int) := of_decide_eq_true (by first | (with_reducible assumption) | assumption)
      obtain ⟨ad246, e246, hx246_0⟩ := Kd.at_string HR1.out x9_1 p246 q246
      cases e246
      replace hx246_0 := (HB.out.cell (World.block_lt_of_cell? w _ hx246_0)).trans hx246_0
      replace p246 := eq_true p246
      replace q246 := eq_true q246
      go_wp2_with (first | ((with_reducible refine gate_callee (f := 47) rfl ?_); refine goesL_ (some 15) rfl rfl Try.func47 (by kernel_rfl) rfl #[.string x0_1, .string (rdOf ByteArray.empty l1 x9_1)] rfl (by (try simp only [List.map_toArray, List.map_cons, List.map_nil]); first | done | rfl | (simp only [List.length_drop, List.length_take]; rfl)) ?_; (with_reducible refine (mac_Seal.calls x0_1 (rdOf ByteArray.empty l1 x9_1) t247 _ A6.out).mono ?_); rintro e w7 ⟨rfl, hb⟩; refine ⟨_, rfl, ?_⟩; have n0_ := Aside0.mk (below_step (by repeat (first | (with_reducible first | exact HB.out | apply below_alloc | apply pw_below_drewN | apply below_drew1) | exact HB.out)) hb); clear HB; have HB := n0_; clear n0_; (try clear hb); (try clear hb2); (try clear hk); (try clear hi)))
      go_roundg k1
      case measure => have := HK1.out; omega
      case rel => exact ⟨(t247), (wrap64 (x9_1 + 1)), (by first | rfl | (simp; done) | (simp [*]; done)), (by first | rfl | (simp; done) | (simp [*]; done)), H', ⟨by have := HK1.out; omega⟩, ⟨by repeat (first | (with_reducible first | exact HB.out | apply below_alloc | apply pw_below_drewN | apply below_drew1) | exact HB.out)⟩⟩
     ·rw [if_neg c5] at H
      exact absurd H (by simp)
    ·rw [if_neg c4] at H
     exact absurd H (by simp)
   ·rw [if_neg c3] at H
    have c3b0 : decide (x9_1 < (l1.length : Int)) = false := decide_eq_false c3
    clear c3
    obtain rfl := Option.some.inj H
    go_wp2
    go_ret
    exact ⟨by first | rfl | (simp [errW_none, errW_some] <;> rfl) | (simp [*, errW_none, errW_some] <;> rfl), by repeat (first | (with_reducible first | exact HB.out | apply below_alloc | apply pw_below_drewN | apply below_drew1) | exact HB.out)⟩

end Go.Proofs.Ytcdnmlfnfhoieaa.A

namespace Go.Proofs.Ytcdnmlfnfhoieaa.A
open Go.RowKit Go.Proofs.YtcdnmlfnfhoieaaW.PrintWords Go.Proofs.YtcdnmlfnfhoieaaW.PrintLast Go.Proofs.YtcdnmlfnfhoieaaW.PrintMore
attribute [local go_sem] max2_int min2_int max_two min_two max_three min_three max_four min_four
set_option linter.unusedVariables false
set_option linter.unusedSimpArgs false

/-! ### strongroomlaw03_small: function 30 -/
def strongroomlaw03_small.l0 : Nat → List ByteArray → Int → Int → Option (Bool)
 | 0, _, _, _ => none
 | k + 1, x0, x3, x4 => if x4 < (x0.length : Int) then (if x3 ≤ 3000 then (if 0 ≤ x4 then (strongroomlaw03_small.l0 k x0 (wrap64 (x3 + ((rdOf ByteArray.empty x0 x4).size : Int))) (wrap64 (x4 + 1))) else (none)) else (some (decide (x3 ≤ 3000)))) else (some (decide (x3 ≤ 3000)))
def strongroomlaw03_small.f (k : Nat) (l0 : List ByteArray) : Option (Bool) := if (l0.length : Int) > 20 then (some false) else (strongroomlaw03_small.l0 k l0 0 0)
theorem strongroomlaw03_small.mono_l : ∀ k, (∀ y0 y1 y2, LeO (strongroomlaw03_small.l0 k y0 y1 y2) (strongroomlaw03_small.l0 (k + 1) y0 y1 y2))
 | 0 => fun _ _ _ r h => by simp [strongroomlaw03_small.l0] at h
 | k + 1 => by
  have ih0 := strongroomlaw03_small.mono_l k
  ·intro y0 y1 y2
   unfold strongroomlaw03_small.l0
   repeat' first
   | (with_reducible exact ih0 _ _ _)
   | (with_reducible exact LeO.refl _)
   | (with_reducible exact LeO.none _)
   | (with_reducible refine LeO.ite ?_ ?_)
   | (with_reducible refine LeO.bind ?_ (fun _ => ?_))
   | exact ih0 _ _ _
   | exact LeO.none _
   | refine LeO.ite ?_ ?_
   | refine LeO.bind ?_ (fun _ => ?_)
theorem strongroomlaw03_small.mono : ∀ a0 k, LeO (strongroomlaw03_small.f k a0) (strongroomlaw03_small.f (k + 1) a0) := by
 intro a0 k
 have ih0 := strongroomlaw03_small.mono_l k
 unfold strongroomlaw03_small.f
 repeat' first
   | (with_reducible exact ih0 _ _ _)
   | (with_reducible exact LeO.refl _)
   | (with_reducible exact LeO.none _)
   | (with_reducible refine LeO.ite ?_ ?_)
   | (with_reducible refine LeO.bind ?_ (fun _ => ?_))
   | exact ih0 _ _ _
   | exact LeO.none _
   | refine LeO.ite ?_ ?_
   | refine LeO.bind ?_ (fun _ => ?_)
set_option maxHeartbeats 8000000 in
set_option maxRecDepth 100000 in
theorem strongroomlaw03_small.calls (k : Nat) (A0 : Option Addr) (c0 : Nat) (l0 : List ByteArray) (r : Bool) (w : World) (hr0 : Kd.C Kd.string w A0 l0.length l0) (hc0 : l0.length ≤ c0) (h : strongroomlaw03_small.f k l0 = some r) :
  Calls Try.prog 30 #[.slice A0 l0.length c0] w fun e w' => e = .returned (.bool r) ∧ Drawn0 w w' := by
 have HR0 := Aside0.mk hr0
 have HC0 := Aside0.mk hc0
 clear hr0 hc0
 have H : (if (l0.length : Int) > 20 then (some false) else (strongroomlaw03_small.l0 k l0 0 0)) = some r := h
 clear h
 by_cases c2 : (l0.length : Int) > 20
 ·rw [if_pos c2] at H
  have c2b0 : decide (20 < (l0.length : Int)) = true := decide_eq_true c2
  have c2b1 : decide (20 < l0.length) = true := decide_eq_true (by omega)
  clear c2
  obtain rfl := Option.some.inj H
  go_enter Try.func30, Try.ntmps30
  go_wp2
  go_ret
  exact ⟨by first | rfl | (simp; done) | (simp [*]; done), by repeat (first | exact Drawn0.refl _ | apply Drawn0.step)⟩
 ·rw [if_neg c2] at H
  have c2b0 : decide (20 < (l0.length : Int)) = false := decide_eq_false c2
  have c2b1 : decide (20 < l0.length) = false := decide_eq_false (by omega)
  clear c2
  have H' := Aside0.mk H
  clear H
  go_enter Try.func30, Try.ntmps30
  go_wp2
  go_loopg [3, 4] k (fun kq v3 v4 w' => ∃ (x3_1 : Int) (x4_1 : Int), v3 = .int .i64 x3_1 ∧ v4 = .int .i64 x4_1 ∧ Aside0 (strongroomlaw03_small.l0 kq l0 x3_1 x4_1 = some r) ∧ Aside0 (kq ≤ k) ∧ Drawn0 w w')
  case atStart => exact ⟨(0), (0), (by first | rfl | (simp; done) | (simp [*]; done)), (by first | rfl | (simp; done) | (simp [*]; done)), H', ⟨Nat.le_refl _⟩, by repeat (first | exact Drawn0.refl _ | apply Drawn0.step)⟩
  case round =>
   clear H'
   try clear c2
   try clear c2b0
   try clear c2b1
   try clear p2
   obtain ⟨x3_1, x4_1, rfl, rfl, HA, HK1, ⟨m1, rfl⟩⟩ := hrel
   cases gk with
   | zero => exact absurd HA.out (by simp [strongroomlaw03_small.l0])
   | succ k1 =>
    have H := HA.out
    clear HA
    simp only [strongroomlaw03_small.l0] at H
    by_cases c3 : x4_1 < (l0.length : Int)
    ·rw [if_pos c3] at H
     have c3b0 : decide (x4_1 < (l0.length : Int)) = true := decide_eq_true c3
     clear c3
     by_cases c4 : x3_1 ≤ 3000
     ·rw [if_pos c4] at H
      have c4b0 : decide (x3_1 ≤ 3000) = true := decide_eq_true c4
      clear c4
      by_cases c5 : 0 ≤ x4_1
      ·rw [if_pos c5] at H
       have c5b0 : decide (0 ≤ x4_1) = true := decide_eq_true c5
       clear c5
       have H' := Aside0.mk H
       clear H
       have p234 : 0 ≤ (x4_1 : Int) := of_decide_eq_true (by first | (with_reducible assumption) | assumption)
       have q234 : x4_1 < (l0.length : Int) := of_decide_eq_true (by first | (with_reducible assumption) | assumption)
       obtain ⟨ad234, e234, hx234_0⟩ := Kd.at_string HR0.out x4_1 p234 q234
       cases e234
       replace p234 := eq_true p234
       replace q234 := eq_true q234
       go_wp2
       go_roundg k1
       case measure => have := HK1.out; omega
       case rel => exact ⟨(wrap64 (x3_1 + ((rdOf ByteArray.empty l0 x4_1).size : Int))), (wrap64 (x4_1 + 1)), (by first | rfl | (simp; done) | (simp [*]; done)), (by first | rfl | (simp; done) | (simp [*]; done)), H', ⟨by have := HK1.out; omega⟩, by repeat (first | exact Drawn0.refl _ | apply Drawn0.step)⟩
      ·rw [if_neg c5] at H
       exact absurd H (by simp)
     ·rw [if_neg c4] at H
      have c4b0 : decide (x3_1 ≤ 3000) = false := decide_eq_false c4
      clear c4
      obtain rfl := Option.some.inj H
      go_wp2
      go_ret
      exact ⟨by first | rfl | (simp; done) | (simp [*]; done), by repeat (first | exact Drawn0.refl _ | apply Drawn0.step)⟩
    ·rw [if_neg c3] at H
     have c3b0 : decide (x4_1 < (l0.length : Int)) = false := decide_eq_false c3
     clear c3
     obtain rfl := Option.some.inj H
     go_wp2
     go_ret
     exact ⟨by first | rfl | (simp; done) | (simp [*]; done), by repeat (first | exact Drawn0.refl _ | apply Drawn0.step)⟩

end Go.Proofs.Ytcdnmlfnfhoieaa.A

/- MacBegins, walked: what is derived is the beginning of what more is derived. Condition: key and label have a size that a call can hand in. -/
namespace Go.Proofs.Ytcdnmlfnfhoieaa.A
open Go.RowKit Go.Proofs.YtcdnmlfnfhoieaaW.PrintWords Go.Proofs.YtcdnmlfnfhoieaaW.PrintLast Go.Proofs.YtcdnmlfnfhoieaaW.PrintMore Go.Proofs.Ytcdnmlfnfhoieaa.Bs
set_option linter.unusedVariables false
set_option linter.unusedSimpArgs false

theorem chain_k : mac_Chain.f 3 ⟨#[107]⟩ [] = some ⟨#[107]⟩ := by kernel_rfl
set_option maxHeartbeats 4000000 in
set_option maxRecDepth 100000 in
theorem lives3_walk (w : World) : Calls Try.prog 31 #[] w fun e w' => e = .returned (.bool true) ∧ Below w.heap.size w w' := by
 obtain ⟨d9, hd9⟩ : ∃ d, derP ⟨#[107]⟩ ⟨#[108]⟩ 9 = d := ⟨_, rfl⟩
 have z9 : d9.size = 9 := by rw [← hd9]; exact derP_size _ _ 9 (by decide)
 obtain ⟨s0, hs0⟩ : ∃ s, sealP ⟨#[]⟩ ⟨#[]⟩ = s := ⟨_, rfl⟩
 have z0 : s0.size = 32 := by rw [← hs0]; exact sealP_size _ _
 have hdw := derive_walk (w := w) ⟨#[107]⟩ ⟨#[108]⟩ 9 (by decide) (by decide) (by decide)
 rw [hd9] at hdw
 have HSL : Aside0 (mac_Seal.f ⟨#[]⟩ ⟨#[]⟩ = some s0) := ⟨by rw [← hs0]; exact mac_Seal.some_ _ _ (by decide) (by decide)⟩
 have HDW := Aside0.mk hdw
 clear hd9 hs0 hdw
 go_enter Try.func31, Try.ntmps31
 go_wp2_with fail
 refine HDW.out.mono ?_
 rintro e w1 ⟨rfl, hb1⟩
 have HL1 := Aside0.mk hb1
 clear hb1 HDW
 go_wp2_with fail
 refine (mac_Chain.calls 3 ⟨#[107]⟩ none 0 [] ⟨#[107]⟩ w1 ⟨rfl, by simp, fun h => absurd h (Nat.lt_irrefl _)⟩ (Nat.zero_le _) chain_k).mono ?_
 rintro e w2 ⟨rfl, hb2⟩
 have HL2 := Aside0.mk (below_step HL1.out hb2)
 clear hb2
 go_wp2_with fail
 refine (mac_Seal.calls ⟨#[]⟩ ⟨#[]⟩ s0 w2 HSL.out).mono ?_
 rintro e w3 ⟨rfl, hb3⟩
 have HL3 := Aside0.mk (below_step HL2.out hb3)
 clear hb3
 go_wp2_with fail
 go_ret
 exact ⟨rfl, HL3.out⟩
theorem str_take (l : List Int) (m : Nat) : (strOfNums l).extract 0 m = strOfNums (l.take m) := by
 apply ByteArray.ext
 simp [strOfNums, ByteArray.data_extract, List.map_take]
/-- small of two texts. -/
theorem small2 (key label : ByteArray) (hk : key.size ≤ 140737488351232) (hl : label.size ≤ 140737488351232) : ∃ b, strongroomlaw03_small.f 60 [key, label] = some b ∧ (b = true → key.size + label.size ≤ 3000) := by
 have e0 : rdOf ByteArray.empty [key, label] 0 = key := rfl
 have e1 : rdOf ByteArray.empty [key, label] 1 = label := rfl
 have w0 : wrap64 (0 + (key.size : Int)) = (key.size : Int) := by rw [wrap64_id _ (by omega) (by omega)]; omega
 have w1 : wrap64 ((key.size : Int) + (label.size : Int)) = (key.size : Int) + (label.size : Int) := wrap64_id _ (by omega) (by omega)
 have i0 : wrap64 ((0 : Int) + 1) = 1 := wrap64_id _ (by decide) (by decide)
 have i1 : wrap64 ((1 : Int) + 1) = 2 := wrap64_id _ (by decide) (by decide)
 have hl2 : (([key, label] : List ByteArray).length : Int) = 2 := rfl
 unfold strongroomlaw03_small.f
 rw [if_neg (by rw [hl2]; decide), show (60 : Nat) = 57 + 1 + 1 + 1 from rfl, strongroomlaw03_small.l0, hl2, if_pos (by decide), if_pos (by decide), if_pos (by decide), e0, w0, i0, strongroomlaw03_small.l0, hl2, if_pos (by decide)]
 by_cases h : (key.size : Int) ≤ 3000
 ·rw [if_pos h, if_pos (by decide), e1, w1, i1, strongroomlaw03_small.l0, hl2, if_neg (by decide)]
  exact ⟨_, rfl, fun hb => by have := of_decide_eq_true hb; omega⟩
 ·rw [if_neg h]
  exact ⟨_, rfl, fun hb => absurd (of_decide_eq_true hb) h⟩

set_option maxHeartbeats 4000000 in
set_option maxRecDepth 100000 in
theorem macbegins_walk (key label : ByteArray) (n0 n1 : Int) (hk : key.size ≤ 140737488351232) (hl : label.size ≤ 140737488351232) (w : World) :
  Calls Try.prog 6 #[.string key, .string label, .agg #[.int .i64 n0, .int .i64 n1]] w fun e w' => e = .returned (.bool true) ∧ Below w.heap.size w w' := by
 have hu46 := Try.underlying46
 obtain ⟨b, hb, hbs⟩ := small2 key label hk hl
 have HS := Aside0.mk hb
 have HSM := Aside0.mk hbs
 clear hb hbs hk hl
 go_enter Try.func6, Try.ntmps6
 go_upto_region 1 with ((with_reducible refine gate_dst (N := 5) rfl ?_); refine box_event ?hg (N := 5) ?hd (cs := #[.int .i64 n0, .int .i64 n1]) (t := 46) ?hr ?_; (case hd => rfl); (case hg => rfl); (case hr => first | (go_simp; done) | (go_simp; rfl)); intro g5 hg5 w1 hb1 hbel1; have HB1 := Aside0.mk hb1; have HL1 := Aside0.mk hbel1; clear hg5 hb1 hbel1)
 go_wp2_with ((with_reducible refine gate_dst (N := 13) rfl ?_); refine Kd.R_lit Kd.string _ 9 ?hg (N := 13) ?hd (xs := [key, label]) (inner := [.string key, .string label]) (ok := fun _ => True) (okp := fun _ => True) ?hr ?hp (fun _ hk => hk) trivial (Below.refl _ _) (Nat.le_refl _) (by simp) ?_; (case hd => rfl); (case hg => rfl); (case hr => first | (go_simp; done) | (go_simp; rfl)); (case hp => exact Kd.reps_scalar (enc := Value.string) [key, label]); intro v2 w2 hr2 hb2 hg2 hx2; clear hg2 hx2; obtain ⟨A2, n2, k2, rfl⟩ := R_shape hr2; obtain rfl : n2 = 2 := (Kd.R_reads' hr2).1; have HC2 : Aside0 (Kd.C Kd.string w2 A2 2 [key, label] ∧ 2 ≤ k2) := ⟨(Kd.R_reads' hr2).2.2, (Kd.R_reads' hr2).2.1⟩; have HL2 := Aside0.mk (below_step HL1.out hb2); have HB2 := Aside0.mk (blk_below HB1.out hb2); clear hr2 hb2 HL1 HB1)
 refine (strongroomlaw03_small.calls 60 A2 k2 [key, label] b w2 HC2.out.1 HC2.out.2 HS.out).mono ?_
 rintro e w3 ⟨rfl, hb3⟩
 have HL3 := Aside0.mk (below_step HL2.out hb3.below)
 have HB3 := Aside0.mk (blk_below HB2.out hb3.below)
 clear hb3 HL2 HB2 HC2
 have c0 : w3.cell? ⟨g5, 0, none⟩ = some (.int .i64 n0) := (blk_cell HB3.out 0).trans rfl
 have c1 : w3.cell? ⟨g5, 1, none⟩ = some (.int .i64 n1) := (blk_cell HB3.out 1).trans rfl
 have HLV : Aside0 (∀ W : World, Below w.heap.size w W → Calls Try.prog 31 #[] W fun e w' => e = .returned (.bool true) ∧ Below w.heap.size w w') := ⟨fun W hW => (lives3_walk W).mono fun e w' ⟨h1, h2⟩ => ⟨h1, below_step hW h2⟩⟩
 by_cases hq : b = true ∧ 0 ≤ n0 ∧ n0 ≤ n1 ∧ n1 ≤ 2000
 ·obtain ⟨rfl, h0, h1, h2⟩ := hq
  have hsm := HSM.out rfl
  obtain ⟨m0, rfl⟩ : ∃ m : Nat, n0 = (m : Int) := ⟨n0.toNat, by omega⟩
  obtain ⟨m1, rfl⟩ : ∃ m : Nat, n1 = (m : Int) := ⟨n1.toNat, by omega⟩
  have d0 : decide ((m0 : Int) < 0) = false := decide_eq_false (by omega)
  have d1 : decide (m1 < m0) = false := decide_eq_false (by omega)
  have d2 : decide ((2000 : Int) < (m1 : Int)) = false := decide_eq_false (by omega)
  obtain ⟨r0, hr0⟩ : ∃ r, derP key label m0 = r := ⟨_, rfl⟩
  obtain ⟨r1, hr1⟩ : ∃ r, derP key label m1 = r := ⟨_, rfl⟩
  have z0 : r0.size = m0 := by rw [← hr0]; exact derP_size _ _ _ (by omega)
  have z1 : r1.size = m1 := by rw [← hr1]; exact derP_size _ _ _ (by omega)
  have hcut : r1.extract 0 m0 = r0 := by
   rw [← hr0, ← hr1, derP, derP, str_take, List.take_take, Nat.min_eq_left (by omega)]
  have HD0 : Aside0 (∀ W : World, Calls Try.prog 32 #[.string key, .string label, .int .i64 (m0 : Int)] W fun e w' => e = .returned (.tuple #[.string r0, .int .i64 0]) ∧ Below W.heap.size W w') := ⟨fun W => by rw [← hr0]; exact derive_walk key label m0 (by omega) (by omega) (by omega)⟩
  have HD1 : Aside0 (∀ W : World, Calls Try.prog 32 #[.string key, .string label, .int .i64 (m1 : Int)] W fun e w' => e = .returned (.tuple #[.string r1, .int .i64 0]) ∧ Below W.heap.size W w') := ⟨fun W => by rw [← hr1]; exact derive_walk key label m1 (by omega) (by omega) (by omega)⟩
  have hle : m0 ≤ m1 := by omega
  clear hr0 hr1 h0 h1 h2 hsm
  go_wp2_with fail
  refine (HD0.out _).mono ?_
  rintro e w4 ⟨rfl, hb4⟩
  have HL4 := Aside0.mk (below_step HL3.out hb4)
  have HB4 := Aside0.mk (blk_below HB3.out hb4)
  clear hb4 c0 c1 HL3 HB3
  have c0 : w4.cell? ⟨g5, 0, none⟩ = some (.int .i64 (m0 : Int)) := (blk_cell HB4.out 0).trans rfl
  have c1 : w4.cell? ⟨g5, 1, none⟩ = some (.int .i64 (m1 : Int)) := (blk_cell HB4.out 1).trans rfl
  go_wp2_with fail
  refine (HD1.out _).mono ?_
  rintro e w5 ⟨rfl, hb5⟩
  have HL5 := Aside0.mk (below_step HL4.out hb5)
  have HB5 := Aside0.mk (blk_below HB4.out hb5)
  clear hb5 c0 c1 HL4 HB4
  have c0 : w5.cell? ⟨g5, 0, none⟩ = some (.int .i64 (m0 : Int)) := (blk_cell HB5.out 0).trans rfl
  have c1 : w5.cell? ⟨g5, 1, none⟩ = some (.int .i64 (m1 : Int)) := (blk_cell HB5.out 1).trans rfl
  go_wp2_with fail
  refine (lives3_walk w5).mono ?_
  rintro e w6 ⟨rfl, hb6⟩
  have HL6 := Aside0.mk (below_step HL5.out hb6)
  clear hb6
  go_wp2_with fail
  go_ret
  exact ⟨rfl, HL6.out⟩
 ·cases b with
  | false =>
   go_wp2_with fail
   refine (HLV.out w3 HL3.out).mono ?_
   rintro e w6 ⟨rfl, hb6⟩
   have HL6 := Aside0.mk hb6
   clear hb6
   go_wp2_with fail
   go_ret
   exact ⟨rfl, HL6.out⟩
  | true =>
   by_cases h0 : n0 < 0
   ·have d0 : decide (n0 < 0) = true := decide_eq_true h0
    go_wp2_with fail
    refine (HLV.out w3 HL3.out).mono ?_
    rintro e w6 ⟨rfl, hb6⟩
    have HL6 := Aside0.mk hb6
    clear hb6
    go_wp2_with fail
    go_ret
    exact ⟨rfl, HL6.out⟩
   ·have d0 : decide (n0 < 0) = false := decide_eq_false h0
    by_cases h1 : n1 < n0
    ·have d1 : decide (n1 < n0) = true := decide_eq_true h1
     go_wp2_with fail
     refine (HLV.out w3 HL3.out).mono ?_
     rintro e w6 ⟨rfl, hb6⟩
     have HL6 := Aside0.mk hb6
     clear hb6
     go_wp2_with fail
     go_ret
     exact ⟨rfl, HL6.out⟩
    ·have d1 : decide (n1 < n0) = false := decide_eq_false h1
     have d2 : decide (2000 < n1) = true := decide_eq_true (by
      by_cases h2 : n1 ≤ 2000
      ·exact absurd ⟨rfl, by omega, by omega, h2⟩ hq
      ·omega)
     go_wp2_with fail
     refine (HLV.out w3 HL3.out).mono ?_
     rintro e w6 ⟨rfl, hb6⟩
     have HL6 := Aside0.mk hb6
     clear hb6
     go_wp2_with fail
     go_ret
     exact ⟨rfl, HL6.out⟩
theorem macbegins.calls (key label : ByteArray) (n0 n1 : Int) (r : Bool) (w : World) (hk : key.size ≤ 140737488351232) (hl : label.size ≤ 140737488351232) (h : r = true) :
  Calls Try.prog 6 #[.string key, .string label, .agg #[.int .i64 n0, .int .i64 n1]] w fun e w' => e = .returned (.bool r) ∧ Below w.heap.size w w' := by
 subst h
 exact macbegins_walk key label n0 n1 hk hl w

end Go.Proofs.Ytcdnmlfnfhoieaa.A

/- What a struct and a list of structs read as, as the walks take it. No condition. -/
namespace Go.Proofs.Ytcdnmlfnfhoieaa.A
open Go.ChangeShapes Go.WideShapes Go.ChangeAt Go.RowKit Go.Joins Go.Deep
open Go.Proofs.YtcdnmlfnfhoieaaW.PrintWords Go.Proofs.YtcdnmlfnfhoieaaW.PrintLast Go.Proofs.YtcdnmlfnfhoieaaW.PrintMore
set_option linter.unusedVariables false

section
variable {H : Type} {enc : TypeId × Value → H} {w : World} {base : Nat} {held : Bool}
/-- A struct of five one-cell fields, by value. -/
theorem open_agg5 {P : Program} {spare : Nat → Bool} {r : Reach} {b0 : Nat} {t : TypeId} {f0 f1 f2 f3 f4 : Field} {v : Value} {d : DataW H} {p : List MemPlace} (hs : P.underlying t = some (.struct #[f0, f1, f2, f3, f4])) (hone : oneCellFields P #[f0, f1, f2, f3, f4] = true) (hC : P.cellsOf t = 5)
  (hv : Value.okWide P w r b0 t v) (h : DataW.Trod enc P w base spare held t v d p) :
  ∃ (v0 v1 v2 v3 v4 : Value) (y0 y1 y2 y3 y4 : DataW H × List MemPlace) (n : Nat), v = .agg #[v0, v1, v2, v3, v4] ∧
   DataW.trod enc P w base spare held n f0.type [v0] = some y0 ∧ DataW.trod enc P w base spare held n f1.type [v1] = some y1 ∧ DataW.trod enc P w base spare held n f2.type [v2] = some y2 ∧ DataW.trod enc P w base spare held n f3.type [v3] = some y3 ∧ DataW.trod enc P w base spare held n f4.type [v4] = some y4 := by
 obtain ⟨cs, rfl, hsz⟩ := okWide_struct hs hv
 obtain ⟨l⟩ := cs
 match l, hsz.trans hC with
 | [c0, c1, c2, c3, c4], _ =>
  obtain ⟨fuel, hf⟩ := h
  obtain ⟨xs, n, _, hx, _, hlen, hg⟩ := DataW.trod_struct hs hf
  obtain ⟨o0, k0⟩ := hone_of hone 0 f0 rfl
  obtain ⟨o1, k1⟩ := hone_of hone 1 f1 rfl
  obtain ⟨o2, k2⟩ := hone_of hone 2 f2 rfl
  obtain ⟨o3, k3⟩ := hone_of hone 3 f3 rfl
  obtain ⟨o4, k4⟩ := hone_of hone 4 f4 rfl
  match xs, hlen with
  | [y0, y1, y2, y3, y4], _ =>
   exact ⟨c0, c1, c2, c3, c4, y0, y1, y2, y3, y4, n, rfl, by simpa [Value.cells, o0, k0] using hg 0 f0 rfl, by simpa [Value.cells, o1, k1] using hg 1 f1 rfl, by simpa [Value.cells, o2, k2] using hg 2 f2 rfl, by simpa [Value.cells, o3, k3] using hg 3 f3 rfl, by simpa [Value.cells, o4, k4] using hg 4 f4 rfl⟩
/-- A struct of three one-cell fields, by value. -/
theorem open_agg3' {P : Program} {spare : Nat → Bool} {r : Reach} {b0 : Nat} {t : TypeId} {f0 f1 f2 : Field} {v : Value} {d : DataW H} {p : List MemPlace} (hs : P.underlying t = some (.struct #[f0, f1, f2])) (hone : oneCellFields P #[f0, f1, f2] = true) (hC : P.cellsOf t = 3)
  (hv : Value.okWide P w r b0 t v) (h : DataW.Trod enc P w base spare held t v d p) :
  ∃ (v0 v1 v2 : Value) (y0 y1 y2 : DataW H × List MemPlace) (n : Nat), v = .agg #[v0, v1, v2] ∧
   DataW.trod enc P w base spare held n f0.type [v0] = some y0 ∧ DataW.trod enc P w base spare held n f1.type [v1] = some y1 ∧ DataW.trod enc P w base spare held n f2.type [v2] = some y2 := by
 obtain ⟨v0, v1, v2, y0, y1, y2, n, h1, _, _, h2⟩ := Go.Joins.open_agg3 hs hone hC hv h
 exact ⟨v0, v1, v2, y0, y1, y2, n, h1, h2⟩
/-- An array of two one-cell elements, by value. -/
theorem open_arr2 {P : Program} {spare : Nat → Bool} {r : Reach} {b0 : Nat} {t e : TypeId} {v : Value} {d : DataW H} {p : List MemPlace} (hs : P.underlying t = some (.array 2 e)) (hC : P.cellsOf t = 2) (he : P.cellsOf e = 1)
  (hv : Value.okWide P w r b0 t v) (h : DataW.Trod enc P w base spare held t v d p) :
  ∃ (v0 v1 : Value) (y0 y1 : DataW H × List MemPlace) (n : Nat), v = .agg #[v0, v1] ∧ DataW.trod enc P w base spare held n e [v0] = some y0 ∧ DataW.trod enc P w base spare held n e [v1] = some y1 := by
 simp only [Value.okWide, hs] at hv
 obtain ⟨cs, rfl, hsz, _⟩ := hv
 obtain ⟨l⟩ := cs
 match l, hsz.trans hC with
 | [c0, c1], _ =>
  obtain ⟨fuel, hf⟩ := h
  obtain ⟨xs, n, _, _, _, hlen, hg⟩ := DataW.trod_array hs hf
  match xs, hlen with
  | [y0, y1], _ => exact ⟨c0, c1, y0, y1, n, rfl, by simpa [Value.cells, he] using hg 0 (by decide), by simpa [Value.cells, he] using hg 1 (by decide)⟩
theorem open_arrint {P : Program} {spare : Nat → Bool} {r : Reach} {b0 : Nat} {t e : TypeId} {v : Value} {d : DataW H} {p : List MemPlace} (hs : P.underlying t = some (.array 2 e)) (hC : P.cellsOf t = 2) (he : P.cellsOf e = 1) (hi : P.underlying e = some (.int .i64))
  (hv : Value.okWide P w r b0 t v) (h : DataW.Trod enc P w base spare held t v d p) : ∃ n0 n1 : Int, v = .agg #[.int .i64 n0, .int .i64 n1] := by
 obtain ⟨v0, v1, y0, y1, n, rfl, h0, h1⟩ := open_arr2 hs hC he hv h
 obtain ⟨a0, e0, _⟩ := DataW.trod_int hi h0
 obtain ⟨a1, e1, _⟩ := DataW.trod_int hi h1
 cases e0
 cases e1
 exact ⟨a0, a1, rfl⟩
theorem open_arrstr {P : Program} {spare : Nat → Bool} {r : Reach} {b0 : Nat} {t e : TypeId} {v : Value} {d : DataW H} {p : List MemPlace} (hs : P.underlying t = some (.array 2 e)) (hC : P.cellsOf t = 2) (he : P.cellsOf e = 1) (hi : P.underlying e = some .string)
  (hv : Value.okWide P w r b0 t v) (h : DataW.Trod enc P w base spare held t v d p) : ∃ s0 s1 : ByteArray, v = .agg #[.string s0, .string s1] := by
 obtain ⟨v0, v1, y0, y1, n, rfl, h0, h1⟩ := open_arr2 hs hC he hv h
 obtain ⟨a0, e0, _⟩ := DataW.trod_string hi h0
 obtain ⟨a1, e1, _⟩ := DataW.trod_string hi h1
 cases e0
 cases e1
 exact ⟨a0, a1, rfl⟩
set_option maxRecDepth 100000 in
/-- A list of entries. -/
theorem open_T64 {n : Nat} {v : Value} {y : DataW H × List MemPlace} (h : DataW.trod enc Try.prog w base (fun _ => true) held n 52 [v] = some y) :
  ∃ (A : Option Addr) (c : Nat) (l : List S64), v = .slice A l.length c ∧ l.length ≤ c ∧ Kd.C k64 w A l.length l := by
 rcases Go.Deep.open_slice Try.underlying52 h with ⟨hcs, _⟩ | ⟨a, len, cap, m, n', D, Pl, hcs, hb, hl, hm, hmm, hx, hall⟩
 ·cases hcs
  exact ⟨none, 0, [], rfl, Nat.le_refl _, rfl, by simp, fun h => absurd h (Nat.lt_irrefl _)⟩
 ·cases hcs
  have hm' : m = cap := by simpa using hmm
  have h5 : Try.prog.cellsOf 64 = 5 := by kernel_rfl
  haveI : Inhabited S64 := ⟨z64⟩
  have each : ∀ i, i < len → ∃ e : S64, ∀ j u, [Value.int .i64 e.f0, .int .i64 e.f1, .int .i64 e.f2, .string e.f3, .int .i64 e.f4][j]? = some u → w.cell? (a.add (i * 5 + j)) = some u := by
   intro i hi
   obtain ⟨cs', h1, h2⟩ := hall i (by omega)
   rw [h5] at h1
   obtain ⟨_, hlen, hcell⟩ := World.cells?_some h1
   obtain ⟨xs, k, hk, hxy, _, hxl, hf⟩ := DataW.trod_struct Try.underlying64 h2
   match xs, hxl, cs', hlen with
   | [y0, y1, y2, y3, y4], _, [v0, v1, v2, v3, v4], _ =>
    have c3 : Try.prog.cellsOf 3 = 1 := by kernel_rfl
    have c9 : Try.prog.cellsOf 9 = 1 := by kernel_rfl
    have c26 : Try.prog.cellsOf 26 = 1 := by kernel_rfl
    have g0 := hf 0 _ rfl
    have g1 := hf 1 _ rfl
    have g2 := hf 2 _ rfl
    have g3 := hf 3 _ rfl
    have g4 := hf 4 _ rfl
    simp [c3, c9, c26] at g0 g1 g2 g3 g4
    obtain ⟨a0, e0, _⟩ := DataW.trod_int Try.underlying3 g0
    obtain ⟨a1, e1, _⟩ := DataW.trod_int Try.underlying3 g1
    obtain ⟨a2, e2, _⟩ := DataW.trod_int Try.underlying3 g2
    obtain ⟨a3, e3, _⟩ := DataW.trod_string Try.underlying9 g3
    obtain ⟨a4, e4, _⟩ := DataW.trod_int Try.underlying26 g4
    cases e0
    cases e1
    cases e2
    cases e3
    cases e4
    refine ⟨⟨a0, a1, a2, a3, a4⟩, fun j u hj => ?_⟩
    have hj5 : j < 5 := by
     rcases Nat.lt_or_ge j 5 with h | h
     ·exact h
     ·rw [List.getElem?_eq_none (by simpa using h)] at hj
      cases hj
    have := hcell j hj5
    rw [Go.Deep.add_add] at this
    rw [this]
    exact hj
  obtain ⟨f, hf⟩ := choose_lt (α := S64) (p := fun i e => ∀ j u, [Value.int .i64 e.f0, .int .i64 e.f1, .int .i64 e.f2, .string e.f3, .int .i64 e.f4][j]? = some u → w.cell? (a.add (i * 5 + j)) = some u) each
  have hlen : ((List.range len).map f).length = len := by simp
  refine ⟨some a, cap, (List.range len).map f, by rw [hlen], by rw [hlen]; exact hl, rfl, ?_, fun _ => ⟨a, rfl, fun j p hj => ?_⟩⟩
  ·rw [hlen]
   simp only [maxLen] at hm
   omega
  ·have hjl : j < len := by
    rcases Nat.lt_or_ge j len with h | h
    ·exact h
    ·rw [List.getElem?_eq_none (by simpa using h)] at hj
     cases hj
   have e : p = f j := by
    rw [List.getElem?_map, List.getElem?_range hjl] at hj
    exact (Option.some.inj hj).symm
   subst e
   exact ⟨_, rfl, k64_mk w (f j), fun i u hi => hf j hjl i u hi⟩
end

end Go.Proofs.Ytcdnmlfnfhoieaa.A

/- MacBegins, for every key, label and two numbers: the law answers true, and every argument reads behind the call as before. No condition beyond the row's own. -/
namespace Go.Proofs.Ytcdnmlfnfhoieaa.macBegins
open Go.ChangeShapes Go.WideShapes Go.ChangeAt Go.RowKit Go.Joins Go.Deep
open Go.ChangeMaps (open_string shut_string)
open Go.Proofs.Ytcdnmlfnfhoieaa.A Go.Proofs.YtcdnmlfnfhoieaaW.PrintWords Go.Proofs.Ytcdnmlfnfhoieaa.Bs
set_option linter.unusedVariables false

theorem own : ownKnob Try.prog.godebug = none := by kernel_rfl
theorem laidOut : laidOutB Try.prog = true := by kernel_rfl

set_option maxRecDepth 100000 in
theorem lifted (os : Os) (started : os.Started) (H : Type) (enc : TypeId × Value → H) :
  ReturnsInHanded {} Try.checked os 6 .any (Rows.macBeginsSpec.pre6 enc Try.prog Try.f6 Rows.macBeginsRow.domain false) (Rows.macBeginsSpec.post enc Try.prog Try.f6 false true false false) := by
 refine returnsInHanded_of_change_sized (C := Try.checked) own started (by kernel_rfl) Try.func6
  (ChangeSpec.witness6 (enc := enc) (C := Try.checked) false ⟨#[], #[.string ByteArray.empty, .string ByteArray.empty, .agg #[.int .i64 0, .int .i64 0]], []⟩ 8 (by kernel_rfl) (by kernel_rfl) (by kernel_rfl) (by kernel_rfl)) ?_
 intro W base args ds gs before hval0 hW hcnd hsz0 _
 have hsz : (DataW.weightsEach Try.prog (Try.f6.params.toList ++ Rows.macBeginsSpec.plain.varTypes Try.prog) (ds ++ gs)).all (· ≤ reachBytes) = true := hsz0
 have hval : ∀ (j : Nat) t v, Try.f6.params[j]? = some t → args[j]? = some v → Value.okWide Try.prog W .any base t v := hval0
 have hW' := hW
 obtain ⟨p, q, hA0, hV, rfl, hfz, hnd⟩ := hW
 have hA : DataW.TrodAll enc Try.prog W 0 (fun _ => true) true Try.f6.params.toList args.toList ds p := hA0
 rw [Try.params6] at hA hval
 obtain ⟨v0, vs0, d0, ds0, p0, q0, hargs, rfl, rfl, h0, r0⟩ := trodAll_cons hA
 obtain ⟨v1, vs1, d1, ds1, p1, q1, rfl, rfl, rfl, h1, r1⟩ := trodAll_cons r0
 obtain ⟨v2, vs2, d2, ds2, p2, q2, rfl, rfl, rfl, h2, r2⟩ := trodAll_cons r1
 obtain ⟨rfl, rfl, rfl⟩ := trodAll_nil r2
 obtain rfl : args = #[v0, v1, v2] := by cases args; simp_all
 obtain ⟨rfl, rfl⟩ := trodVars_none hV
 have k0 := h0
 have lt0 : ∀ x ∈ p0, x.block < W.heap.size := by obtain ⟨m, hm⟩ := k0; exact DataW.trod_lt m _ _ _ hm
 obtain ⟨s0, rfl, rfl, rfl, ysz0⟩ := open_string Try.underlying9 (hval 0 9 v0 rfl rfl) h0
 have w0 : s0.size ≤ 140737488351232 := by
  have z := sized_string hsz (j := 0) (t := 9) rfl rfl
  rw [Array.length_toList] at z
  exact z
 have k1 := h1
 have lt1 : ∀ x ∈ p1, x.block < W.heap.size := by obtain ⟨m, hm⟩ := k1; exact DataW.trod_lt m _ _ _ hm
 obtain ⟨s1, rfl, rfl, rfl, ysz1⟩ := open_string Try.underlying9 (hval 1 9 v1 rfl rfl) h1
 have w1 : s1.size ≤ 140737488351232 := by
  have z := sized_string hsz (j := 1) (t := 9) rfl rfl
  rw [Array.length_toList] at z
  exact z
 have k2 := h2
 have lt2 : ∀ x ∈ p2, x.block < W.heap.size := by obtain ⟨m, hm⟩ := k2; exact DataW.trod_lt m _ _ _ hm
 obtain ⟨n2_0, n2_1, rfl⟩ := open_arrint Try.underlying46 (by kernel_rfl) (by kernel_rfl) Try.underlying3 (hval 2 46 v2 rfl rfl) h2
 clear hA0 hval0 hsz0 hsz
 refine (macbegins.calls  s0 s1 n2_0 n2_1 true W w0 w1 rfl).mono fun e W' ⟨he, bel⟩ => ?_
 subst he
 exact ⟨_, rfl, _, _, _, [], _, [], hW', trodAll_mk1 (shut_bool Try.underlying4 _), (trodAll_cons_mk (Below.trod laidOut (by kernel_rfl) (of_decide_eq_true (by kernel_rfl)) k0 bel lt0) (trodAll_cons_mk (Below.trod laidOut (by kernel_rfl) (of_decide_eq_true (by kernel_rfl)) k1 bel lt1) (trodAll_cons_mk (Below.trod laidOut (by kernel_rfl) (of_decide_eq_true (by kernel_rfl)) k2 bel lt2) trodAll_mk0))), rfl, bel.frame _, fun h => by cases h⟩
theorem over : Rows.macBeginsRow.holds Try.pinned (OpenSpec.ofChange Rows.macBeginsSpec) :=
 OpenClaim.holds_of_wide 6 Try.f6 rfl rfl rfl rfl rfl rfl rfl ⟨rfl, rfl, rfl, rfl, rfl⟩ rfl rfl rfl rfl rfl (by kernel_rfl) Try.func6 (by kernel_rfl)
  (of_decide_eq_true (by kernel_rfl)) (by unfold Func.isWrapper; first | (rw [if_pos (by decide +kernel)]; kernel_rfl) | (rw [if_neg (by decide +kernel)]; exact ⟨rfl, rfl⟩))
  (fun os started H enc _ => lifted os started H enc)
theorem proved : Rows.MacBeginsSaid := over
#print axioms proved
end Go.Proofs.Ytcdnmlfnfhoieaa.macBegins
namespace Go.Proofs.Ytcdnmlfnfhoieaa
/-- The row, under a short name, for the claim. -/
theorem macBegins_holds : Rows.MacBeginsSaid := macBegins.proved
end Go.Proofs.Ytcdnmlfnfhoieaa
