/- What the claim's last text reaches, in build order (part 2 of 4): each text's own remark stands at its head. No condition beyond those. -/
import Derived.Test.YtcdnmlfnfhoieaaMSha0
import Derived.Test.YtcdnmlfnfhoieaaMAuditMays0

/- audit.Add, walked: an audit that goes on by an entry. No condition beyond what the function says. -/
namespace Go.Proofs.Ytcdnmlfnfhoieaa.A
open Go.RowKit Go.Proofs.YtcdnmlfnfhoieaaW.PrintWords Go.Proofs.YtcdnmlfnfhoieaaW.PrintLast Go.Proofs.YtcdnmlfnfhoieaaW.PrintMore Go.Proofs.Ytcdnmlfnfhoieaa.Bs
attribute [local go_sem] max2_int min2_int max_two min_two max_three min_three max_four min_four
set_option linter.unusedVariables false
set_option linter.unusedSimpArgs false

def addOn (k : Nat) (a : ByteArray) (n : Int) (l : List S64) (e : S64) : Option (ByteArray × Int × List S64 × Int) :=
 if l.length = 8 then ((audit_bytes.f k (rd_T64 l 0).f0 (rd_T64 l 0).f1 (rd_T64 l 0).f2 (rd_T64 l 0).f3 (rd_T64 l 0).f4).bind fun b => (mac_Seal.f a b).bind fun s => some (s, n, l.drop 1 ++ [e], 0))
 else if l.length < 1000000000 then some (a, n, l ++ [e], 0) else none
def audit_Add.f (k : Nat) (a0_0 : ByteArray) (a0_1 : Int) (l0_2 : List S64) (a1_0 a1_1 a1_2 : Int) (a1_3 : ByteArray) (a1_4 : Int) : Option (ByteArray × Int × List S64 × Int) :=
 (audit_May.f k a0_0 a0_1 l0_2).bind fun m => if m = true then ((audit_good.f (wrap64 (a0_1 + 1)) a1_1 a1_2 a1_3 a1_4).bind fun g => if g = true then addOn k a0_0 (wrap64 (a0_1 + 1)) l0_2 ⟨wrap64 (a0_1 + 1), a1_1, a1_2, a1_3, a1_4⟩ else some (⟨#[]⟩, 0, [], 1)) else some (⟨#[]⟩, 0, [], 1)

theorem C_frame64 {w w1 : World} {S : Nat → Prop} {A : Option Addr} {n : Nat} {xs : List S64} (h : Kd.C k64 w A n xs) (hf : Fr w w1 S) (ho : Out S A n) : Kd.C k64 w1 A n xs := by
 refine ⟨h.1, h.2.1, fun hn => ?_⟩
 obtain ⟨ad, e, hc⟩ := h.2.2 hn
 refine ⟨ad, e, fun j p hj => ?_⟩
 obtain ⟨c, h1, h2, h3⟩ := hc j p hj
 exact ⟨c, h1, h2, fun i u hi => hf.cell (h3 i u hi) (by rw [add_block]; exact ho ad e hn)⟩
theorem addOn.mono (k : Nat) (a : ByteArray) (n : Int) (l : List S64) (e : S64) : LeO (addOn k a n l e) (addOn (k + 1) a n l e) := by
 unfold addOn
 refine LeO.ite (LeO.bind (audit_bytes.mono _ _ _ _ _ _) (fun _ => LeO.refl _)) (LeO.refl _)
theorem audit_Add.mono : ∀ a0 a1 a2 a3 a4 a5 a6 a7 k, LeO (audit_Add.f k a0 a1 a2 a3 a4 a5 a6 a7) (audit_Add.f (k + 1) a0 a1 a2 a3 a4 a5 a6 a7) := by
 intro a0 a1 a2 a3 a4 a5 a6 a7 k
 unfold audit_Add.f
 exact LeO.bind (audit_May.mono _ _ _ _) (fun _ => LeO.ite (LeO.bind (LeO.refl _) (fun _ => LeO.ite (addOn.mono _ _ _ _ _) (LeO.refl _))) (LeO.refl _))
/-- append onto a slice without room: a new row. -/
theorem run_append_full {P : Program} {α : Type} (d : Kd α) {W : World} (t ty e : TypeId) (z : Value) (bytes : Nat) (ht : P.underlying t = some (.slice e)) (hinfo : (P.info? e).map (fun i => (i.zero, i.size, i.bytes)) = some (some z, d.sz, bytes)) (hz : z.cells.size = d.sz) (hs0 : 0 < d.sz) (hb0 : 0 < bytes)
  (ad ad2 : Addr) (n m c : Nat) (xs ys : List α) (HX : d.C W (some ad) n xs) (HY : d.C W (some ad2) m ys) (hm : 0 < m) (hKM : ∀ (w' : World) (base' : Nat) (ok' : Nat → Prop) x cs, d.K W x cs → d.M w' base' ok' x cs) (hl : (n + m) * bytes ≤ 140737488355328) :
  ∃ v1 w1, (Builtin.append_ #[t, t] ty #[.slice (some ad) n n, .slice (some ad2) m c]).run P W = .ok v1 w1 ∧ d.R e w1 W.heap.size (fun _ => True) v1 (xs ++ ys) ∧ Below W.heap.size W w1 := by
 obtain ⟨i0, hi, hzz⟩ := Option.map_eq_some_iff.1 hinfo
 simp only [Prod.mk.injEq] at hzz
 obtain ⟨hz0, hz1, hz2⟩ := hzz
 obtain ⟨olds, hr1, hc1⟩ := ReadsRow.inner_ HX
 obtain ⟨news, hr2, hc2⟩ := ReadsRow.inner_ HY
 have hx : xs.length = n := HX.1
 have hy : ys.length = m := HY.1
 have hlen : n + m ≤ 140737488355328 := Nat.le_trans (Nat.le_mul_of_pos_right _ hb0) hl
 obtain ⟨v1, w1, hrun, hown, hg⟩ := run_append_arg_grows (P := P) W t ty e i0 z d.sz bytes ht hi hz0 hz1 hz2 hz hs0 ad n n olds (by rw [hr1.1, hx]) hc1 ad2 m c news (by rw [hr2.1, hy]) hc2 (by omega) (by simp only [maxLen]; omega) hl
 refine ⟨v1, w1, hrun, ⟨fun _ _ => trivial, olds ++ news, by rw [List.length_append, hx, hy]; exact hown, Kd.reps_append (hr1.imp_ (fun _ _ h => hKM _ _ _ _ _ h)) (hr2.imp_ (fun _ _ h => hKM _ _ _ _ _ h))⟩, ⟨hg.os, hg.tape, hg.output, hg.size, fun i hi => hg.block i hi (by simp)⟩⟩

/-- .. as one step of a region that draws its order. -/
theorem R_append_full_step {P : Program} {ops : Array Oper} {o : Oper} {a : Act} {W : World} {Kc : Act → World → Prop} {Q : Exit → Act → World → Prop} {α : Type} (d : Kd α) (hw : Region.wanted o (yielded ops a.tmps) = true) (s x : Operand) (t e : TypeId) (z : Value) (bytes : Nat)
  (ho : o.op = .call { callee := .builtin .append, args := #[s, x], argTypes := #[t, t] }) (ht : P.underlying t = some (.slice e)) (hinfo : (P.info? e).map (fun i => (i.zero, i.size, i.bytes)) = some (some z, d.sz, bytes)) (hz : z.cells.size = d.sz) (hs0 : 0 < d.sz) (hb0 : 0 < bytes)
  (ad ad2 : Addr) (n m c : Nat) (xs ys : List α) (hs : a.eval s = .slice (some ad) n n) (hx : a.eval x = .slice (some ad2) m c) (HX : d.C W (some ad) n xs) (HY : d.C W (some ad2) m ys) (hm : 0 < m) (hKM : ∀ (w' : World) (base' : Nat) (ok' : Nat → Prop) x cs, d.K W x cs → d.M w' base' ok' x cs) (hl : (n + m) * bytes ≤ 140737488355328)
  (h : ∀ v1 w1, d.R e w1 W.heap.size (fun _ => True) v1 (xs ++ ys) → Below W.heap.size W w1 → Kc (a.put o.dst v1) w1) :
  if Region.wanted o (yielded ops a.tmps) = true then Oper.wp P o a W Kc Q else Kc (a.put o.dst undef) W := by
 obtain ⟨v1, w1, hrun, h1, h2⟩ := run_append_full (P := P) d t o.type e z bytes ht hinfo hz hs0 hb0 ad ad2 n m c xs ys HX HY hm hKM hl
 rw [if_pos hw]
 unfold Oper.wp
 simp [execOp, ho, resolve, invoke, builtin, hs, hx, hrun, Result.andThen]
 exact h v1 w1 h1 h2

set_option maxHeartbeats 8000000 in
set_option maxRecDepth 100000 in
theorem audit_Add.calls (k : Nat) (a0_0 : ByteArray) (a0_1 : Int) (A0_2 : Option Addr) (c0_2 : Nat) (l0_2 : List S64) (a1_0 a1_1 a1_2 : Int) (a1_3 : ByteArray) (a1_4 : Int) (r1 : ByteArray) (r2 : Int) (r3 : List S64) (r4 : Int) (w : World) (hr0_2 : Kd.C k64 w A0_2 l0_2.length l0_2) (hc0_2 : l0_2.length ≤ c0_2) (h : audit_Add.f k a0_0 a0_1 l0_2 a1_0 a1_1 a1_2 a1_3 a1_4 = some (r1, r2, r3, r4)) :
  Calls Try.prog 42 #[.agg #[.string a0_0, .int .i64 a0_1, .slice A0_2 l0_2.length c0_2], .agg #[.int .i64 a1_0, .int .i64 a1_1, .int .i64 a1_2, .string a1_3, .int .i64 a1_4]] w fun e w' => ∃ v2_ : Value, e = .returned (.tuple #[.agg #[.string r1, .int .i64 r2, v2_], .int .i64 r4]) ∧ Kd.R k64 64 w' w.heap.size (fun _ => True) v2_ r3 ∧ Below w.heap.size w w' := by
 have hu56 := Try.underlying56
 have hu64 := Try.underlying64
 have hu52 := Try.underlying52
 have HR := Aside0.mk hr0_2
 have HC := Aside0.mk hc0_2
 clear hr0_2 hc0_2
 unfold audit_Add.f at h
 obtain ⟨m, hm, h⟩ := Option.bind_eq_some_iff.mp h
 have HM := Aside0.mk hm
 have H := Aside0.mk h
 clear hm h
 go_enter Try.func42, Try.ntmps42
 go_upto_region 1 with (first | ((with_reducible refine gate_dst (N := 2) rfl ?_); refine box_event ?hg (N := 2) ?hd (cs := #[.string a0_0, .int .i64 a0_1, .slice A0_2 l0_2.length c0_2]) (t := 56) ?hr ?_; (case hd => rfl); (case hg => rfl); (case hr => first | (go_simp; done) | (go_simp; rfl)); intro g2 hg2 w2 hb2 hbel2; have HG2 := Aside0.mk hg2; have HB2 := Aside0.mk hb2; have HL2 := Aside0.mk hbel2; clear hg2 hb2 hbel2) | ((with_reducible refine gate_dst (N := 3) rfl ?_); refine box_event ?hg (N := 3) ?hd (cs := #[.int .i64 a1_0, .int .i64 a1_1, .int .i64 a1_2, .string a1_3, .int .i64 a1_4]) (t := 64) ?hr ?_; (case hd => rfl); (case hg => rfl); (case hr => first | (go_simp; done) | (go_simp; rfl)); intro g3 hg3 w3 hb3 hbel3; have HG3 := Aside0.mk hg3; have HB3 := Aside0.mk hb3; have HL3 := Aside0.mk hbel3; clear hg3 hb3 hbel3) | ((with_reducible refine gate_dst (N := 4) rfl ?_); refine box_event ?hg (N := 4) ?hd (cs := #[.string ⟨#[]⟩, .int .i64 0, .slice none 0 0]) (t := 56) ?hr ?_; (case hd => rfl); (case hg => rfl); (case hr => first | (go_simp; done) | (go_simp; rfl)); intro g4 hg4 w4 hb4 hbel4; have HG4 := Aside0.mk hg4; have HB4 := Aside0.mk hb4; have HL4 := Aside0.mk hbel4; clear hg4 hb4 hbel4))
 have HS2 : Aside0 (w4.heap[g2]? = some (.cells #[.string a0_0, .int .i64 a0_1, .slice A0_2 l0_2.length c0_2] 56 (0, 0))) := ⟨blk_below (blk_below HB2.out HL3.out) HL4.out⟩
 have HS3 : Aside0 (w4.heap[g3]? = some (.cells #[.int .i64 a1_0, .int .i64 a1_1, .int .i64 a1_2, .string a1_3, .int .i64 a1_4] 64 (0, 0))) := ⟨blk_below HB3.out HL4.out⟩
 have HL : Aside0 (Below w.heap.size w w4) := ⟨below_step (below_step HL2.out HL3.out) HL4.out⟩
 have N23 : Aside0 (g2 ≠ g3) := ⟨by rw [HG3.out]; exact Nat.ne_of_lt (blk_lt HB2.out)⟩
 have N24 : Aside0 (g2 ≠ g4) := ⟨by rw [HG4.out]; exact Nat.ne_of_lt (blk_lt (blk_below HB2.out HL3.out))⟩
 have N34 : Aside0 (g3 ≠ g4) := ⟨by rw [HG4.out]; exact Nat.ne_of_lt (blk_lt HB3.out)⟩
 have W2 : Aside0 (w.heap.size ≤ g2) := ⟨by rw [HG2.out]; exact Nat.le_refl _⟩
 have W3 : Aside0 (w.heap.size ≤ g3) := ⟨by rw [HG3.out]; exact below_size HL2.out⟩
 have W4 : Aside0 (w.heap.size ≤ g4) := ⟨by rw [HG4.out]; exact below_size (below_step HL2.out HL3.out)⟩
 have HR4 : Aside0 (Kd.C k64 w4 A0_2 l0_2.length l0_2) := ⟨Kd.C_below HR.out HL.out⟩
 clear HG2 HG3 HG4 HB2 HB3 HL2 HL3 HL4
 have c20 : w4.cell? ⟨g2, 0, none⟩ = some (.string a0_0) := (blk_cell HS2.out 0).trans rfl
 have c21 : w4.cell? ⟨g2, 1, none⟩ = some (.int .i64 a0_1) := (blk_cell HS2.out 1).trans rfl
 have c22 : w4.cell? ⟨g2, 2, none⟩ = some (.slice A0_2 l0_2.length c0_2) := (blk_cell HS2.out 2).trans rfl
 go_wp2_with fail
 refine (audit_May.calls k a0_0 a0_1 A0_2 c0_2 l0_2 m w4 HR4.out HC.out HM.out).mono ?_
 rintro e w5 ⟨rfl, hb5⟩
 have h0 := H.out
 have HS4 := Aside0.mk (blk_below HB4.out hb5)
 have HQ2 := Aside0.mk (blk_below HS2.out hb5)
 have HQ3 := Aside0.mk (blk_below HS3.out hb5)
 have HL5 := Aside0.mk (below_step HL.out hb5)
 have HR5 := Aside0.mk (Kd.C_below HR4.out hb5)
 have HA0 : Aside0 ((#[.string ⟨#[]⟩, .int .i64 0, .slice none 0 0] : Array Value).all (·.oneCell') = true) := ⟨by simp [Value.oneCell']⟩
 have HI56 : Aside0 ((Try.prog.info? 56).map (·.size) = some 3) := ⟨by kernel_rfl⟩
 clear H HM HB4 HS2 HS3 HL HR4 hb5 c20 c21 c22
 cases m with
 | false =>
  rw [if_neg (by decide)] at h0
  cases h0
  go_wp2_with (refine gate_ (.store 56 (.tmp 4) (.tmp 10)) rfl ?_; refine wpList_store_row rfl 56 (.tmp 4) (.tmp 10) rfl g4 #[.string ⟨#[]⟩, .int .i64 0, .slice none 0 0] rfl rfl 56 _ HS4.out HI56.out rfl HA0.out ?_)
  refine bodyPost_ret_by (results_ct rfl _ _ g4 56 #[.string ⟨#[]⟩, .int .i64 0, .slice none 0 0] (0, 0) _ rfl (setRow_heap _ _ _ _ _ _ HS4.out) hu56 rfl HI56.out) rfl ?_
  exact ⟨_, rfl, Kd.R_nil _ _ _ _ _, HL5.out.trans (below_setRow W4.out)⟩
 | true =>
  rw [if_pos rfl] at h0
  obtain ⟨g, hg, h0⟩ := Option.bind_eq_some_iff.mp h0
  have HG := Aside0.mk hg
  have H := Aside0.mk h0
  obtain ⟨nn, hnn⟩ : ∃ nn, wrap64 (a0_1 + 1) = nn := ⟨_, rfl⟩
  rw [hnn] at HG H
  clear hg h0
  have f30 : w5.frozen? ⟨g3, 0, none⟩ = false := blk_frozen HQ3.out 0
  have c21 : w5.cell? ⟨g2, 1, none⟩ = some (.int .i64 a0_1) := (blk_cell HQ2.out 1).trans rfl
  have c30 : w5.cell? ⟨g3, 0, none⟩ = some (.int .i64 a1_0) := (blk_cell HQ3.out 0).trans rfl
  go_upto_region 4 with (fail)
  have HR6 : Aside0 (Kd.C k64 (w5.setCell ⟨g3, 0, none⟩ (.int .i64 nn)) A0_2 l0_2.length l0_2) := ⟨by
   have := Kd.C_below (w := w) (w1 := w5.setCell ⟨g3, 0, none⟩ (.int .i64 nn)) HR.out (below_set HL5.out W3.out)
   exact this⟩
  have HP3 : Aside0 ((w5.setCell ⟨g3, 0, none⟩ (.int .i64 nn)).heap[g3]? = some (.cells #[.int .i64 nn, .int .i64 a1_1, .int .i64 a1_2, .string a1_3, .int .i64 a1_4] 64 (0, 0))) := ⟨blk_set HQ3.out 0 _⟩
  have HP2 := Aside0.mk (blk_far HQ2.out (p := ⟨g3, 0, none⟩) N23.out (.int .i64 nn))
  have HP4 := Aside0.mk (blk_far HS4.out (p := ⟨g3, 0, none⟩) (Ne.symm N34.out) (.int .i64 nn))
  have HL6 := Aside0.mk (below_set (j := 0) (v := .int .i64 nn) HL5.out W3.out)
  generalize w5.setCell ⟨g3, 0, none⟩ (.int .i64 nn) = w6 at HR6 HP3 HP2 HP4 HL6 ⊢
  clear HS4 HQ2 HQ3 HL5 HR5 f30 c21 c30 HR
  have e30 : w6.cell? ⟨g3, 0, none⟩ = some (.int .i64 nn) := (blk_cell HP3.out 0).trans rfl
  have e31 : w6.cell? ⟨g3, 1, none⟩ = some (.int .i64 a1_1) := (blk_cell HP3.out 1).trans rfl
  have e32 : w6.cell? ⟨g3, 2, none⟩ = some (.int .i64 a1_2) := (blk_cell HP3.out 2).trans rfl
  have e33 : w6.cell? ⟨g3, 3, none⟩ = some (.string a1_3) := (blk_cell HP3.out 3).trans rfl
  have e34 : w6.cell? ⟨g3, 4, none⟩ = some (.int .i64 a1_4) := (blk_cell HP3.out 4).trans rfl
  go_wp2_with fail
  refine (audit_good.calls nn a1_1 a1_2 a1_3 a1_4 g w6 HG.out).mono ?_
  rintro e w7 ⟨rfl, hd7⟩
  clear e30 e31 e32 e33 e34
  have HL7 := Aside0.mk (below_step HL6.out hd7)
  have HT2 := Aside0.mk (blk_below HP2.out hd7)
  have HT3 := Aside0.mk (blk_below HP3.out hd7)
  have HT4 := Aside0.mk (blk_below HP4.out hd7)
  have HR7 := Aside0.mk (Kd.C_below HR6.out hd7)
  have h0 := H.out
  clear HL6 HP2 HP3 HP4 HR6 hd7 H
  cases g with
  | false =>
   rw [if_neg (by decide)] at h0
   cases h0
   go_wp2_with (refine gate_ (.store 56 (.tmp 4) (.tmp 18)) rfl ?_; refine wpList_store_row rfl 56 (.tmp 4) (.tmp 18) rfl g4 #[.string ⟨#[]⟩, .int .i64 0, .slice none 0 0] rfl rfl 56 _ HT4.out HI56.out rfl HA0.out ?_)
   refine bodyPost_ret_by (results_ct rfl _ _ g4 56 #[.string ⟨#[]⟩, .int .i64 0, .slice none 0 0] (0, 0) _ rfl (setRow_heap _ _ _ _ _ _ HT4.out) hu56 rfl HI56.out) rfl ?_
   exact ⟨_, rfl, Kd.R_nil _ _ _ _ _, HL7.out.trans (below_setRow W4.out)⟩
  | true =>
   rw [if_pos rfl] at h0
   unfold addOn at h0
   have c22 : w7.cell? ⟨g2, 2, none⟩ = some (.slice A0_2 l0_2.length c0_2) := (blk_cell HT2.out 2).trans rfl
   by_cases h8 : l0_2.length = 8
   ·rw [if_pos h8] at h0
    have d8 : ((l0_2.length : Int) == 8) = true := beq_iff_eq.mpr (by omega)
    obtain ⟨b, hb, h0⟩ := Option.bind_eq_some_iff.mp h0
    obtain ⟨s, hs, h0⟩ := Option.bind_eq_some_iff.mp h0
    cases h0
    have HBY := Aside0.mk hb
    have HSL := Aside0.mk hs
    have H8 := Aside0.mk h8
    have HAL : Aside0 ((([] : List S64).length + l0_2.length) * 48 ≤ 140737488355328) := ⟨by rw [h8]; decide⟩
    clear hb hs h8
    go_upto_region 8 with (first | ((with_reducible refine gate_dst (N := 19) rfl ?_); refine Kd.R_lit k64 _ 64 ?hg (N := 19) ?hd (xs := ([] : List S64)) (inner := []) (ok := fun _ => True) (okp := fun _ => True) ?hr ?hp (fun _ hk => hk) trivial (Below.refl _ _) (Nat.le_refl _) (by simp) ?_; (case hd => rfl); (case hg => rfl); (case hr => first | (go_simp; done) | (go_simp; rfl)); (case hp => exact (Reps.none _ _)); intro v8 w8 hr8 hb8 hg8 hx8; clear hg8 hx8; have HV8 := Aside0.mk hr8; have HL8 := Aside0.mk hb8; have HC8 := Aside0.mk (Kd.C_below HR7.out hb8); have c22b : w8.cell? ⟨g2, 2, none⟩ = some (.slice A0_2 l0_2.length c0_2) := pw_cell_below hb8 c22; clear hr8 hb8) | ((with_reducible refine gate_builtin (b := .append) (xs := #[.tmp 19, .tmp 21]) rfl ?_); at_builtin; refine Kd.R_append_rows k64 (w0 := w7) w7.heap.size rfl (.tmp 19) (.tmp 21) 52 64 _ 48 rfl Try.underlying52 info64 rfl (by decide) (by omega) v8 [] l0_2 _ _ _ (fun _ => True) (fun _ => False) rfl rfl HV8.out HC8.out (fun _ _ h => h) (fun _ h => h.elim) (fun _ _ => trivial) HL8.out (below_size HL8.out) HAL.out ?_; intro v9 w9 hr9 hb9 hg9 hat9; clear hg9 hat9; rw [List.nil_append] at hr9; obtain ⟨gL, c9, rfl, hgL, _⟩ := Kd.R_form hr9 (by rw [H8.out]; decide); have HV9 := Aside0.mk hr9; have HL9 := Aside0.mk hb9; have HGL := Aside0.mk hgL; clear hr9 hb9 HV8 HL8 HC8 c22b hgL))
    have hT2 := blk_below HT2.out HL9.out
    have hT3 := blk_below HT3.out HL9.out
    have hT4 := blk_below HT4.out HL9.out
    have HG2L : Aside0 (g2 < w7.heap.size ∧ g3 < w7.heap.size ∧ g4 < w7.heap.size) := ⟨blk_lt HT2.out, blk_lt HT3.out, blk_lt HT4.out⟩
    clear HT2 HT3 HT4 c22 HR7
    have HT2 := Aside0.mk hT2
    have HT3 := Aside0.mk hT3
    have HT4 := Aside0.mk hT4
    clear hT2 hT3 hT4
    have c20 : w9.cell? ⟨g2, 0, none⟩ = some (.string a0_0) := (blk_cell HT2.out 0).trans rfl
    obtain ⟨ad, e', d0, d1, d2, d3, d4⟩ := at_T64 (Kd.R_reads' HV9.out).2.2 0 (by omega) (by rw [H8.out]; decide)
    cases e'
    simp only [Int.toNat_zero, Nat.zero_mul, add_plain, Nat.zero_add] at d0 d1 d2 d3 d4
    obtain ⟨E0, hE0⟩ : ∃ E, rd_T64 l0_2 0 = E := ⟨_, rfl⟩
    rw [hE0] at HBY d0 d1 d2 d3 d4
    clear hE0
    obtain ⟨x0, x1, x2, x3, x4⟩ := E0
    simp only at HBY d0 d1 d2 d3 d4
    have p1 := eq_true (show (0 : Int) < (l0_2.length : Int) by rw [H8.out]; decide)
    have p2 := eq_true (show 0 < l0_2.length by rw [H8.out]; decide)
    refine start_ (n := 9) (S := fun w' => w'.cell? ⟨g2, 0, none⟩ = some (.string a0_0) ∧ w'.cell? ⟨gL, 0, none⟩ = some (.int .i64 x0) ∧ w'.cell? ⟨gL, 1, none⟩ = some (.int .i64 x1) ∧ w'.cell? ⟨gL, 2, none⟩ = some (.int .i64 x2) ∧ w'.cell? ⟨gL, 3, none⟩ = some (.string x3) ∧ w'.cell? ⟨gL, 4, none⟩ = some (.int .i64 x4)) (ds := [8]) #[false, false, false, false, false, false, false, false, false] (by kernel_rfl) rfl rfl ⟨c20, d0, d1, d2, d3, d4⟩ (fun hHeld => ?_)
    refine pure_ (i := 0) (N := some 26) (v := ?_) (a' := ?_) #[true, false, false, false, false, false, false, false, false] rfl rfl (by kernel_rfl) (fun _ _ _ h => h) (Or.inl ⟨by rfl, ?_⟩) ?_ ?_
    rotate_left
    ·intro w'
     go_simp
     with_reducible rfl
    rotate_left
    ·simp only [Act.put, List.setIfInBounds_toArray, List.set_cons_zero, List.set_cons_succ, i64_w, i32_w]
     rfl
    refine pure_ (i := 2) (N := some 28) (v := ?_) (a' := ?_) #[true, false, true, false, false, false, false, false, false] rfl rfl (by kernel_rfl) (fun _ _ _ h => h) (Or.inl ⟨by rfl, ?_⟩) ?_ ?_
    rotate_left
    ·intro w'
     go_simp
     with_reducible rfl
    rotate_left
    ·simp only [Act.put, List.setIfInBounds_toArray, List.set_cons_zero, List.set_cons_succ, i64_w, i32_w]
     rfl
    refine pure_ (i := 3) (N := some 29) (v := ?_) (a' := ?_) #[true, false, true, true, false, false, false, false, false] rfl rfl (by kernel_rfl) (fun _ _ _ h => h) (Or.inl ⟨by rfl, ?_⟩) ?_ ?_
    rotate_left
    ·intro w'
     go_simp
     with_reducible rfl
    rotate_left
    ·simp only [Act.put, List.setIfInBounds_toArray, List.set_cons_zero, List.set_cons_succ, i64_w, i32_w]
     rfl
    refine take_ (i := 1) (N := some 27) (v := ?_) (a' := ?_) #[true, true, true, true, false, false, false, false, false] rfl rfl (by kernel_rfl) (fun _ _ _ h => h) (Or.inl ⟨by rfl, ?_⟩) hHeld ?_ ?_
    rotate_left
    ·rintro w' ⟨s0, s1, s2, s3, s4, s5⟩
     go_simp
     with_reducible rfl
    rotate_left
    ·simp only [Act.put, List.setIfInBounds_toArray, List.set_cons_zero, List.set_cons_succ, i64_w, i32_w]
     rfl
    refine take_ (i := 4) (N := some 30) (v := ?_) (a' := ?_) #[true, true, true, true, true, false, false, false, false] rfl rfl (by kernel_rfl) (fun _ _ _ h => h) (Or.inl ⟨by rfl, ?_⟩) hHeld ?_ ?_
    rotate_left
    ·rintro w' ⟨s0, s1, s2, s3, s4, s5⟩
     go_simp
     with_reducible rfl
    rotate_left
    ·simp only [Act.put, List.setIfInBounds_toArray, List.set_cons_zero, List.set_cons_succ, i64_w, i32_w]
     rfl
    refine one_ (i := 5) (N := some 31) #[true, true, true, true, true, true, false, false, false] rfl rfl (by kernel_rfl) (by decide) (fun K hK => ?_)
    refine goes_ Try.func77 (by kernel_rfl) rfl #[.agg #[.int .i64 x0, .int .i64 x1, .int .i64 x2, .string x3, .int .i64 x4]] (by rfl) rfl rfl (by simp only [List.map_toArray, List.map_cons, List.map_nil]; rfl) ?_
    with_reducible refine (audit_bytes.calls k x0 x1 x2 x3 x4 b _ HBY.out).mono ?_
    rintro e w10 ⟨rfl, hb10⟩
    refine ⟨_, rfl, ?_⟩
    have c20a : w10.cell? ⟨g2, 0, none⟩ = some (.string a0_0) := pw_cell_below hb10 c20
    have d0a : w10.cell? ⟨gL, 0, none⟩ = some (.int .i64 x0) := pw_cell_below hb10 d0
    have d1a : w10.cell? ⟨gL, 1, none⟩ = some (.int .i64 x1) := pw_cell_below hb10 d1
    have d2a : w10.cell? ⟨gL, 2, none⟩ = some (.int .i64 x2) := pw_cell_below hb10 d2
    have d3a : w10.cell? ⟨gL, 3, none⟩ = some (.string x3) := pw_cell_below hb10 d3
    have d4a : w10.cell? ⟨gL, 4, none⟩ = some (.int .i64 x4) := pw_cell_below hb10 d4
    have HL10 := Aside0.mk hb10
    clear hb10
    refine hK.out _ _ ⟨c20a, d0a, d1a, d2a, d3a, d4a⟩ (fun hHeld => ?_)
    clear hK K
    refine norm_ (a' := ?_) ?_ ?_
    rotate_left
    ·show Act.put _ (some 31) _ = _
     simp only [Act.put, List.setIfInBounds_toArray, List.set_cons_zero, List.set_cons_succ, i64_w, i32_w]
     rfl
    refine one_ (i := 6) (N := some 32) #[true, true, true, true, true, true, true, false, false] rfl rfl (by kernel_rfl) (by decide) (fun K hK => ?_)
    refine goes_ Try.func47 (by kernel_rfl) rfl #[.string a0_0, .string b] (by rfl) rfl rfl (by simp only [List.map_toArray, List.map_cons, List.map_nil]; rfl) ?_
    with_reducible refine (mac_Seal.calls a0_0 b r1 _ HSL.out).mono ?_
    rintro e w11 ⟨rfl, hb11⟩
    refine ⟨_, rfl, ?_⟩
    have c20b : w11.cell? ⟨g2, 0, none⟩ = some (.string a0_0) := pw_cell_below hb11 c20a
    have d0b : w11.cell? ⟨gL, 0, none⟩ = some (.int .i64 x0) := pw_cell_below hb11 d0a
    have d1b : w11.cell? ⟨gL, 1, none⟩ = some (.int .i64 x1) := pw_cell_below hb11 d1a
    have d2b : w11.cell? ⟨gL, 2, none⟩ = some (.int .i64 x2) := pw_cell_below hb11 d2a
    have d3b : w11.cell? ⟨gL, 3, none⟩ = some (.string x3) := pw_cell_below hb11 d3a
    have d4b : w11.cell? ⟨gL, 4, none⟩ = some (.int .i64 x4) := pw_cell_below hb11 d4a
    have HL11 : Aside0 (Below w9.drew.heap.size w9.drew w11) := ⟨below_step HL10.out hb11⟩
    have HT11 := Aside0.mk (blk_below (blk_drew HT2.out) HL11.out)
    have f20 : w11.frozen? ⟨g2, 0, none⟩ = false := blk_frozen HT11.out 0
    clear hb11
    refine hK.out _ _ ⟨c20b, d0b, d1b, d2b, d3b, d4b⟩ (fun hHeld => ?_)
    clear hK K
    refine norm_ (a' := ?_) ?_ ?_
    rotate_left
    ·show Act.put _ (some 32) _ = _
     simp only [Act.put, List.setIfInBounds_toArray, List.set_cons_zero, List.set_cons_succ, i64_w, i32_w]
     rfl
    refine pure_ (i := 7) (N := some 33) (v := ?_) (a' := ?_) #[true, true, true, true, true, true, true, true, false] rfl rfl (by kernel_rfl) (fun _ _ _ h => h) (Or.inl ⟨by rfl, ?_⟩) ?_ ?_
    rotate_left
    ·intro w'
     go_simp
     with_reducible rfl
    rotate_left
    ·simp only [Act.put, List.setIfInBounds_toArray, List.set_cons_zero, List.set_cons_succ, i64_w, i32_w]
     rfl
    refine last_ (i := 8) (N := none) #[true, true, true, true, true, true, true, true, true] rfl rfl (by kernel_rfl) (by decide) (fun K hK => ?_)
    refine skip_ (w1 := ?_) (by rfl) rfl ?_ ?_
    rotate_left
    ·go_simp
     rfl
    refine hK.out _ _ ?_
    clear hK K
    refine done_ (by kernel_rfl) ?_
    have HP2 := Aside0.mk (blk_set HT11.out 0 (.string r1))
    have HP3 := Aside0.mk (blk_far (blk_below (blk_drew HT3.out) HL11.out) (p := ⟨g2, 0, none⟩) (Ne.symm N23.out) (.string r1))
    have HP4 := Aside0.mk (blk_far (blk_below (blk_drew HT4.out) HL11.out) (p := ⟨g2, 0, none⟩) (Ne.symm N24.out) (.string r1))
    have HLW : Aside0 (Below w.heap.size w (w11.setCell ⟨g2, 0, none⟩ (.string r1))) := ⟨below_set (below_step (below_drew (below_step HL7.out HL9.out)) HL11.out) W2.out⟩
    have hVC := (Kd.R_reads' HV9.out).2.2
    have HVC : Aside0 (Kd.C k64 (w11.setCell ⟨g2, 0, none⟩ (.string r1)) (some ⟨gL, 0, none⟩) l0_2.length l0_2) := ⟨C_frame64 (Kd.C_below (Kd.C_drew hVC) HL11.out) ((Fr.refl _ (fun k => k = g2)).setCell (.inl rfl) _) (fun ad e _ h => by cases e; have := HGL.out; have := HG2L.out; exact absurd h (by show ¬ gL = g2; omega))⟩
    have hcap := (Kd.R_reads' HV9.out).2.1
    have HCAP := Aside0.mk hcap
    clear c20 d0 d1 d2 d3 d4 hVC hcap HT2 HT3 HT4 HL11 HT11 f20 hHeld c20b d0b d1b d2b d3b d4b
    generalize w11.setCell ⟨g2, 0, none⟩ (.string r1) = w12 at HP2 HP3 HP4 HLW HVC ⊢
    obtain ⟨i64, hi64, hs64⟩ : ∃ i, Try.prog.info? 64 = some i ∧ i.size = 5 := by
     obtain ⟨i, h1, h2⟩ := Option.map_eq_some_iff.1 info64
     exact ⟨i, h1, by simp only [Prod.mk.injEq] at h2; exact h2.2.1⟩
    have hcut : ∀ W : World, (Instr.slice 52 (.slice (some ⟨gL, 0, none⟩) l0_2.length c9) (some (.int .i64 1)) (some (.int .i64 (l0_2.length : Int))) (some (.int .i64 (l0_2.length : Int)))).run Try.prog W = .ok (.slice (some ⟨gL, 5, none⟩) 7 7) W := by
     intro W
     have hel : Try.prog.elem 52 = 64 := by simp [Program.elem, hu52]
     have hu : Try.prog.underlying 52 = some (.slice (Try.prog.elem 52)) := by rw [hel]; exact hu52
     rw [run_slice_lhm W 52 _ _ _ hu .i64 .i64 .i64 1 _ _ (by decide) (by rw [H8.out]; decide) (Int.le_refl _) (by have := HCAP.out; omega), hel]
     rw [H8.out]
     simp [sizeOf, typeInfo, hi64, hs64, sliced, Result.andThen, add_plain]
    have c20 : w12.cell? ⟨g2, 0, none⟩ = some (.string r1) := (blk_cell HP2.out 0).trans rfl
    have e30 : w12.cell? ⟨g3, 0, none⟩ = some (.int .i64 r2) := (blk_cell HP3.out 0).trans rfl
    have e31 : w12.cell? ⟨g3, 1, none⟩ = some (.int .i64 a1_1) := (blk_cell HP3.out 1).trans rfl
    have e32 : w12.cell? ⟨g3, 2, none⟩ = some (.int .i64 a1_2) := (blk_cell HP3.out 2).trans rfl
    have e33 : w12.cell? ⟨g3, 3, none⟩ = some (.string a1_3) := (blk_cell HP3.out 3).trans rfl
    have e34 : w12.cell? ⟨g3, 4, none⟩ = some (.int .i64 a1_4) := (blk_cell HP3.out 4).trans rfl
    have HV7 : Aside0 (Kd.C k64 w12 (some ⟨gL, 5, none⟩) 7 (l0_2.drop 1)) := ⟨by
     have := Kd.C_drop (m := 1) HVC.out (by rw [H8.out]; decide) HCAP.out
     rw [if_neg (by have := HCAP.out; have := H8.out; omega)] at this
     have e : (l0_2.drop 1).length = 7 := by rw [List.length_drop, H8.out]
     rw [e] at this
     simpa [add_plain, show k64.sz = 5 from rfl] using this⟩
    clear p1 p2
    go_upto_region 10 with (fail)
    refine start_ (n := 11) (S := fun w' => w'.cell? ⟨g2, 0, none⟩ = some (.string r1) ∧ w'.cell? ⟨g3, 0, none⟩ = some (.int .i64 r2) ∧ w'.cell? ⟨g3, 1, none⟩ = some (.int .i64 a1_1) ∧ w'.cell? ⟨g3, 2, none⟩ = some (.int .i64 a1_2) ∧ w'.cell? ⟨g3, 3, none⟩ = some (.string a1_3) ∧ w'.cell? ⟨g3, 4, none⟩ = some (.int .i64 a1_4)) (ds := [9]) #[false, false, false, false, false, false, false, false, false, false, false] (by kernel_rfl) rfl rfl ⟨c20, e30, e31, e32, e33, e34⟩ (fun hHeld => ?_)
    refine pure_ (i := 0) (N := some 40) (v := ?_) (a' := ?_) #[true, false, false, false, false, false, false, false, false, false, false] rfl rfl (by kernel_rfl) (fun _ _ _ h => h) (Or.inl ⟨by rfl, ?_⟩) ?_ ?_
    rotate_left
    ·intro w'
     go_simp
     with_reducible rfl
    rotate_left
    ·simp only [Act.put, List.setIfInBounds_toArray, List.set_cons_zero, List.set_cons_succ, i64_w, i32_w]
     rfl
    refine pure_ (i := 2) (N := some 42) (v := ?_) (a' := ?_) #[true, false, true, false, false, false, false, false, false, false, false] rfl rfl (by kernel_rfl) (fun _ _ _ h => h) (Or.inl ⟨by rfl, ?_⟩) ?_ ?_
    rotate_left
    ·intro w'
     go_simp
     with_reducible rfl
    rotate_left
    ·simp only [Act.put, List.setIfInBounds_toArray, List.set_cons_zero, List.set_cons_succ, i64_w, i32_w]
     rfl
    refine pure_ (i := 4) (N := some 44) (v := ?_) (a' := ?_) #[true, false, true, false, true, false, false, false, false, false, false] rfl rfl (by kernel_rfl) (fun _ _ _ h => h) (Or.inl ⟨by rfl, ?_⟩) ?_ ?_
    rotate_left
    ·intro w'
     go_simp
     with_reducible rfl
    rotate_left
    ·simp only [Act.put, List.setIfInBounds_toArray, List.set_cons_zero, List.set_cons_succ, i64_w, i32_w]
     rfl
    refine take_ (i := 1) (N := some 41) (v := ?_) (a' := ?_) #[true, true, true, false, true, false, false, false, false, false, false] rfl rfl (by kernel_rfl) (fun _ _ _ h => h) (Or.inl ⟨by rfl, ?_⟩) hHeld ?_ ?_
    rotate_left
    ·rintro w' ⟨s0, s1, s2, s3, s4, s5⟩
     go_simp
     with_reducible rfl
    rotate_left
    ·simp only [Act.put, List.setIfInBounds_toArray, List.set_cons_zero, List.set_cons_succ, i64_w, i32_w]
     rfl
    refine take_ (i := 3) (N := some 43) (v := ?_) (a' := ?_) #[true, true, true, true, true, false, false, false, false, false, false] rfl rfl (by kernel_rfl) (fun _ _ _ h => h) (Or.inl ⟨by rfl, ?_⟩) hHeld ?_ ?_
    rotate_left
    ·rintro w' ⟨s0, s1, s2, s3, s4, s5⟩
     go_simp
     with_reducible rfl
    rotate_left
    ·simp only [Act.put, List.setIfInBounds_toArray, List.set_cons_zero, List.set_cons_succ, i64_w, i32_w]
     rfl
    refine take_ (i := 5) (N := some 45) (v := ?_) (a' := ?_) #[true, true, true, true, true, true, false, false, false, false, false] rfl rfl (by kernel_rfl) (fun _ _ _ h => h) (Or.inl ⟨by rfl, ?_⟩) hHeld ?_ ?_
    rotate_left
    ·rintro w' ⟨s0, s1, s2, s3, s4, s5⟩
     go_simp
     with_reducible rfl
    rotate_left
    ·simp only [Act.put, List.setIfInBounds_toArray, List.set_cons_zero, List.set_cons_succ, i64_w, i32_w]
     rfl
    refine one_ (i := 6) (N := some 46) #[true, true, true, true, true, true, true, false, false, false, false] rfl rfl (by kernel_rfl) (by decide) (fun K hK => ?_)
    refine Kd.R_lit_step k64 (w0 := w12.drew) w12.drew.heap.size 64 (by rfl) (N := 46) rfl (xs := [(⟨r2, a1_1, a1_2, a1_3, a1_4⟩ : S64)]) (inner := [.int .i64 r2, .int .i64 a1_1, .int .i64 a1_2, .string a1_3, .int .i64 a1_4]) (ok := fun _ => True) (okp := fun _ => True) ?hr ?hp (fun _ hk => hk) trivial (Below.refl _ _) (Nat.le_refl _) (by simp) ?_
    case hr => first | (go_simp; done) | (go_simp; rfl)
    case hp => exact Reps.snoc (Reps.none _ _) (k64_mkM _ _ _ (⟨r2, a1_1, a1_2, a1_3, a1_4⟩ : S64)) rfl
    intro v13 w13 hr13 hb13 hg13 hx13
    clear hg13 hx13
    have c20x : w13.cell? ⟨g2, 0, none⟩ = some (.string r1) := pw_cell_below hb13 c20
    have e30x : w13.cell? ⟨g3, 0, none⟩ = some (.int .i64 r2) := pw_cell_below hb13 e30
    have e31x : w13.cell? ⟨g3, 1, none⟩ = some (.int .i64 a1_1) := pw_cell_below hb13 e31
    have e32x : w13.cell? ⟨g3, 2, none⟩ = some (.int .i64 a1_2) := pw_cell_below hb13 e32
    have e33x : w13.cell? ⟨g3, 3, none⟩ = some (.string a1_3) := pw_cell_below hb13 e33
    have e34x : w13.cell? ⟨g3, 4, none⟩ = some (.int .i64 a1_4) := pw_cell_below hb13 e34
    obtain ⟨gE, cE, rfl, hgE, _⟩ := Kd.R_form hr13 (by simp)
    have HE13 : Aside0 (Kd.C k64 w13 (some ⟨gE, 0, none⟩) 1 [(⟨r2, a1_1, a1_2, a1_3, a1_4⟩ : S64)]) := ⟨(Kd.R_reads' hr13).2.2⟩
    have HL13 := Aside0.mk hb13
    have HGE := Aside0.mk hgE
    clear hr13 hb13 hgE
    refine hK.out _ _ ⟨c20x, e30x, e31x, e32x, e33x, e34x⟩ (fun hHeld => ?_)
    clear hK K
    refine norm_ (a' := ?_) ?_ ?_
    rotate_left
    ·show Act.put _ (some 46) _ = _
     simp only [Act.put, List.setIfInBounds_toArray, List.set_cons_zero, List.set_cons_succ, i64_w, i32_w]
     rfl
    refine one_ (i := 7) (N := some 47) #[true, true, true, true, true, true, true, true, false, false, false] rfl rfl (by kernel_rfl) (by decide) (fun K hK => ?_)
    refine R_append_full_step k64 (by rfl) (.tmp 44) (.tmp 46) 52 64 _ 48 (by rfl) Try.underlying52 info64 (by rfl) (by decide) (by decide) ⟨gL, 5, none⟩ ⟨gE, 0, none⟩ 7 1 cE (l0_2.drop 1) [(⟨r2, a1_1, a1_2, a1_3, a1_4⟩ : S64)] (by rfl) (by rfl) (Kd.C_below (Kd.C_drew HV7.out) HL13.out) HE13.out (by decide) (fun _ _ _ _ _ h => h) (by decide) ?_
    intro v14 w14 hr14 hb14
    have c20y : w14.cell? ⟨g2, 0, none⟩ = some (.string r1) := pw_cell_below hb14 c20x
    have e30y : w14.cell? ⟨g3, 0, none⟩ = some (.int .i64 r2) := pw_cell_below hb14 e30x
    have e31y : w14.cell? ⟨g3, 1, none⟩ = some (.int .i64 a1_1) := pw_cell_below hb14 e31x
    have e32y : w14.cell? ⟨g3, 2, none⟩ = some (.int .i64 a1_2) := pw_cell_below hb14 e32x
    have e33y : w14.cell? ⟨g3, 3, none⟩ = some (.string a1_3) := pw_cell_below hb14 e33x
    have e34y : w14.cell? ⟨g3, 4, none⟩ = some (.int .i64 a1_4) := pw_cell_below hb14 e34x
    have HL14 : Aside0 (Below w12.drew.heap.size w12.drew w14) := ⟨below_step HL13.out hb14⟩
    have HT14 := Aside0.mk (blk_below (blk_drew HP4.out) HL14.out)
    have c40 : w14.cell? ⟨g4, 0, none⟩ = some (.string ⟨#[]⟩) := (blk_cell HT14.out 0).trans rfl
    have c41 : w14.cell? ⟨g4, 1, none⟩ = some (.int .i64 0) := (blk_cell HT14.out 1).trans rfl
    have c42 : w14.cell? ⟨g4, 2, none⟩ = some (.slice none 0 0) := (blk_cell HT14.out 2).trans rfl
    have f40 : w14.frozen? ⟨g4, 0, none⟩ = false := blk_frozen HT14.out 0
    have f41 : w14.frozen? ⟨g4, 1, none⟩ = false := blk_frozen HT14.out 1
    have f42 : w14.frozen? ⟨g4, 2, none⟩ = false := blk_frozen HT14.out 2
    obtain ⟨A14, n14, c14, rfl⟩ := R_shape hr14
    have HV14 := Aside0.mk hr14
    clear hr14 hb14
    refine hK.out _ _ ⟨c20y, e30y, e31y, e32y, e33y, e34y⟩ (fun hHeld => ?_)
    clear hK K
    refine norm_ (a' := ?_) ?_ ?_
    rotate_left
    ·show Act.put _ (some 47) _ = _
     simp only [Act.put, List.setIfInBounds_toArray, List.set_cons_zero, List.set_cons_succ, i64_w, i32_w]
     rfl
    refine pure_ (i := 8) (N := some 48) (v := ?_) (a' := ?_) #[true, true, true, true, true, true, true, true, true, false, false] rfl rfl (by kernel_rfl) (fun _ _ _ h => h) (Or.inl ⟨by rfl, ?_⟩) ?_ ?_
    rotate_left
    ·intro w'
     go_simp
     with_reducible rfl
    rotate_left
    ·simp only [Act.put, List.setIfInBounds_toArray, List.set_cons_zero, List.set_cons_succ, i64_w, i32_w]
     rfl
    refine last_ (i := 9) (N := none) #[true, true, true, true, true, true, true, true, true, true, false] rfl rfl (by kernel_rfl) (by decide) (fun K hK => ?_)
    refine skip_ (w1 := ?_) (by rfl) rfl ?_ ?_
    rotate_left
    ·go_simp
     rfl
    refine hK.out _ _ ?_
    clear hK K
    refine pure_ (i := 10) (N := some 5) (v := ?_) (a' := ?_) #[true, true, true, true, true, true, true, true, true, true, true] rfl rfl (by kernel_rfl) (fun _ _ _ h => h) (Or.inl ⟨by rfl, ?_⟩) ?_ ?_
    rotate_left
    ·intro w'
     go_simp
     with_reducible rfl
    rotate_left
    ·simp only [Act.put, List.setIfInBounds_toArray, List.set_cons_zero, List.set_cons_succ, i64_w, i32_w]
     rfl
    refine done_ (by kernel_rfl) ?_
    have hs12 : w12.drew.heap.size ≤ w13.heap.size := below_size HL13.out
    have hs13 : w.heap.size ≤ w13.heap.size := Nat.le_trans (below_size HLW.out) hs12
    have q1 := blk_set HT14.out 0 (.string r1)
    have q2 := blk_set q1 1 (.int .i64 r2)
    have q3 := blk_set q2 2 (.slice A14 n14 c14)
    have hv1 := Kd.R_set HV14.out HT14.out (by decide) 0 (.string r1)
    have hv2 := Kd.R_set hv1 q1 (by decide) 1 (.int .i64 r2)
    have hv3 := Kd.R_set hv2 q2 (by decide) 2 (.slice A14 n14 c14)
    have hl14 := below_step (below_drew HLW.out) HL14.out
    have hl := below_set (j := 2) (v := .slice A14 n14 c14) (below_set (j := 1) (v := .int .i64 r2) (below_set (j := 0) (v := .string r1) hl14 W4.out) W4.out) W4.out
    have Q3 := Aside0.mk q3
    have HV := Aside0.mk (Kd.R_lower hv3 hs13)
    have HLL := Aside0.mk hl
    clear q1 q2 q3 hv1 hv2 hv3 hl14 hl hHeld
    go_wp2
    refine bodyPost_ret_by (results_ct rfl _ _ g4 56 #[.string r1, .int .i64 r2, .slice A14 n14 c14] (0, 0) _ rfl Q3.out hu56 rfl HI56.out) rfl ?_
    exact ⟨_, rfl, HV.out, HLL.out⟩
   ·rw [if_neg h8] at h0
    have d8 : ((l0_2.length : Int) == 8) = false := beq_eq_false_iff_ne.mpr (by omega)
    by_cases h9 : l0_2.length < 1000000000
    ·rw [if_pos h9] at h0
     cases h0
     have HAL : Aside0 ((([] : List S64).length + l0_2.length) * 48 ≤ 140737488355328) := ⟨by simp; omega⟩
     have HAM : Aside0 ((l0_2.length + 1) * 48 ≤ 140737488355328) := ⟨by omega⟩
     clear h8 h9
     go_upto_region 10 with (first | ((with_reducible refine gate_dst (N := 19) rfl ?_); refine Kd.R_lit k64 _ 64 ?hg (N := 19) ?hd (xs := ([] : List S64)) (inner := []) (ok := fun _ => True) (okp := fun _ => True) ?hr ?hp (fun _ hk => hk) trivial (Below.refl _ _) (Nat.le_refl _) (by simp) ?_; (case hd => rfl); (case hg => rfl); (case hr => first | (go_simp; done) | (go_simp; rfl)); (case hp => exact (Reps.none _ _)); intro v8 w8 hr8 hb8 hg8 hx8; clear hg8 hx8; have HV8 := Aside0.mk hr8; have HL8 := Aside0.mk hb8; have HC8 := Aside0.mk (Kd.C_below HR7.out hb8); have c22b : w8.cell? ⟨g2, 2, none⟩ = some (.slice A0_2 l0_2.length c0_2) := pw_cell_below hb8 c22; clear hr8 hb8) | ((with_reducible refine gate_builtin (b := .append) (xs := #[.tmp 19, .tmp 21]) rfl ?_); at_builtin; refine Kd.R_append_rows k64 (w0 := w7) w7.heap.size rfl (.tmp 19) (.tmp 21) 52 64 _ 48 rfl Try.underlying52 info64 rfl (by decide) (by omega) v8 [] l0_2 _ _ _ (fun _ => True) (fun _ => False) rfl rfl HV8.out HC8.out (fun _ _ h => h) (fun _ h => h.elim) (fun _ _ => trivial) HL8.out (below_size HL8.out) HAL.out ?_; intro v9 w9 hr9 hb9 hg9 hat9; clear hg9 hat9; rw [List.nil_append] at hr9; obtain ⟨A9, n9, c9, rfl⟩ := R_shape hr9; obtain rfl : l0_2.length = n9 := (Kd.R_reads' hr9).1.symm; have HV9 := Aside0.mk hr9; have HL9 := Aside0.mk hb9; clear hr9 hb9 HV8 HL8 HC8 c22b))
     have c20 : w9.cell? ⟨g2, 0, none⟩ = some (.string a0_0) := (blk_cell (blk_below HT2.out HL9.out) 0).trans rfl
     have e30 : w9.cell? ⟨g3, 0, none⟩ = some (.int .i64 r2) := (blk_cell (blk_below HT3.out HL9.out) 0).trans rfl
     have e31 : w9.cell? ⟨g3, 1, none⟩ = some (.int .i64 a1_1) := (blk_cell (blk_below HT3.out HL9.out) 1).trans rfl
     have e32 : w9.cell? ⟨g3, 2, none⟩ = some (.int .i64 a1_2) := (blk_cell (blk_below HT3.out HL9.out) 2).trans rfl
     have e33 : w9.cell? ⟨g3, 3, none⟩ = some (.string a1_3) := (blk_cell (blk_below HT3.out HL9.out) 3).trans rfl
     have e34 : w9.cell? ⟨g3, 4, none⟩ = some (.int .i64 a1_4) := (blk_cell (blk_below HT3.out HL9.out) 4).trans rfl
     clear HR7 c22
     refine start_ (n := 11) (S := fun w' => w'.cell? ⟨g2, 0, none⟩ = some (.string a0_0) ∧ w'.cell? ⟨g3, 0, none⟩ = some (.int .i64 r2) ∧ w'.cell? ⟨g3, 1, none⟩ = some (.int .i64 a1_1) ∧ w'.cell? ⟨g3, 2, none⟩ = some (.int .i64 a1_2) ∧ w'.cell? ⟨g3, 3, none⟩ = some (.string a1_3) ∧ w'.cell? ⟨g3, 4, none⟩ = some (.int .i64 a1_4)) (ds := [9]) #[false, false, false, false, false, false, false, false, false, false, false] (by kernel_rfl) rfl rfl ⟨c20, e30, e31, e32, e33, e34⟩ (fun hHeld => ?_)
     refine pure_ (i := 0) (N := some 40) (v := ?_) (a' := ?_) #[true, false, false, false, false, false, false, false, false, false, false] rfl rfl (by kernel_rfl) (fun _ _ _ h => h) (Or.inl ⟨by rfl, ?_⟩) ?_ ?_
     rotate_left
     ·intro w'
      go_simp
      with_reducible rfl
     rotate_left
     ·simp only [Act.put, List.setIfInBounds_toArray, List.set_cons_zero, List.set_cons_succ, i64_w, i32_w]
      rfl
     refine pure_ (i := 2) (N := some 42) (v := ?_) (a' := ?_) #[true, false, true, false, false, false, false, false, false, false, false] rfl rfl (by kernel_rfl) (fun _ _ _ h => h) (Or.inl ⟨by rfl, ?_⟩) ?_ ?_
     rotate_left
     ·intro w'
      go_simp
      with_reducible rfl
     rotate_left
     ·simp only [Act.put, List.setIfInBounds_toArray, List.set_cons_zero, List.set_cons_succ, i64_w, i32_w]
      rfl
     refine pure_ (i := 4) (N := some 44) (v := ?_) (a' := ?_) #[true, false, true, false, true, false, false, false, false, false, false] rfl rfl (by kernel_rfl) (fun _ _ _ h => h) (Or.inl ⟨by rfl, ?_⟩) ?_ ?_
     rotate_left
     ·intro w'
      go_simp
      with_reducible rfl
     rotate_left
     ·simp only [Act.put, List.setIfInBounds_toArray, List.set_cons_zero, List.set_cons_succ, i64_w, i32_w]
      rfl
     refine take_ (i := 1) (N := some 41) (v := ?_) (a' := ?_) #[true, true, true, false, true, false, false, false, false, false, false] rfl rfl (by kernel_rfl) (fun _ _ _ h => h) (Or.inl ⟨by rfl, ?_⟩) hHeld ?_ ?_
     rotate_left
     ·rintro w' ⟨s0, s1, s2, s3, s4, s5⟩
      go_simp
      with_reducible rfl
     rotate_left
     ·simp only [Act.put, List.setIfInBounds_toArray, List.set_cons_zero, List.set_cons_succ, i64_w, i32_w]
      rfl
     refine take_ (i := 3) (N := some 43) (v := ?_) (a' := ?_) #[true, true, true, true, true, false, false, false, false, false, false] rfl rfl (by kernel_rfl) (fun _ _ _ h => h) (Or.inl ⟨by rfl, ?_⟩) hHeld ?_ ?_
     rotate_left
     ·rintro w' ⟨s0, s1, s2, s3, s4, s5⟩
      go_simp
      with_reducible rfl
     rotate_left
     ·simp only [Act.put, List.setIfInBounds_toArray, List.set_cons_zero, List.set_cons_succ, i64_w, i32_w]
      rfl
     refine take_ (i := 5) (N := some 45) (v := ?_) (a' := ?_) #[true, true, true, true, true, true, false, false, false, false, false] rfl rfl (by kernel_rfl) (fun _ _ _ h => h) (Or.inl ⟨by rfl, ?_⟩) hHeld ?_ ?_
     rotate_left
     ·rintro w' ⟨s0, s1, s2, s3, s4, s5⟩
      go_simp
      with_reducible rfl
     rotate_left
     ·simp only [Act.put, List.setIfInBounds_toArray, List.set_cons_zero, List.set_cons_succ, i64_w, i32_w]
      rfl
     refine one_ (i := 6) (N := some 46) #[true, true, true, true, true, true, true, false, false, false, false] rfl rfl (by kernel_rfl) (by decide) (fun K hK => ?_)
     refine Kd.R_lit_step k64 (w0 := w9.drew) w9.drew.heap.size 64 (by rfl) (N := 46) rfl (xs := [(⟨r2, a1_1, a1_2, a1_3, a1_4⟩ : S64)]) (inner := [.int .i64 r2, .int .i64 a1_1, .int .i64 a1_2, .string a1_3, .int .i64 a1_4]) (ok := fun _ => True) (okp := fun _ => True) ?hr ?hp (fun _ hk => hk) trivial (Below.refl _ _) (Nat.le_refl _) (by simp) ?_
     case hr => first | (go_simp; done) | (go_simp; rfl)
     case hp => exact Reps.snoc (Reps.none _ _) (k64_mkM _ _ _ (⟨r2, a1_1, a1_2, a1_3, a1_4⟩ : S64)) rfl
     intro v13 w13 hr13 hb13 hg13 hx13
     clear hg13 hx13
     have c20x : w13.cell? ⟨g2, 0, none⟩ = some (.string a0_0) := pw_cell_below hb13 c20
     have e30x : w13.cell? ⟨g3, 0, none⟩ = some (.int .i64 r2) := pw_cell_below hb13 e30
     have e31x : w13.cell? ⟨g3, 1, none⟩ = some (.int .i64 a1_1) := pw_cell_below hb13 e31
     have e32x : w13.cell? ⟨g3, 2, none⟩ = some (.int .i64 a1_2) := pw_cell_below hb13 e32
     have e33x : w13.cell? ⟨g3, 3, none⟩ = some (.string a1_3) := pw_cell_below hb13 e33
     have e34x : w13.cell? ⟨g3, 4, none⟩ = some (.int .i64 a1_4) := pw_cell_below hb13 e34
     obtain ⟨gE, cE, rfl, hgE, _⟩ := Kd.R_form hr13 (by simp)
     have HE13 : Aside0 (Kd.C k64 w13 (some ⟨gE, 0, none⟩) 1 [(⟨r2, a1_1, a1_2, a1_3, a1_4⟩ : S64)]) := ⟨(Kd.R_reads' hr13).2.2⟩
     have HL13 := Aside0.mk hb13
     have HGE := Aside0.mk hgE
     clear hr13 hb13 hgE
     refine hK.out _ _ ⟨c20x, e30x, e31x, e32x, e33x, e34x⟩ (fun hHeld => ?_)
     clear hK K
     refine norm_ (a' := ?_) ?_ ?_
     rotate_left
     ·show Act.put _ (some 46) _ = _
      simp only [Act.put, List.setIfInBounds_toArray, List.set_cons_zero, List.set_cons_succ, i64_w, i32_w]
      rfl
     refine one_ (i := 7) (N := some 47) #[true, true, true, true, true, true, true, true, false, false, false] rfl rfl (by kernel_rfl) (by decide) (fun K hK => ?_)
     refine Kd.R_append_rows_step k64 (w0 := w7) w7.heap.size (by rfl) (.tmp 44) (.tmp 46) 52 64 _ 48 (by rfl) Try.underlying52 info64 (by rfl) (by decide) (by decide) (.slice A9 l0_2.length c9) l0_2 [(⟨r2, a1_1, a1_2, a1_3, a1_4⟩ : S64)] _ _ _ (fun _ => True) (fun _ => False) rfl rfl (Kd.R_below (Kd.R_drew HV9.out) HL13.out) HE13.out (fun _ _ h => h) (fun _ h => h.elim) (fun _ _ => trivial) (below_step (below_drew HL9.out) HL13.out) (below_size (below_step (below_drew HL9.out) HL13.out)) HAM.out ?_
     intro v14 w14 hr14 hb14 hg14 hat14
     clear hg14 hat14
     have c20y : w14.cell? ⟨g2, 0, none⟩ = some (.string a0_0) := (blk_cell (blk_below HT2.out hb14) 0).trans rfl
     have e30y : w14.cell? ⟨g3, 0, none⟩ = some (.int .i64 r2) := (blk_cell (blk_below HT3.out hb14) 0).trans rfl
     have e31y : w14.cell? ⟨g3, 1, none⟩ = some (.int .i64 a1_1) := (blk_cell (blk_below HT3.out hb14) 1).trans rfl
     have e32y : w14.cell? ⟨g3, 2, none⟩ = some (.int .i64 a1_2) := (blk_cell (blk_below HT3.out hb14) 2).trans rfl
     have e33y : w14.cell? ⟨g3, 3, none⟩ = some (.string a1_3) := (blk_cell (blk_below HT3.out hb14) 3).trans rfl
     have e34y : w14.cell? ⟨g3, 4, none⟩ = some (.int .i64 a1_4) := (blk_cell (blk_below HT3.out hb14) 4).trans rfl
     have HL14 := Aside0.mk hb14
     have HT14 := Aside0.mk (blk_below HT4.out hb14)
     have c40 : w14.cell? ⟨g4, 0, none⟩ = some (.string ⟨#[]⟩) := (blk_cell HT14.out 0).trans rfl
     have c41 : w14.cell? ⟨g4, 1, none⟩ = some (.int .i64 0) := (blk_cell HT14.out 1).trans rfl
     have c42 : w14.cell? ⟨g4, 2, none⟩ = some (.slice none 0 0) := (blk_cell HT14.out 2).trans rfl
     have f40 : w14.frozen? ⟨g4, 0, none⟩ = false := blk_frozen HT14.out 0
     have f41 : w14.frozen? ⟨g4, 1, none⟩ = false := blk_frozen HT14.out 1
     have f42 : w14.frozen? ⟨g4, 2, none⟩ = false := blk_frozen HT14.out 2
     obtain ⟨A14, n14, c14, rfl⟩ := R_shape hr14
     have HV14 := Aside0.mk hr14
     clear hr14 hb14
     refine hK.out _ _ ⟨c20y, e30y, e31y, e32y, e33y, e34y⟩ (fun hHeld => ?_)
     clear hK K
     refine norm_ (a' := ?_) ?_ ?_
     rotate_left
     ·show Act.put _ (some 47) _ = _
      simp only [Act.put, List.setIfInBounds_toArray, List.set_cons_zero, List.set_cons_succ, i64_w, i32_w]
      rfl
     refine pure_ (i := 8) (N := some 48) (v := ?_) (a' := ?_) #[true, true, true, true, true, true, true, true, true, false, false] rfl rfl (by kernel_rfl) (fun _ _ _ h => h) (Or.inl ⟨by rfl, ?_⟩) ?_ ?_
     rotate_left
     ·intro w'
      go_simp
      with_reducible rfl
     rotate_left
     ·simp only [Act.put, List.setIfInBounds_toArray, List.set_cons_zero, List.set_cons_succ, i64_w, i32_w]
      rfl
     refine last_ (i := 9) (N := none) #[true, true, true, true, true, true, true, true, true, true, false] rfl rfl (by kernel_rfl) (by decide) (fun K hK => ?_)
     refine skip_ (w1 := ?_) (by rfl) rfl ?_ ?_
     rotate_left
     ·go_simp
      rfl
     refine hK.out _ _ ?_
     clear hK K
     refine pure_ (i := 10) (N := some 5) (v := ?_) (a' := ?_) #[true, true, true, true, true, true, true, true, true, true, true] rfl rfl (by kernel_rfl) (fun _ _ _ h => h) (Or.inl ⟨by rfl, ?_⟩) ?_ ?_
     rotate_left
     ·intro w'
      go_simp
      with_reducible rfl
     rotate_left
     ·simp only [Act.put, List.setIfInBounds_toArray, List.set_cons_zero, List.set_cons_succ, i64_w, i32_w]
      rfl
     refine done_ (by kernel_rfl) ?_
     have q1 := blk_set HT14.out 0 (.string a0_0)
     have q2 := blk_set q1 1 (.int .i64 r2)
     have q3 := blk_set q2 2 (.slice A14 n14 c14)
     have hv1 := Kd.R_set HV14.out HT14.out (by decide) 0 (.string a0_0)
     have hv2 := Kd.R_set hv1 q1 (by decide) 1 (.int .i64 r2)
     have hv3 := Kd.R_set hv2 q2 (by decide) 2 (.slice A14 n14 c14)
     have hl14 := below_step HL7.out HL14.out
     have hl := below_set (j := 2) (v := .slice A14 n14 c14) (below_set (j := 1) (v := .int .i64 r2) (below_set (j := 0) (v := .string a0_0) hl14 W4.out) W4.out) W4.out
     have Q3 := Aside0.mk q3
     have HV := Aside0.mk (Kd.R_lower hv3 (below_size HL7.out))
     have HLL := Aside0.mk hl
     clear q1 q2 q3 hv1 hv2 hv3 hl14 hl hHeld
     go_wp2
     refine bodyPost_ret_by (results_ct rfl _ _ g4 56 #[.string a0_0, .int .i64 r2, .slice A14 n14 c14] (0, 0) _ rfl Q3.out hu56 rfl HI56.out) rfl ?_
     exact ⟨_, rfl, HV.out, HLL.out⟩
    ·rw [if_neg h9] at h0
     cases h0

end Go.Proofs.Ytcdnmlfnfhoieaa.A

namespace Go.Proofs.Ytcdnmlfnfhoieaa.A
open Go.RowKit Go.Proofs.YtcdnmlfnfhoieaaW.PrintWords Go.Proofs.YtcdnmlfnfhoieaaW.PrintLast Go.Proofs.YtcdnmlfnfhoieaaW.PrintMore
attribute [local go_sem] max2_int min2_int max_two min_two max_three min_three max_four min_four
set_option linter.unusedVariables false
set_option linter.unusedSimpArgs false

/-! ### audit_New: function 35 -/
def audit_New.f  : Option (ByteArray × Int × (List (S64))) := if 32 ≤ 281474976710656 then (some (strOfNums (List.replicate 32 0), 0, ([] : List (S64)))) else (none)
set_option maxHeartbeats 8000000 in
set_option maxRecDepth 100000 in
theorem audit_New.calls  (r1 : ByteArray) (r2 : Int) (r3 : List (S64)) (w : World) (h : audit_New.f  = some (r1, r2, r3)) :
  Calls Try.prog 35 #[] w fun e w' => ∃ v2_ : Value, e = .returned (.agg #[.string r1, .int .i64 r2, v2_]) ∧ Kd.R k64 64 w' w.heap.size (fun _ => True) v2_ r3 ∧ Below w.heap.size w w' := by
 have hu56 := Try.underlying56
 have HB := Aside0.mk (Below.refl w.heap.size w)
 have H : (if 32 ≤ 281474976710656 then (some (strOfNums (List.replicate 32 0), 0, ([] : List (S64)))) else (none)) = some (r1, r2, r3) := h
 clear h
 by_cases c1 : 32 ≤ 281474976710656
 ·rw [if_pos c1] at H
  have c1b0 := eq_true c1
  have c1b1 : decide (32 ≤ 281474976710656) = true := decide_eq_true c1
  clear c1
  obtain ⟨y251, hy251⟩ : ∃ y_ : List Int, y_ = (List.replicate 32 0) := ⟨_, rfl⟩
  replace H : (some (strOfNums y251, 0, ([] : List (S64)))) = some (r1, r2, r3) := by first | (rw [hy251]; with_reducible exact H) | (have H2_ := (Option.bind_some _ _).symm.trans H; rw [hy251]; with_reducible exact H2_) | (have H2_ := (Option.bind_some _ _).symm.trans H; with_reducible exact H2_) | with_reducible exact H | (rw [hy251]; exact H) | exact H
  have Ny251 := Aside0.mk hy251
  clear hy251
  simp only [Option.some.injEq, Prod.mk.injEq] at H
  obtain ⟨rfl, rfl, rfl⟩ := H
  go_enter Try.func35, Try.ntmps35
  go_wp2_with (first | ((with_reducible refine gate_dst (N := 0) rfl ?_); refine box_event ?hg (N := 0) ?hd (cs := #[.string (⟨#[]⟩ : ByteArray), .int .i64 0, .slice none 0 0]) (t := 56) ?hr ?_; (case hd => rfl); (case hg => rfl); (case hr => first | (go_simp; done) | (go_simp; rfl)); intro gb250 hg w2 hbox hb; have n0_ := Aside0.mk (below_step (by repeat (first | (with_reducible first | exact HB.out | apply below_alloc | apply pw_below_drewN | apply below_drew1) | exact HB.out)) hb); have n1_ := Aside0.mk (hbox); have n2_ := Aside0.mk ((by rw [hg]; exact (below_size (by repeat (first | (with_reducible first | exact HB.out | apply below_alloc | apply pw_below_drewN | apply below_drew1) | exact HB.out))) : w.heap.size ≤ gb250)); have n3_ := Aside0.mk ((by rw [hg]; exact (below_size (by repeat (first | (with_reducible first | exact HB.out | apply below_alloc | apply pw_below_drewN | apply below_drew1) | exact HB.out))) : w.heap.size ≤ gb250)); clear HB; have HB := n0_; have BK250 := n1_; have GW250 := n2_; have GE250 := n3_; clear n0_ n1_ n2_ n3_; clear hb hbox hg) | ((with_reducible refine gate_dst (N := 1) rfl ?_); refine Kd.R_make (Kd.int .u8) _ 5 rfl (N := 1) rfl 23 _ _ rfl 32 rfl rfl Try.underlying23 (.int .u8 0) 1 info5 rfl (by decide) (by omega) 0 (ok := fun _ => True) (okp := fun _ => True) rfl (fun _ hk => hk) trivial (by omega) (by omega) (Below.refl _ _) (Nat.le_refl _) ?_; intro v252 w3 ho4 hb hg_ hnew_; clear hg_ hnew_; (first | rw [← Ny251.out] at ho4 | (simp only [Int.reduceToNat] at ho4; rw [← Ny251.out] at ho4)); have n0_ := Aside0.mk (Kd.R_lower ho4 (below_size (by repeat (first | (with_reducible first | exact HB.out | apply below_alloc | apply pw_below_drewN | apply below_drew1 | refine below_set ?_ GE250.out) | exact HB.out)))); have n1_ := Aside0.mk (blk_below (g := gb250) (o := .cells #[.string (⟨#[]⟩ : ByteArray), .int .i64 0, .slice none 0 0] 56 (0, 0)) (by (with_reducible repeat (first | refine blk_drewN ?_ _ | refine blk_drew ?_ | refine blk_alloc ?_ _)); exact BK250.out) hb); have n2_ := Aside0.mk (below_step (by repeat (first | (with_reducible first | exact HB.out | apply below_alloc | apply pw_below_drewN | apply below_drew1 | refine below_set ?_ GE250.out) | exact HB.out)) hb); clear BK250; clear HB; have HO253 := n0_; have BK250 := n1_; have HB := n2_; clear n0_ n1_ n2_; clear hb ho4; have hcv5 := own_string (P := Try.prog) Try.underlying23 Try.underlying5 Try.underlying9 (Kd.own_of_R HO253.out); have hcz6_0 : w3.cell? ⟨gb250, 0, none⟩ = some (.string (⟨#[]⟩ : ByteArray)) := (blk_cell BK250.out 0).trans rfl; have hcz6_1 : w3.cell? ⟨gb250, 1, none⟩ = some (.int .i64 0) := (blk_cell BK250.out 1).trans rfl; have hcz6_2 : w3.cell? ⟨gb250, 2, none⟩ = some (.slice none 0 0) := (blk_cell BK250.out 2).trans rfl; have hfz6_0 := blk_frozen BK250.out 0; have hfz6_1 := blk_frozen BK250.out 1; have hfz6_2 := blk_frozen BK250.out 2))
  refine bodyPost_ret (results_cell_row rfl _ _ gb250 56 #[.string (strOfNums y251), .int .i64 0, .slice none 0 0] (0, 0) _ rfl (by (with_reducible repeat (first | refine blk_drewN ?_ _ | refine blk_drew ?_ | refine blk_alloc ?_ _)); refine blk_put (cs := #[.string (strOfNums y251), .int .i64 0, .slice none 0 0]) ?_ 2 _ rfl; (with_reducible repeat (first | refine blk_drewN ?_ _ | refine blk_drew ?_ | refine blk_alloc ?_ _)); refine blk_put (cs := #[.string (strOfNums y251), .int .i64 0, .slice none 0 0]) ?_ 1 _ rfl; (with_reducible repeat (first | refine blk_drewN ?_ _ | refine blk_drew ?_ | refine blk_alloc ?_ _)); refine blk_put (cs := #[.string (⟨#[]⟩ : ByteArray), .int .i64 0, .slice none 0 0]) ?_ 0 _ rfl; (with_reducible repeat (first | refine blk_drewN ?_ _ | refine blk_drew ?_ | refine blk_alloc ?_ _)); exact BK250.out) Try.underlying56 rfl (by kernel_rfl)) rfl ?_
  exact ⟨_, by first | rfl | (simp [errW_none, errW_some] <;> rfl) | (simp [*, errW_none, errW_some] <;> rfl), by first | exact Kd.R_nil _ _ _ _ _ | exact Kd.N_nil _ _ _ _ _ | exact Kd.V_nil _ _ _ _ _ | exact Kd.Q_nil _ _ _ _ _ | exact Kd.S_nil _ _ _ _ _, by repeat (first | (with_reducible first | exact HB.out | apply below_alloc | apply pw_below_drewN | apply below_drew1 | refine below_set ?_ GE250.out) | exact HB.out)⟩
 ·rw [if_neg c1] at H
  exact absurd H (by simp)

end Go.Proofs.Ytcdnmlfnfhoieaa.A

namespace Go.Proofs.Ytcdnmlfnfhoieaa.A
open Go.RowKit Go.Proofs.YtcdnmlfnfhoieaaW.PrintWords Go.Proofs.YtcdnmlfnfhoieaaW.PrintLast Go.Proofs.YtcdnmlfnfhoieaaW.PrintMore
attribute [local go_sem] max2_int min2_int max_two min_two max_three min_three max_four min_four
set_option linter.unusedVariables false
set_option linter.unusedSimpArgs false

/-! ### audit_chain: function 78 -/
def audit_chain.l0 : Nat → ByteArray → List (S64) → Int → Int → Option (ByteArray)
 | 0, _, _, _, _ => none
 | k + 1, x0, x7, x8, x9 => if x9 < x8 then (if 0 ≤ x9 then (if x9 < (x7.length : Int) then ((audit_bytes.f k ((rd_T64 x7 x9).f0) ((rd_T64 x7 x9).f1) ((rd_T64 x7 x9).f2) ((rd_T64 x7 x9).f3) ((rd_T64 x7 x9).f4)).bind fun t286 => ((mac_Seal.f x0 t286).bind fun t287 => (audit_chain.l0 k t287 x7 x8 (wrap64 (x9 + 1))))) else (none)) else (none)) else (some x0)
def audit_chain.f (k : Nat) (a0 : ByteArray) (l1 : List (S64)) : Option (ByteArray) := audit_chain.l0 k a0 l1 (l1.length : Int) 0
theorem audit_chain.mono_l : ∀ k, (∀ y0 y1 y2 y3, LeO (audit_chain.l0 k y0 y1 y2 y3) (audit_chain.l0 (k + 1) y0 y1 y2 y3))
 | 0 => fun _ _ _ _ r h => by simp [audit_chain.l0] at h
 | k + 1 => by
  have ih0 := audit_chain.mono_l k
  ·intro y0 y1 y2 y3
   unfold audit_chain.l0
   repeat' first
   | (with_reducible exact ih0 _ _ _ _)
   | (with_reducible exact audit_bytes.mono _ _ _ _ _ _)
   | (with_reducible exact LeO.refl _)
   | (with_reducible exact LeO.none _)
   | (with_reducible refine LeO.ite ?_ ?_)
   | (with_reducible refine LeO.bind ?_ (fun _ => ?_))
   | exact ih0 _ _ _ _
   | exact audit_bytes.mono _ _ _ _ _ _
   | exact LeO.none _
   | refine LeO.ite ?_ ?_
   | refine LeO.bind ?_ (fun _ => ?_)
theorem audit_chain.mono : ∀ a0 a1 k, LeO (audit_chain.f k a0 a1) (audit_chain.f (k + 1) a0 a1) := by
 intro a0 a1 k
 have ih0 := audit_chain.mono_l k
 unfold audit_chain.f
 repeat' first
   | (with_reducible exact ih0 _ _ _ _)
   | (with_reducible exact audit_bytes.mono _ _ _ _ _ _)
   | (with_reducible exact LeO.refl _)
   | (with_reducible exact LeO.none _)
   | (with_reducible refine LeO.ite ?_ ?_)
   | (with_reducible refine LeO.bind ?_ (fun _ => ?_))
   | exact ih0 _ _ _ _
   | exact audit_bytes.mono _ _ _ _ _ _
   | exact LeO.none _
   | refine LeO.ite ?_ ?_
   | refine LeO.bind ?_ (fun _ => ?_)
set_option maxHeartbeats 8000000 in
set_option maxRecDepth 100000 in
theorem audit_chain.calls (k : Nat) (a0 : ByteArray) (A1 : Option Addr) (c1 : Nat) (l1 : List (S64)) (r : ByteArray) (w : World) (hr1 : Kd.C k64 w A1 l1.length l1) (hc1 : l1.length ≤ c1) (h : audit_chain.f k a0 l1 = some r) :
  Calls Try.prog 78 #[.string a0, .slice A1 l1.length c1] w fun e w' => e = .returned (.string r) ∧ Below w.heap.size w w' := by
 have hu64 := Try.underlying64
 have HR1 := Aside0.mk hr1
 have HC1 := Aside0.mk hc1
 clear hr1 hc1
 have HB := Aside0.mk (Below.refl w.heap.size w)
 have H : (audit_chain.l0 k a0 l1 (l1.length : Int) 0) = some r := h
 clear h
 have H' := Aside0.mk H
 clear H
 go_enter Try.func78, Try.ntmps78
 go_wp2
 go_loopg [0, 9] k (fun kq v0 v9 w' => ∃ (x0_1 : ByteArray) (x9_1 : Int), v0 = .string x0_1 ∧ v9 = .int .i64 x9_1 ∧ Aside0 (audit_chain.l0 kq x0_1 l1 (l1.length : Int) x9_1 = some r) ∧ Aside0 (kq ≤ k) ∧ Aside0 (Below w.heap.size w w'))
 case atStart => exact ⟨(a0), (0), (by first | rfl | (simp; done) | (simp [*]; done)), (by first | rfl | (simp; done) | (simp [*]; done)), H', ⟨Nat.le_refl _⟩, ⟨by repeat (first | (with_reducible first | exact HB.out | apply below_alloc | apply pw_below_drewN | apply below_drew1) | exact HB.out)⟩⟩
 case round =>
  clear H'
  try clear c1
  try clear p2
  obtain ⟨x0_1, x9_1, rfl, rfl, HA, HK1, HB⟩ := hrel
  cases gk with
  | zero => exact absurd HA.out (by simp [audit_chain.l0])
  | succ k1 =>
   have H := HA.out
   clear HA
   simp only [audit_chain.l0] at H
   by_cases c3 : x9_1 < (l1.length : Int)
   ·rw [if_pos c3] at H
    have c3b0 : decide (x9_1 < (l1.length : Int)) = true := decide_eq_true c3
    clear c3
    by_cases c4 : 0 ≤ x9_1
    ·rw [if_pos c4] at H
     have c4b0 : decide (0 ≤ x9_1) = true := decide_eq_true c4
     clear c4
     by_cases c5 : x9_1 < (l1.length : Int)
     ·rw [if_pos c5] at H
      have c5b0 : decide (x9_1 < (l1.length : Int)) = true := decide_eq_true c5
      clear c5
      replace H := Option.bind_eq_some_iff.mp H
      obtain ⟨t286, A60, H⟩ := H
      replace H : ((mac_Seal.f x0_1 t286).bind fun t287 => (audit_chain.l0 k1 t287 l1 (l1.length : Int) (wrap64 (x9_1 + 1)))) = some r := H
      have A6 := Aside0.mk A60
      clear A60
      replace H := Option.bind_eq_some_iff.mp H
      obtain ⟨t287, A70, H⟩ := H
      replace H : (audit_chain.l0 k1 t287 l1 (l1.length : Int) (wrap64 (x9_1 + 1))) = some r := H
      have A7 := Aside0.mk A70
      clear A70
      have H' := Aside0.mk H
      clear H
      have p284 : 0 ≤ (x9_1 : Int) := of_decide_eq_true (by first | (with_reducible assumption) | assumption)
      have q284 : x9_1 < (l1.length : Int) := of_decide_eq_true (by first | (with_reducible assumption) | assumption)
      obtain ⟨ad284, e284, hx284_0, hx284_1, hx284_2, hx284_3, hx284_4⟩ := at_T64 HR1.out x9_1 p284 q284
      cases e284
      replace hx284_0 := (HB.out.cell (World.block_lt_of_cell? w _ hx284_0)).trans hx284_0
      replace hx284_1 := (HB.out.cell (World.block_lt_of_cell? w _ hx284_1)).trans hx284_1
      replace hx284_2 := (HB.out.cell (World.block_lt_of_cell? w _ hx284_2)).trans hx284_2
      replace hx284_3 := (HB.out.cell (World.block_lt_of_cell? w _ hx284_3)).trans hx284_3
      replace hx284_4 := (HB.out.cell (World.block_lt_of_cell? w _ hx284_4)).trans hx284_4
      replace p284 := eq_true p284
      replace q284 := eq_true q284
      go_wp2_with (first | ((with_reducible refine gate_dst (N := 6) rfl ?_); refine box_event ?hg (N := 6) ?hd (cs := #[.int .i64 0, .int .i64 0, .int .i64 0, .string (⟨#[]⟩ : ByteArray), .int .i64 0]) (t := 64) ?hr ?_; (case hd => rfl); (case hg => rfl); (case hr => first | (go_simp; done) | (go_simp; rfl)); intro gb285 hg w8 hbox hb; have n0_ := Aside0.mk (below_step (by repeat (first | (with_reducible first | exact HB.out | apply below_alloc | apply pw_below_drewN | apply below_drew1) | exact HB.out)) hb); have n1_ := Aside0.mk (hbox); have n2_ := Aside0.mk ((by rw [hg]; exact (below_size (by repeat (first | (with_reducible first | exact HB.out | apply below_alloc | apply pw_below_drewN | apply below_drew1) | exact HB.out))) : w.heap.size ≤ gb285)); have n3_ := Aside0.mk ((by rw [hg]; exact (below_size (by repeat (first | (with_reducible first | exact HB.out | apply below_alloc | apply pw_below_drewN | apply below_drew1) | exact HB.out))) : w.heap.size ≤ gb285)); clear HB; have HB := n0_; have BK285 := n1_; have GW285 := n2_; have GE285 := n3_; clear n0_ n1_ n2_ n3_; clear hb hbox hg; have hcz9_0 : w8.cell? ⟨gb285, 0, none⟩ = some (.int .i64 0) := (blk_cell BK285.out 0).trans rfl; have hcz9_1 : w8.cell? ⟨gb285, 1, none⟩ = some (.int .i64 0) := (blk_cell BK285.out 1).trans rfl; have hcz9_2 : w8.cell? ⟨gb285, 2, none⟩ = some (.int .i64 0) := (blk_cell BK285.out 2).trans rfl; have hcz9_3 : w8.cell? ⟨gb285, 3, none⟩ = some (.string (⟨#[]⟩ : ByteArray)) := (blk_cell BK285.out 3).trans rfl; have hcz9_4 : w8.cell? ⟨gb285, 4, none⟩ = some (.int .i64 0) := (blk_cell BK285.out 4).trans rfl; have hfz9_0 := blk_frozen BK285.out 0; have hfz9_1 := blk_frozen BK285.out 1; have hfz9_2 := blk_frozen BK285.out 2; have hfz9_3 := blk_frozen BK285.out 3; have hfz9_4 := blk_frozen BK285.out 4) | ((with_reducible refine gate_callee (f := 77) rfl ?_); refine goesL_ (some 15) rfl rfl Try.func77 (by kernel_rfl) rfl #[.agg #[.int .i64 ((rd_T64 l1 x9_1).f0), .int .i64 ((rd_T64 l1 x9_1).f1), .int .i64 ((rd_T64 l1 x9_1).f2), .string ((rd_T64 l1 x9_1).f3), .int .i64 ((rd_T64 l1 x9_1).f4)]] rfl (by (try simp only [List.map_toArray, List.map_cons, List.map_nil]); first | done | rfl | (simp only [List.length_drop, List.length_take]; rfl)) ?_; (with_reducible refine (audit_bytes.calls k1 ((rd_T64 l1 x9_1).f0) ((rd_T64 l1 x9_1).f1) ((rd_T64 l1 x9_1).f2) ((rd_T64 l1 x9_1).f3) ((rd_T64 l1 x9_1).f4) t286 _ A6.out).mono ?_); rintro e w10 ⟨rfl, hb⟩; refine ⟨_, rfl, ?_⟩; have n0_ := Aside0.mk (blk_below (g := gb285) (o := .cells #[.int .i64 ((rd_T64 l1 x9_1).f0), .int .i64 ((rd_T64 l1 x9_1).f1), .int .i64 ((rd_T64 l1 x9_1).f2), .string ((rd_T64 l1 x9_1).f3), .int .i64 ((rd_T64 l1 x9_1).f4)] 64 (0, 0)) (by (with_reducible repeat (first | refine blk_drewN ?_ _ | refine blk_drew ?_ | refine blk_alloc ?_ _)); refine blk_put (cs := #[.int .i64 ((rd_T64 l1 x9_1).f0), .int .i64 ((rd_T64 l1 x9_1).f1), .int .i64 ((rd_T64 l1 x9_1).f2), .string ((rd_T64 l1 x9_1).f3), .int .i64 0]) ?_ 4 _ rfl; (with_reducible repeat (first | refine blk_drewN ?_ _ | refine blk_drew ?_ | refine blk_alloc ?_ _)); refine blk_put (cs := #[.int .i64 ((rd_T64 l1 x9_1).f0), .int .i64 ((rd_T64 l1 x9_1).f1), .int .i64 ((rd_T64 l1 x9_1).f2), .string (⟨#[]⟩ : ByteArray), .int .i64 0]) ?_ 3 _ rfl; (with_reducible repeat (first | refine blk_drewN ?_ _ | refine blk_drew ?_ | refine blk_alloc ?_ _)); refine blk_put (cs := #[.int .i64 ((rd_T64 l1 x9_1).f0), .int .i64 ((rd_T64 l1 x9_1).f1), .int .i64 0, .string (⟨#[]⟩ : ByteArray), .int .i64 0]) ?_ 2 _ rfl; (with_reducible repeat (first | refine blk_drewN ?_ _ | refine blk_drew ?_ | refine blk_alloc ?_ _)); refine blk_put (cs := #[.int .i64 ((rd_T64 l1 x9_1).f0), .int .i64 0, .int .i64 0, .string (⟨#[]⟩ : ByteArray), .int .i64 0]) ?_ 1 _ rfl; (with_reducible repeat (first | refine blk_drewN ?_ _ | refine blk_drew ?_ | refine blk_alloc ?_ _)); refine blk_put (cs := #[.int .i64 0, .int .i64 0, .int .i64 0, .string (⟨#[]⟩ : ByteArray), .int .i64 0]) ?_ 0 _ rfl; (with_reducible repeat (first | refine blk_drewN ?_ _ | refine blk_drew ?_ | refine blk_alloc ?_ _)); exact BK285.out) hb); have n1_ := Aside0.mk (below_step (by repeat (first | (with_reducible first | exact HB.out | apply below_alloc | apply pw_below_drewN | apply below_drew1 | refine below_set ?_ GE285.out) | exact HB.out)) hb); clear BK285; clear HB; have BK285 := n0_; have HB := n1_; clear n0_ n1_; (try clear hb); (try clear hb2); (try clear hk); (try clear hi)) | ((with_reducible refine gate_callee (f := 47) rfl ?_); refine goesL_ (some 16) rfl rfl Try.func47 (by kernel_rfl) rfl #[.string x0_1, .string t286] rfl (by (try simp only [List.map_toArray, List.map_cons, List.map_nil]); first | done | rfl | (simp only [List.length_drop, List.length_take]; rfl)) ?_; (with_reducible refine (mac_Seal.calls x0_1 t286 t287 _ A7.out).mono ?_); rintro e w11 ⟨rfl, hb⟩; refine ⟨_, rfl, ?_⟩; have n0_ := Aside0.mk (blk_below (g := gb285) (o := .cells #[.int .i64 ((rd_T64 l1 x9_1).f0), .int .i64 ((rd_T64 l1 x9_1).f1), .int .i64 ((rd_T64 l1 x9_1).f2), .string ((rd_T64 l1 x9_1).f3), .int .i64 ((rd_T64 l1 x9_1).f4)] 64 (0, 0)) (by (with_reducible repeat (first | refine blk_drewN ?_ _ | refine blk_drew ?_ | refine blk_alloc ?_ _)); exact BK285.out) hb); have n1_ := Aside0.mk (below_step (by repeat (first | (with_reducible first | exact HB.out | apply below_alloc | apply pw_below_drewN | apply below_drew1 | refine below_set ?_ GE285.out) | exact HB.out)) hb); clear BK285; clear HB; have BK285 := n0_; have HB := n1_; clear n0_ n1_; (try clear hb); (try clear hb2); (try clear hk); (try clear hi)))
      go_roundg k1
      case measure => have := HK1.out; omega
      case rel => exact ⟨(t287), (wrap64 (x9_1 + 1)), (by first | rfl | (simp; done) | (simp [*]; done)), (by first | rfl | (simp; done) | (simp [*]; done)), H', ⟨by have := HK1.out; omega⟩, ⟨by repeat (first | (with_reducible first | exact HB.out | apply below_alloc | apply pw_below_drewN | apply below_drew1 | refine below_set ?_ GE285.out) | exact HB.out)⟩⟩
     ·rw [if_neg c5] at H
      exact absurd H (by simp)
    ·rw [if_neg c4] at H
     exact absurd H (by simp)
   ·rw [if_neg c3] at H
    have c3b0 : decide (x9_1 < (l1.length : Int)) = false := decide_eq_false c3
    clear c3
    obtain rfl := Option.some.inj H
    go_wp2
    go_ret
    exact ⟨by first | rfl | (simp [errW_none, errW_some] <;> rfl) | (simp [*, errW_none, errW_some] <;> rfl), by repeat (first | (with_reducible first | exact HB.out | apply below_alloc | apply pw_below_drewN | apply below_drew1) | exact HB.out)⟩

end Go.Proofs.Ytcdnmlfnfhoieaa.A

namespace Go.Proofs.Ytcdnmlfnfhoieaa.A
open Go.RowKit Go.Proofs.YtcdnmlfnfhoieaaW.PrintWords Go.Proofs.YtcdnmlfnfhoieaaW.PrintLast Go.Proofs.YtcdnmlfnfhoieaaW.PrintMore
attribute [local go_sem] max2_int min2_int max_two min_two max_three min_three max_four min_four
set_option linter.unusedVariables false
set_option linter.unusedSimpArgs false

/-! ### audit_Digest: function 44 -/
def audit_Digest.f (k : Nat) (a0_0 : ByteArray) (a0_1 : Int) (l0_2 : List (S64)) : Option (ByteArray) := (audit_May.f k a0_0 a0_1 l0_2).bind fun t289 => (if t289 = true then ((audit_chain.f k a0_0 l0_2).bind fun t290 => (some t290)) else (some (⟨#[]⟩ : ByteArray)))
theorem audit_Digest.mono : ∀ a0 a1 a2 k, LeO (audit_Digest.f k a0 a1 a2) (audit_Digest.f (k + 1) a0 a1 a2) := by
 intro a0 a1 a2 k
 unfold audit_Digest.f
 repeat' first
   | (with_reducible exact audit_May.mono _ _ _ _)
   | (with_reducible exact audit_chain.mono _ _ _)
   | (with_reducible exact LeO.refl _)
   | (with_reducible exact LeO.none _)
   | (with_reducible refine LeO.ite ?_ ?_)
   | (with_reducible refine LeO.bind ?_ (fun _ => ?_))
   | exact audit_May.mono _ _ _ _
   | exact audit_chain.mono _ _ _
   | exact LeO.none _
   | refine LeO.ite ?_ ?_
   | refine LeO.bind ?_ (fun _ => ?_)
set_option maxHeartbeats 8000000 in
set_option maxRecDepth 100000 in
theorem audit_Digest.calls (k : Nat) (a0_0 : ByteArray) (a0_1 : Int) (A0_2 : Option Addr) (c0_2 : Nat) (l0_2 : List (S64)) (r : ByteArray) (w : World) (hr0_2 : Kd.C k64 w A0_2 l0_2.length l0_2) (hc0_2 : l0_2.length ≤ c0_2) (h : audit_Digest.f k a0_0 a0_1 l0_2 = some r) :
  Calls Try.prog 44 #[.agg #[.string a0_0, .int .i64 a0_1, .slice A0_2 l0_2.length c0_2]] w fun e w' => e = .returned (.string r) ∧ Below w.heap.size w w' := by
 have hu56 := Try.underlying56
 have HR0_2 := Aside0.mk hr0_2
 have HC0_2 := Aside0.mk hc0_2
 clear hr0_2 hc0_2
 have HB := Aside0.mk (Below.refl w.heap.size w)
 have H : ((audit_May.f k a0_0 a0_1 l0_2).bind fun t289 => (if t289 = true then ((audit_chain.f k a0_0 l0_2).bind fun t290 => (some t290)) else (some (⟨#[]⟩ : ByteArray)))) = some r := h
 clear h
 replace H := Option.bind_eq_some_iff.mp H
 obtain ⟨t289, A20, H⟩ := H
 replace H : (if t289 = true then ((audit_chain.f k a0_0 l0_2).bind fun t290 => (some t290)) else (some (⟨#[]⟩ : ByteArray))) = some r := H
 have A2 := Aside0.mk A20
 clear A20
 by_cases c3 : t289 = true
 ·subst c3
  have H1 : ((audit_chain.f k a0_0 l0_2).bind fun t290 => (some t290)) = some r := by rw [if_pos rfl] at H; exact H
  clear H
  have H := H1
  clear H1
  replace H := Option.bind_eq_some_iff.mp H
  obtain ⟨t290, A40, H⟩ := H
  replace H : (some t290) = some r := H
  have A4 := Aside0.mk A40
  clear A40
  obtain rfl := Option.some.inj H
  go_enter Try.func44, Try.ntmps44
  go_wp2_with (first | ((with_reducible refine gate_dst (N := 1) rfl ?_); refine box_event ?hg (N := 1) ?hd (cs := #[.string a0_0, .int .i64 a0_1, .slice A0_2 l0_2.length c0_2]) (t := 56) ?hr ?_; (case hd => rfl); (case hg => rfl); (case hr => first | (go_simp; done) | (go_simp; rfl)); intro gb288 hg w5 hbox hb; have n0_ := Aside0.mk (below_step (by repeat (first | (with_reducible first | exact HB.out | apply below_alloc | apply pw_below_drewN | apply below_drew1) | exact HB.out)) hb); have n1_ := Aside0.mk (hbox); have n2_ := Aside0.mk ((by rw [hg]; exact (below_size (by repeat (first | (with_reducible first | exact HB.out | apply below_alloc | apply pw_below_drewN | apply below_drew1) | exact HB.out))) : w.heap.size ≤ gb288)); have n3_ := Aside0.mk ((by rw [hg]; exact (below_size (by repeat (first | (with_reducible first | exact HB.out | apply below_alloc | apply pw_below_drewN | apply below_drew1) | exact HB.out))) : w.heap.size ≤ gb288)); clear HB; have HB := n0_; have BK288 := n1_; have GW288 := n2_; have GE288 := n3_; clear n0_ n1_ n2_ n3_; clear hb hbox hg; have hcz6_0 : w5.cell? ⟨gb288, 0, none⟩ = some (.string a0_0) := (blk_cell BK288.out 0).trans rfl; have hcz6_1 : w5.cell? ⟨gb288, 1, none⟩ = some (.int .i64 a0_1) := (blk_cell BK288.out 1).trans rfl; have hcz6_2 : w5.cell? ⟨gb288, 2, none⟩ = some (.slice A0_2 l0_2.length c0_2) := (blk_cell BK288.out 2).trans rfl; have hfz6_0 := blk_frozen BK288.out 0; have hfz6_1 := blk_frozen BK288.out 1; have hfz6_2 := blk_frozen BK288.out 2) | ((with_reducible refine gate_callee (f := 39) rfl ?_); refine goesL_ (some 4) rfl rfl Try.func39 (by kernel_rfl) rfl #[.agg #[.string a0_0, .int .i64 a0_1, .slice A0_2 l0_2.length c0_2]] rfl (by (try simp only [List.map_toArray, List.map_cons, List.map_nil]); first | done | rfl | (simp only [List.length_drop, List.length_take]; rfl)) ?_; (with_reducible refine (audit_May.calls k a0_0 a0_1 _ _ l0_2 true _ ?side1 ?side2 A2.out).mono ?_); (case side1 => repeat (first | exact (Kd.C_below HR0_2.out HB.out) | (with_reducible refine Kd.C_alloc ?_ _) | (with_reducible refine Kd.C_drewN ?_ _) | (with_reducible refine Kd.C_drew ?_))); (case side2 => exact HC0_2.out); rintro e w7 ⟨rfl, hb⟩; refine ⟨_, rfl, ?_⟩; have n0_ := Aside0.mk (blk_below (g := gb288) (o := .cells #[.string a0_0, .int .i64 a0_1, .slice A0_2 l0_2.length c0_2] 56 (0, 0)) (by (with_reducible repeat (first | refine blk_drewN ?_ _ | refine blk_drew ?_ | refine blk_alloc ?_ _)); exact BK288.out) hb); have n1_ := Aside0.mk (below_step (by repeat (first | (with_reducible first | exact HB.out | apply below_alloc | apply pw_below_drewN | apply below_drew1 | refine below_set ?_ GE288.out) | exact HB.out)) hb); clear BK288; clear HB; have BK288 := n0_; have HB := n1_; clear n0_ n1_; (try clear hb); (try clear hb2); (try clear hk); (try clear hi); have hcz8_0 : w7.cell? ⟨gb288, 0, none⟩ = some (.string a0_0) := (blk_cell BK288.out 0).trans rfl; have hcz8_1 : w7.cell? ⟨gb288, 1, none⟩ = some (.int .i64 a0_1) := (blk_cell BK288.out 1).trans rfl; have hcz8_2 : w7.cell? ⟨gb288, 2, none⟩ = some (.slice A0_2 l0_2.length c0_2) := (blk_cell BK288.out 2).trans rfl; have hfz8_0 := blk_frozen BK288.out 0; have hfz8_1 := blk_frozen BK288.out 1; have hfz8_2 := blk_frozen BK288.out 2) | ((with_reducible refine gate_callee (f := 78) rfl ?_); refine goesL_ (some 10) rfl rfl Try.func78 (by kernel_rfl) rfl #[.string a0_0, .slice A0_2 l0_2.length c0_2] rfl (by (try simp only [List.map_toArray, List.map_cons, List.map_nil]); first | done | rfl | (simp only [List.length_drop, List.length_take]; rfl)) ?_; (with_reducible refine (audit_chain.calls k a0_0 _ _ l0_2 t290 _ ?side1 ?side2 A4.out).mono ?_); (case side1 => repeat (first | exact (Kd.C_below HR0_2.out HB.out) | (with_reducible refine Kd.C_alloc ?_ _) | (with_reducible refine Kd.C_drewN ?_ _) | (with_reducible refine Kd.C_drew ?_))); (case side2 => exact HC0_2.out); rintro e w9 ⟨rfl, hb⟩; refine ⟨_, rfl, ?_⟩; have n0_ := Aside0.mk (blk_below (g := gb288) (o := .cells #[.string a0_0, .int .i64 a0_1, .slice A0_2 l0_2.length c0_2] 56 (0, 0)) (by (with_reducible repeat (first | refine blk_drewN ?_ _ | refine blk_drew ?_ | refine blk_alloc ?_ _)); exact BK288.out) hb); have n1_ := Aside0.mk (below_step (by repeat (first | (with_reducible first | exact HB.out | apply below_alloc | apply pw_below_drewN | apply below_drew1 | refine below_set ?_ GE288.out) | exact HB.out)) hb); clear BK288; clear HB; have BK288 := n0_; have HB := n1_; clear n0_ n1_; (try clear hb); (try clear hb2); (try clear hk); (try clear hi)))
  go_ret
  exact ⟨by first | rfl | (simp [errW_none, errW_some] <;> rfl) | (simp [*, errW_none, errW_some] <;> rfl), by repeat (first | (with_reducible first | exact HB.out | apply below_alloc | apply pw_below_drewN | apply below_drew1 | refine below_set ?_ GE288.out) | exact HB.out)⟩
 ·replace c3 := Bool.eq_false_iff.mpr c3
  subst c3
  have H1 : (some (⟨#[]⟩ : ByteArray)) = some r := by rw [if_neg (show ¬ (false = true) by decide)] at H; exact H
  clear H
  have H := H1
  clear H1
  obtain rfl := Option.some.inj H
  go_enter Try.func44, Try.ntmps44
  go_wp2_with (first | ((with_reducible refine gate_dst (N := 1) rfl ?_); refine box_event ?hg (N := 1) ?hd (cs := #[.string a0_0, .int .i64 a0_1, .slice A0_2 l0_2.length c0_2]) (t := 56) ?hr ?_; (case hd => rfl); (case hg => rfl); (case hr => first | (go_simp; done) | (go_simp; rfl)); intro gb288 hg w10 hbox hb; have n0_ := Aside0.mk (below_step (by repeat (first | (with_reducible first | exact HB.out | apply below_alloc | apply pw_below_drewN | apply below_drew1) | exact HB.out)) hb); have n1_ := Aside0.mk (hbox); have n2_ := Aside0.mk ((by rw [hg]; exact (below_size (by repeat (first | (with_reducible first | exact HB.out | apply below_alloc | apply pw_below_drewN | apply below_drew1) | exact HB.out))) : w.heap.size ≤ gb288)); have n3_ := Aside0.mk ((by rw [hg]; exact (below_size (by repeat (first | (with_reducible first | exact HB.out | apply below_alloc | apply pw_below_drewN | apply below_drew1) | exact HB.out))) : w.heap.size ≤ gb288)); clear HB; have HB := n0_; have BK288 := n1_; have GW288 := n2_; have GE288 := n3_; clear n0_ n1_ n2_ n3_; clear hb hbox hg; have hcz11_0 : w10.cell? ⟨gb288, 0, none⟩ = some (.string a0_0) := (blk_cell BK288.out 0).trans rfl; have hcz11_1 : w10.cell? ⟨gb288, 1, none⟩ = some (.int .i64 a0_1) := (blk_cell BK288.out 1).trans rfl; have hcz11_2 : w10.cell? ⟨gb288, 2, none⟩ = some (.slice A0_2 l0_2.length c0_2) := (blk_cell BK288.out 2).trans rfl; have hfz11_0 := blk_frozen BK288.out 0; have hfz11_1 := blk_frozen BK288.out 1; have hfz11_2 := blk_frozen BK288.out 2) | ((with_reducible refine gate_callee (f := 39) rfl ?_); refine goesL_ (some 4) rfl rfl Try.func39 (by kernel_rfl) rfl #[.agg #[.string a0_0, .int .i64 a0_1, .slice A0_2 l0_2.length c0_2]] rfl (by (try simp only [List.map_toArray, List.map_cons, List.map_nil]); first | done | rfl | (simp only [List.length_drop, List.length_take]; rfl)) ?_; (with_reducible refine (audit_May.calls k a0_0 a0_1 _ _ l0_2 false _ ?side1 ?side2 A2.out).mono ?_); (case side1 => repeat (first | exact (Kd.C_below HR0_2.out HB.out) | (with_reducible refine Kd.C_alloc ?_ _) | (with_reducible refine Kd.C_drewN ?_ _) | (with_reducible refine Kd.C_drew ?_))); (case side2 => exact HC0_2.out); rintro e w12 ⟨rfl, hb⟩; refine ⟨_, rfl, ?_⟩; have n0_ := Aside0.mk (blk_below (g := gb288) (o := .cells #[.string a0_0, .int .i64 a0_1, .slice A0_2 l0_2.length c0_2] 56 (0, 0)) (by (with_reducible repeat (first | refine blk_drewN ?_ _ | refine blk_drew ?_ | refine blk_alloc ?_ _)); exact BK288.out) hb); have n1_ := Aside0.mk (below_step (by repeat (first | (with_reducible first | exact HB.out | apply below_alloc | apply pw_below_drewN | apply below_drew1 | refine below_set ?_ GE288.out) | exact HB.out)) hb); clear BK288; clear HB; have BK288 := n0_; have HB := n1_; clear n0_ n1_; (try clear hb); (try clear hb2); (try clear hk); (try clear hi)))
  go_ret
  exact ⟨by first | rfl | (simp [errW_none, errW_some] <;> rfl) | (simp [*, errW_none, errW_some] <;> rfl), by repeat (first | (with_reducible first | exact HB.out | apply below_alloc | apply pw_below_drewN | apply below_drew1 | refine below_set ?_ GE288.out) | exact HB.out)⟩

end Go.Proofs.Ytcdnmlfnfhoieaa.A

/- lives(), the fixed example of layer 13: an audit that goes on by one entry has the entry's seal as its digest; it answers true. No condition. -/
namespace Go.Proofs.Ytcdnmlfnfhoieaa.A
open Go.RowKit Go.Proofs.YtcdnmlfnfhoieaaW.PrintWords Go.Proofs.YtcdnmlfnfhoieaaW.PrintLast Go.Proofs.YtcdnmlfnfhoieaaW.PrintMore Go.Proofs.Ytcdnmlfnfhoieaa.Bs
attribute [local go_sem] max2_int min2_int max_two min_two max_three min_three max_four min_four
set_option linter.unusedVariables false
set_option linter.unusedSimpArgs false

def z32 : ByteArray := strOfNums (List.replicate 32 0)
def bA : ByteArray := ⟨#[97]⟩
def b13 : ByteArray := ⟨#[1, 3, 1, 1, 97, 0]⟩
theorem new_some : audit_New.f = some (z32, 0, []) := by kernel_rfl
theorem bytes_13 : audit_bytes.f 20 1 3 1 bA 0 = some b13 := by kernel_rfl
theorem refbytes_13 : strongroomref13_Bytes.f 20 1 3 1 bA 0 = some b13 := by kernel_rfl
theorem add_13 : audit_Add.f 20 z32 0 [] 0 3 1 bA 0 = some (z32, 1, [⟨1, 3, 1, bA, 0⟩], 0) := by kernel_rfl
theorem may_13 : audit_May.f 20 z32 1 [⟨1, 3, 1, bA, 0⟩] = some true := by kernel_rfl
theorem seal_13 : mac_Seal.f z32 b13 = some (sealP z32 b13) := mac_Seal.some_ z32 b13 (of_decide_eq_true (by kernel_rfl)) (of_decide_eq_true (by kernel_rfl))
theorem digest_13 : audit_Digest.f 20 z32 1 [⟨1, 3, 1, bA, 0⟩] = some (sealP z32 b13) := by
 unfold audit_Digest.f
 rw [may_13, Option.bind_some, if_pos rfl]
 unfold audit_chain.f
 rw [show (20 : Nat) = 18 + 1 + 1 from rfl, audit_chain.l0, if_pos (by decide), if_pos (by decide), if_pos (by decide)]
 have e : audit_bytes.f (18 + 1) (rd_T64 [(⟨1, 3, 1, bA, 0⟩ : S64)] 0).f0 (rd_T64 [(⟨1, 3, 1, bA, 0⟩ : S64)] 0).f1 (rd_T64 [(⟨1, 3, 1, bA, 0⟩ : S64)] 0).f2 (rd_T64 [(⟨1, 3, 1, bA, 0⟩ : S64)] 0).f3 (rd_T64 [(⟨1, 3, 1, bA, 0⟩ : S64)] 0).f4 = some b13 := by kernel_rfl
 rw [e, Option.bind_some, seal_13, Option.bind_some, audit_chain.l0, if_neg (of_decide_eq_true (by kernel_rfl))]
 rfl

theorem C64_lt {w : World} {g o n : Nat} {xs : List S64} (h : Kd.C k64 w (some ⟨g, o, none⟩) n xs) (hn : 0 < n) : g < w.heap.size := by
 obtain ⟨ad, e, h0, _⟩ := at_T64 h 0 (by decide) (by omega)
 cases e
 have := World.block_lt_of_cell? w _ h0
 rwa [add_block] at this

set_option maxHeartbeats 8000000 in
set_option maxRecDepth 100000 in
theorem lives13_walk (w : World) : Calls Try.prog 34 #[] w fun e w' => e = .returned (.bool true) ∧ Below w.heap.size w w' := by
 have hu56 := Try.underlying56
 have hu64 := Try.underlying64
 have hu52 := Try.underlying52
 have HB0 : Aside0 (Below w.heap.size w w) := ⟨Below.refl _ _⟩
 have HI56 : Aside0 ((Try.prog.info? 56).map (·.size) = some 3) := ⟨by kernel_rfl⟩
 go_enter Try.func34, Try.ntmps34
 go_wp2_with fail
 refine (audit_New.calls z32 0 [] w new_some).mono ?_
 rintro e w1 ⟨v1, rfl, hr1, hb1⟩
 obtain ⟨A1, n1, c1, rfl⟩ := R_shape hr1
 obtain rfl : n1 = 0 := (Kd.R_reads' hr1).1
 have HC1 : Aside0 (Kd.C k64 w1 A1 ([] : List S64).length []) := ⟨(Kd.R_reads' hr1).2.2⟩
 have HL1 := Aside0.mk hb1
 clear hr1 hb1
 go_wp2_with fail
 refine (audit_Add.calls 20 z32 0 A1 c1 [] 0 3 1 bA 0 z32 1 [⟨1, 3, 1, bA, 0⟩] 0 w1 HC1.out (Nat.zero_le _) add_13).mono ?_
 rintro e w2 ⟨v2, rfl, hr2, hb2⟩
 have HL2 := Aside0.mk (below_step HL1.out hb2)
 obtain ⟨gA, cA, rfl, hgA, _⟩ := Kd.R_form hr2 (by simp)
 have HC2 : Aside0 (Kd.C k64 w2 (some ⟨gA, 0, none⟩) 1 [⟨1, 3, 1, bA, 0⟩]) := ⟨(Kd.R_reads' hr2).2.2⟩
 have HCA : Aside0 (1 ≤ cA) := ⟨(Kd.R_reads' hr2).2.1⟩
 clear hr2 hb2 hgA HC1 HL1 HB0
 have HV1 : Aside0 ((#[.string z32, .int .i64 1, .slice (some ⟨gA, 0, none⟩) 1 cA] : Array Value).all (·.oneCell') = true) := ⟨by simp [Value.oneCell']⟩
 go_upto_region 2 with (first | ((with_reducible refine gate_dst (N := 1) rfl ?_); refine box_event ?hg (N := 1) ?hd (cs := #[.string ⟨#[]⟩, .int .i64 0, .slice none 0 0]) (t := 56) ?hr ?_; (case hd => rfl); (case hg => rfl); (case hr => first | (go_simp; done) | (go_simp; rfl)); intro g1 hg1 w3 hb3 hbel3; have HB3 := Aside0.mk hb3; have HL3 := Aside0.mk (below_step HL2.out hbel3); have HC3 := Aside0.mk (Kd.C_below HC2.out hbel3); have HG1 : Aside0 (w.heap.size ≤ g1) := ⟨by rw [hg1]; exact below_size HL2.out⟩; have HGA : Aside0 (gA < g1) := ⟨by rw [hg1]; exact C64_lt HC2.out (by decide)⟩; clear hg1 hb3 hbel3 HC2 HL2) | (refine gate_ (.store 56 (.tmp 1) (.tmp 7)) rfl ?_; refine wpList_store_row rfl 56 (.tmp 1) (.tmp 7) rfl g1 #[.string z32, .int .i64 1, .slice (some ⟨gA, 0, none⟩) 1 cA] rfl rfl 56 _ HB3.out HI56.out rfl HV1.out ?_))
 have HB4 : Aside0 ((w3.setRow g1 #[.string z32, .int .i64 1, .slice (some ⟨gA, 0, none⟩) 1 cA]).heap[g1]? = some (.cells #[.string z32, .int .i64 1, .slice (some ⟨gA, 0, none⟩) 1 cA] 56 (0, 0))) := ⟨setRow_heap _ _ _ _ _ _ HB3.out⟩
 have HL4 : Aside0 (Below w.heap.size w (w3.setRow g1 #[.string z32, .int .i64 1, .slice (some ⟨gA, 0, none⟩) 1 cA])) := ⟨HL3.out.trans (below_setRow HG1.out)⟩
 have HC4 : Aside0 (Kd.C k64 (w3.setRow g1 #[.string z32, .int .i64 1, .slice (some ⟨gA, 0, none⟩) 1 cA]) (some ⟨gA, 0, none⟩) 1 [⟨1, 3, 1, bA, 0⟩]) := ⟨C_frame64 HC3.out (Fr.setRow (Fr.refl _ (fun k => k = g1)) rfl) (fun ad e _ h => by cases e; have := HGA.out; exact absurd h (Nat.ne_of_lt this))⟩
 clear HB3 HL3 HC3 HV1
 generalize w3.setRow g1 #[.string z32, .int .i64 1, .slice (some ⟨gA, 0, none⟩) 1 cA] = w4 at HB4 HL4 HC4 ⊢
 have c10 : w4.cell? ⟨g1, 0, none⟩ = some (.string z32) := (blk_cell HB4.out 0).trans rfl
 have c11 : w4.cell? ⟨g1, 1, none⟩ = some (.int .i64 1) := (blk_cell HB4.out 1).trans rfl
 have c12 : w4.cell? ⟨g1, 2, none⟩ = some (.slice (some ⟨gA, 0, none⟩) 1 cA) := (blk_cell HB4.out 2).trans rfl
 obtain ⟨ad, e', d0, d1, d2, d3, d4⟩ := at_T64 HC4.out 0 (by decide) (by decide)
 cases e'
 simp only [Int.toNat_zero, Nat.zero_mul, add_plain, Nat.zero_add] at d0 d1 d2 d3 d4
 have d0 : w4.cell? ⟨gA, 0, none⟩ = some (.int .i64 1) := d0
 have d1 : w4.cell? ⟨gA, 1, none⟩ = some (.int .i64 3) := d1
 have d2 : w4.cell? ⟨gA, 2, none⟩ = some (.int .i64 1) := d2
 have d3 : w4.cell? ⟨gA, 3, none⟩ = some (.string bA) := d3
 have d4 : w4.cell? ⟨gA, 4, none⟩ = some (.int .i64 0) := d4
 obtain ⟨mc, hmc⟩ : ∃ mc, madeCells #[Value.int .u8 0] 32 = mc := ⟨_, rfl⟩
 have HMK : Aside0 (∀ W : World, (Instr.makeSlice 23 (.int .i64 32) (.int .i64 32)).run Try.prog W = .ok (.slice (some ⟨W.heap.size, 0, none⟩) 32 32) (W.alloc (.cells mc 5))) := ⟨by
  rw [← hmc]
  exact print_make (P := Try.prog) 23 5 .u8 1 Try.underlying23 info5 (by decide) 32 (by decide)⟩
 have HMO : Aside0 (∀ W : World, (W.alloc (.cells mc 5)).ownsRow 0 5 1 (.slice (some ⟨W.heap.size, 0, none⟩) 32 32) 32 (nums .u8 (List.replicate 32 0))) := ⟨by
  intro W
  rw [← hmc]
  exact own_made W 0 5 .u8 32 (Nat.zero_le _) (by decide)⟩
 clear hmc
 obtain ⟨D, hD⟩ : ∃ D, sealP z32 b13 = D := ⟨_, rfl⟩
 have HDG : Aside0 (audit_Digest.f 20 z32 1 [⟨1, 3, 1, bA, 0⟩] = some D) := ⟨by rw [digest_13, hD]⟩
 have HSL : Aside0 (mac_Seal.f z32 b13 = some D) := ⟨by rw [seal_13, hD]⟩
 clear hD
 obtain ⟨bb, hbb⟩ : ∃ b, b13 = b := ⟨_, rfl⟩
 have HBB : Aside0 (strongroomref13_Bytes.f 20 1 3 1 bA 0 = some bb) := ⟨by rw [← hbb]; exact refbytes_13⟩
 rw [hbb] at HSL
 clear hbb
 have HL := HL4
 have HC := HC4
 replace HC : Aside0 (Kd.C k64 w4.drew (some ⟨gA, 0, none⟩) 1 [(⟨1, 3, 1, bA, 0⟩ : S64)]) := ⟨Kd.C_drew HC.out⟩
 replace HL : Aside0 (Below w.heap.size w w4.drew) := ⟨below_drew HL.out⟩
 clear HL4 HC4 HB4
 refine start_ (n := 27) (S := fun w' => w'.cell? ⟨g1, 0, none⟩ = some (.string z32) ∧ w'.cell? ⟨g1, 1, none⟩ = some (.int .i64 1) ∧ w'.cell? ⟨g1, 2, none⟩ = some (.slice (some ⟨gA, 0, none⟩) 1 cA) ∧ w'.cell? ⟨gA, 0, none⟩ = some (.int .i64 1) ∧ w'.cell? ⟨gA, 1, none⟩ = some (.int .i64 3) ∧ w'.cell? ⟨gA, 2, none⟩ = some (.int .i64 1) ∧ w'.cell? ⟨gA, 3, none⟩ = some (.string bA) ∧ w'.cell? ⟨gA, 4, none⟩ = some (.int .i64 0)) (ds := []) #[false, false, false, false, false, false, false, false, false, false, false, false, false, false, false, false, false, false, false, false, false, false, false, false, false, false, false] (by kernel_rfl) rfl rfl ⟨c10, c11, c12, d0, d1, d2, d3, d4⟩ (fun hHeld => ?_)
 refine pure_ (i := 0) (N := some 9) (v := ?_) (a' := ?_) #[true, false, false, false, false, false, false, false, false, false, false, false, false, false, false, false, false, false, false, false, false, false, false, false, false, false, false] rfl rfl (by kernel_rfl) (fun _ _ _ h => h) (Or.inl ⟨by rfl, ?_⟩) ?_ ?_
 rotate_left
 ·intro w'
  go_simp
  with_reducible rfl
 rotate_left
 ·simp only [Act.put, List.setIfInBounds_toArray, List.set_cons_zero, List.set_cons_succ, i64_w, i32_w]
  rfl
 refine pure_ (i := 1) (N := some 10) (v := ?_) (a' := ?_) #[true, true, false, false, false, false, false, false, false, false, false, false, false, false, false, false, false, false, false, false, false, false, false, false, false, false, false] rfl rfl (by kernel_rfl) (fun _ _ _ h => h) (Or.inl ⟨by rfl, ?_⟩) ?_ ?_
 rotate_left
 ·intro w'
  go_simp
  with_reducible rfl
 rotate_left
 ·simp only [Act.put, List.setIfInBounds_toArray, List.set_cons_zero, List.set_cons_succ, i64_w, i32_w]
  rfl
 refine pure_ (i := 2) (N := some 11) (v := ?_) (a' := ?_) #[true, true, true, false, false, false, false, false, false, false, false, false, false, false, false, false, false, false, false, false, false, false, false, false, false, false, false] rfl rfl (by kernel_rfl) (fun _ _ _ h => h) (Or.inl ⟨by rfl, ?_⟩) ?_ ?_
 rotate_left
 ·intro w'
  go_simp
  with_reducible rfl
 rotate_left
 ·simp only [Act.put, List.setIfInBounds_toArray, List.set_cons_zero, List.set_cons_succ, i64_w, i32_w]
  rfl
 refine pure_ (i := 3) (N := some 12) (v := ?_) (a' := ?_) #[true, true, true, true, false, false, false, false, false, false, false, false, false, false, false, false, false, false, false, false, false, false, false, false, false, false, false] rfl rfl (by kernel_rfl) (fun _ _ _ h => h) (Or.inl ⟨by rfl, ?_⟩) ?_ ?_
 rotate_left
 ·intro w'
  go_simp
  with_reducible rfl
 rotate_left
 ·simp only [Act.put, List.setIfInBounds_toArray, List.set_cons_zero, List.set_cons_succ, i64_w, i32_w]
  rfl
 refine take_ (i := 4) (N := some 13) (v := ?_) (a' := ?_) #[true, true, true, true, true, false, false, false, false, false, false, false, false, false, false, false, false, false, false, false, false, false, false, false, false, false, false] rfl rfl (by kernel_rfl) (fun _ _ _ h => h) (Or.inl ⟨by rfl, ?_⟩) hHeld ?_ ?_
 rotate_left
 ·rintro w' ⟨s0, s1, s2, s3, s4, s5, s6, s7⟩
  go_simp
  with_reducible rfl
 rotate_left
 ·simp only [Act.put, List.setIfInBounds_toArray, List.set_cons_zero, List.set_cons_succ, i64_w, i32_w]
  rfl
 refine pure_ (i := 5) (N := some 14) (v := ?_) (a' := ?_) #[true, true, true, true, true, true, false, false, false, false, false, false, false, false, false, false, false, false, false, false, false, false, false, false, false, false, false] rfl rfl (by kernel_rfl) (fun _ _ _ h => h) (Or.inl ⟨by rfl, ?_⟩) ?_ ?_
 rotate_left
 ·intro w'
  go_simp
  with_reducible rfl
 rotate_left
 ·simp only [Act.put, List.setIfInBounds_toArray, List.set_cons_zero, List.set_cons_succ, i64_w, i32_w]
  rfl
 refine pure_ (i := 6) (N := some 15) (v := ?_) (a' := ?_) #[true, true, true, true, true, true, true, false, false, false, false, false, false, false, false, false, false, false, false, false, false, false, false, false, false, false, false] rfl rfl (by kernel_rfl) (fun _ _ _ h => h) (Or.inl ⟨by rfl, ?_⟩) ?_ ?_
 rotate_left
 ·intro w'
  go_simp
  with_reducible rfl
 rotate_left
 ·simp only [Act.put, List.setIfInBounds_toArray, List.set_cons_zero, List.set_cons_succ, i64_w, i32_w]
  rfl
 refine pure_ (i := 7) (N := some 16) (v := ?_) (a' := ?_) #[true, true, true, true, true, true, true, true, false, false, false, false, false, false, false, false, false, false, false, false, false, false, false, false, false, false, false] rfl rfl (by kernel_rfl) (fun _ _ _ h => h) (Or.inl ⟨by rfl, ?_⟩) ?_ ?_
 rotate_left
 ·intro w'
  go_simp
  with_reducible rfl
 rotate_left
 ·simp only [Act.put, List.setIfInBounds_toArray, List.set_cons_zero, List.set_cons_succ, i64_w, i32_w]
  rfl
 refine pure_ (i := 8) (N := some 17) (v := ?_) (a' := ?_) #[true, true, true, true, true, true, true, true, true, false, false, false, false, false, false, false, false, false, false, false, false, false, false, false, false, false, false] rfl rfl (by kernel_rfl) (fun _ _ _ h => h) (Or.inl ⟨by rfl, ?_⟩) ?_ ?_
 rotate_left
 ·intro w'
  go_simp
  with_reducible rfl
 rotate_left
 ·simp only [Act.put, List.setIfInBounds_toArray, List.set_cons_zero, List.set_cons_succ, i64_w, i32_w]
  rfl
 refine take_ (i := 9) (N := some 18) (v := ?_) (a' := ?_) #[true, true, true, true, true, true, true, true, true, true, false, false, false, false, false, false, false, false, false, false, false, false, false, false, false, false, false] rfl rfl (by kernel_rfl) (fun _ _ _ h => h) (Or.inl ⟨by rfl, ?_⟩) hHeld ?_ ?_
 rotate_left
 ·rintro w' ⟨s0, s1, s2, s3, s4, s5, s6, s7⟩
  go_simp
  with_reducible rfl
 rotate_left
 ·simp only [Act.put, List.setIfInBounds_toArray, List.set_cons_zero, List.set_cons_succ, i64_w, i32_w]
  rfl
 refine pure_ (i := 10) (N := some 19) (v := ?_) (a' := ?_) #[true, true, true, true, true, true, true, true, true, true, true, false, false, false, false, false, false, false, false, false, false, false, false, false, false, false, false] rfl rfl (by kernel_rfl) (fun _ _ _ h => h) (Or.inl ⟨by rfl, ?_⟩) ?_ ?_
 rotate_left
 ·intro w'
  go_simp
  with_reducible rfl
 rotate_left
 ·simp only [Act.put, List.setIfInBounds_toArray, List.set_cons_zero, List.set_cons_succ, i64_w, i32_w]
  rfl
 refine pure_ (i := 11) (N := some 20) (v := ?_) (a' := ?_) #[true, true, true, true, true, true, true, true, true, true, true, true, false, false, false, false, false, false, false, false, false, false, false, false, false, false, false] rfl rfl (by kernel_rfl) (fun _ _ _ h => h) (Or.inl ⟨by rfl, ?_⟩) ?_ ?_
 rotate_left
 ·intro w'
  go_simp
  with_reducible rfl
 rotate_left
 ·simp only [Act.put, List.setIfInBounds_toArray, List.set_cons_zero, List.set_cons_succ, i64_w, i32_w]
  rfl
 refine pure_ (i := 12) (N := some 21) (v := ?_) (a' := ?_) #[true, true, true, true, true, true, true, true, true, true, true, true, true, false, false, false, false, false, false, false, false, false, false, false, false, false, false] rfl rfl (by kernel_rfl) (fun _ _ _ h => h) (Or.inl ⟨by rfl, ?_⟩) ?_ ?_
 rotate_left
 ·intro w'
  go_simp
  with_reducible rfl
 rotate_left
 ·simp only [Act.put, List.setIfInBounds_toArray, List.set_cons_zero, List.set_cons_succ, i64_w, i32_w]
  rfl
 refine pure_ (i := 13) (N := some 22) (v := ?_) (a' := ?_) #[true, true, true, true, true, true, true, true, true, true, true, true, true, true, false, false, false, false, false, false, false, false, false, false, false, false, false] rfl rfl (by kernel_rfl) (fun _ _ _ h => h) (Or.inl ⟨by rfl, ?_⟩) ?_ ?_
 rotate_left
 ·intro w'
  go_simp
  with_reducible rfl
 rotate_left
 ·simp only [Act.put, List.setIfInBounds_toArray, List.set_cons_zero, List.set_cons_succ, i64_w, i32_w]
  rfl
 refine pure_ (i := 18) (N := some 27) (v := ?_) (a' := ?_) #[true, true, true, true, true, true, true, true, true, true, true, true, true, true, false, false, false, false, true, false, false, false, false, false, false, false, false] rfl rfl (by kernel_rfl) (fun _ _ _ h => h) (Or.inl ⟨by rfl, ?_⟩) ?_ ?_
 rotate_left
 ·intro w'
  go_simp
  with_reducible rfl
 rotate_left
 ·simp only [Act.put, List.setIfInBounds_toArray, List.set_cons_zero, List.set_cons_succ, i64_w, i32_w]
  rfl
 refine take_ (i := 14) (N := some 23) (v := ?_) (a' := ?_) #[true, true, true, true, true, true, true, true, true, true, true, true, true, true, true, false, false, false, true, false, false, false, false, false, false, false, false] rfl rfl (by kernel_rfl) (fun _ _ _ h => h) (Or.inl ⟨by rfl, ?_⟩) hHeld ?_ ?_
 rotate_left
 ·rintro w' ⟨s0, s1, s2, s3, s4, s5, s6, s7⟩
  go_simp
  with_reducible rfl
 rotate_left
 ·simp only [Act.put, List.setIfInBounds_toArray, List.set_cons_zero, List.set_cons_succ, i64_w, i32_w]
  rfl
 refine take_ (i := 19) (N := some 28) (v := ?_) (a' := ?_) #[true, true, true, true, true, true, true, true, true, true, true, true, true, true, true, false, false, false, true, true, false, false, false, false, false, false, false] rfl rfl (by kernel_rfl) (fun _ _ _ h => h) (Or.inl ⟨by rfl, ?_⟩) hHeld ?_ ?_
 rotate_left
 ·rintro w' ⟨s0, s1, s2, s3, s4, s5, s6, s7⟩
  go_simp
  with_reducible rfl
 rotate_left
 ·simp only [Act.put, List.setIfInBounds_toArray, List.set_cons_zero, List.set_cons_succ, i64_w, i32_w]
  rfl
 refine pure_ (i := 20) (N := some 29) (v := ?_) (a' := ?_) #[true, true, true, true, true, true, true, true, true, true, true, true, true, true, true, false, false, false, true, true, true, false, false, false, false, false, false] rfl rfl (by kernel_rfl) (fun _ _ _ h => h) (Or.inl ⟨by rfl, ?_⟩) ?_ ?_
 rotate_left
 ·intro w'
  go_simp
  with_reducible rfl
 rotate_left
 ·simp only [Act.put, List.setIfInBounds_toArray, List.set_cons_zero, List.set_cons_succ, i64_w, i32_w]
  rfl
 refine take_ (i := 21) (N := some 30) (v := ?_) (a' := ?_) #[true, true, true, true, true, true, true, true, true, true, true, true, true, true, true, false, false, false, true, true, true, true, false, false, false, false, false] rfl rfl (by kernel_rfl) (fun _ _ _ h => h) (Or.inl ⟨by rfl, ?_⟩) hHeld ?_ ?_
 rotate_left
 ·rintro w' ⟨s0, s1, s2, s3, s4, s5, s6, s7⟩
  go_simp
  with_reducible rfl
 rotate_left
 ·simp only [Act.put, List.setIfInBounds_toArray, List.set_cons_zero, List.set_cons_succ, i64_w, i32_w]
  rfl
 refine join_ (σ := Nat) 4 #[true, true, true, true, true, true, true, true, true, true, true, true, true, true, true, true, true, true, true, true, true, true, true, false, false, false, false] (fun gM => [(24, .string D), (25, .slice (some ⟨gM, 0, none⟩) 32 32), (26, .string z32), (31, .string bb)]) (fun gM w' => w'.cell? ⟨g1, 0, none⟩ = some (.string z32) ∧ w'.cell? ⟨g1, 1, none⟩ = some (.int .i64 1) ∧ w'.cell? ⟨g1, 2, none⟩ = some (.slice (some ⟨gA, 0, none⟩) 1 cA) ∧ w'.cell? ⟨gA, 0, none⟩ = some (.int .i64 1) ∧ w'.cell? ⟨gA, 1, none⟩ = some (.int .i64 3) ∧ w'.cell? ⟨gA, 2, none⟩ = some (.int .i64 1) ∧ w'.cell? ⟨gA, 3, none⟩ = some (.string bA) ∧ w'.cell? ⟨gA, 4, none⟩ = some (.int .i64 0) ∧ Aside0 (Below w.heap.size w w')) ?_ ?_
 rotate_left
 ·intro hCont
  refine two_ (i := 15) (j := 16) (Ni := some 24) (Nj := some 25) #[true, true, true, true, true, true, true, true, true, true, true, true, true, true, true, true, false, false, true, true, true, true, false, false, false, false, false] #[true, true, true, true, true, true, true, true, true, true, true, true, true, true, true, false, true, false, true, true, true, true, false, false, false, false, false] rfl rfl rfl rfl (by kernel_rfl) (by decide) (by decide) (fun K hK => ?_) (fun K hK => ?_)
  ·skip
   refine goes_ Try.func44 (by kernel_rfl) rfl #[.agg #[.string z32, .int .i64 1, .slice (some ⟨gA, 0, none⟩) 1 cA]] (by rfl) rfl rfl (by simp only [List.map_toArray, List.map_cons, List.map_nil]; rfl) ?_
   refine (audit_Digest.calls 20 z32 1 (some ⟨gA, 0, none⟩) cA [(⟨1, 3, 1, bA, 0⟩ : S64)] D w4.drew HC.out HCA.out HDG.out).mono ?_
   rintro e y15 ⟨rfl, hb⟩
   refine ⟨_, rfl, ?_⟩
   have c10_15 : y15.cell? ⟨g1, 0, none⟩ = some (.string z32) := pw_cell_below hb c10
   have c11_15 : y15.cell? ⟨g1, 1, none⟩ = some (.int .i64 1) := pw_cell_below hb c11
   have c12_15 : y15.cell? ⟨g1, 2, none⟩ = some (.slice (some ⟨gA, 0, none⟩) 1 cA) := pw_cell_below hb c12
   have d0_15 : y15.cell? ⟨gA, 0, none⟩ = some (.int .i64 1) := pw_cell_below hb d0
   have d1_15 : y15.cell? ⟨gA, 1, none⟩ = some (.int .i64 3) := pw_cell_below hb d1
   have d2_15 : y15.cell? ⟨gA, 2, none⟩ = some (.int .i64 1) := pw_cell_below hb d2
   have d3_15 : y15.cell? ⟨gA, 3, none⟩ = some (.string bA) := pw_cell_below hb d3
   have d4_15 : y15.cell? ⟨gA, 4, none⟩ = some (.int .i64 0) := pw_cell_below hb d4
   have HC_15 : Aside0 (Kd.C k64 y15 (some ⟨gA, 0, none⟩) 1 [(⟨1, 3, 1, bA, 0⟩ : S64)]) := ⟨Kd.C_below HC.out hb⟩
   have HL_15 : Aside0 (Below w.heap.size w y15) := ⟨below_step HL.out hb⟩
   clear hb
   refine hK.out _ _ ⟨c10_15, c11_15, c12_15, d0_15, d1_15, d2_15, d3_15, d4_15⟩ (fun hHeld => ?_)
   clear hK K
   refine norm_ (a' := ?_) ?_ ?_
   rotate_left
   ·show Act.put _ (some 24) _ = _
    simp only [Act.put, List.setIfInBounds_toArray, List.set_cons_zero, List.set_cons_succ, i64_w, i32_w]
    rfl
   refine two_ (i := 16) (j := 22) (Ni := some 25) (Nj := some 31) #[true, true, true, true, true, true, true, true, true, true, true, true, true, true, true, true, true, false, true, true, true, true, false, false, false, false, false] #[true, true, true, true, true, true, true, true, true, true, true, true, true, true, true, true, false, false, true, true, true, true, true, false, false, false, false] rfl rfl rfl rfl (by kernel_rfl) (by decide) (by decide) (fun K hK => ?_) (fun K hK => ?_)
   ·skip
    obtain ⟨gM, hgM⟩ : ∃ g, y15.heap.size = g := ⟨_, rfl⟩
    obtain ⟨y15_16, hy⟩ : ∃ y, y15.alloc (.cells mc 5) = y := ⟨_, rfl⟩
    have hmk : (Instr.makeSlice 23 (.int .i64 32) (.int .i64 32)).run Try.prog y15 = .ok (.slice (some ⟨gM, 0, none⟩) 32 32) y15_16 := by rw [← hgM, ← hy]; exact HMK.out _
    have HO_15_16 : Aside0 (y15_16.ownsRow 0 5 1 (.slice (some ⟨gM, 0, none⟩) 32 32) 32 (nums .u8 (List.replicate 32 0))) := ⟨by rw [← hgM, ← hy]; exact HMO.out _⟩
    have hb : Below y15.heap.size y15 y15_16 := by rw [← hy]; exact below_alloc (Below.refl _ _) _
    refine value_ (w1 := y15_16) (v := .slice (some ⟨gM, 0, none⟩) 32 32) (by rfl) rfl ?_ ?_
    ·go_simp
    clear hmk hy hgM
    have c10_15_16 : y15_16.cell? ⟨g1, 0, none⟩ = some (.string z32) := pw_cell_below hb c10_15
    have c11_15_16 : y15_16.cell? ⟨g1, 1, none⟩ = some (.int .i64 1) := pw_cell_below hb c11_15
    have c12_15_16 : y15_16.cell? ⟨g1, 2, none⟩ = some (.slice (some ⟨gA, 0, none⟩) 1 cA) := pw_cell_below hb c12_15
    have d0_15_16 : y15_16.cell? ⟨gA, 0, none⟩ = some (.int .i64 1) := pw_cell_below hb d0_15
    have d1_15_16 : y15_16.cell? ⟨gA, 1, none⟩ = some (.int .i64 3) := pw_cell_below hb d1_15
    have d2_15_16 : y15_16.cell? ⟨gA, 2, none⟩ = some (.int .i64 1) := pw_cell_below hb d2_15
    have d3_15_16 : y15_16.cell? ⟨gA, 3, none⟩ = some (.string bA) := pw_cell_below hb d3_15
    have d4_15_16 : y15_16.cell? ⟨gA, 4, none⟩ = some (.int .i64 0) := pw_cell_below hb d4_15
    have HC_15_16 : Aside0 (Kd.C k64 y15_16 (some ⟨gA, 0, none⟩) 1 [(⟨1, 3, 1, bA, 0⟩ : S64)]) := ⟨Kd.C_below HC_15.out hb⟩
    have HL_15_16 : Aside0 (Below w.heap.size w y15_16) := ⟨below_step HL_15.out hb⟩
    clear hb
    refine hK.out _ _ ⟨c10_15_16, c11_15_16, c12_15_16, d0_15_16, d1_15_16, d2_15_16, d3_15_16, d4_15_16⟩ (fun hHeld => ?_)
    clear hK K
    refine norm_ (a' := ?_) ?_ ?_
    rotate_left
    ·show Act.put _ (some 25) _ = _
     simp only [Act.put, List.setIfInBounds_toArray, List.set_cons_zero, List.set_cons_succ, i64_w, i32_w]
     rfl
    refine two_ (i := 17) (j := 22) (Ni := some 26) (Nj := some 31) #[true, true, true, true, true, true, true, true, true, true, true, true, true, true, true, true, true, true, true, true, true, true, false, false, false, false, false] #[true, true, true, true, true, true, true, true, true, true, true, true, true, true, true, true, true, false, true, true, true, true, true, false, false, false, false] rfl rfl rfl rfl (by kernel_rfl) (by decide) (by decide) (fun K hK => ?_) (fun K hK => ?_)
    ·skip
     have hcv : (convert 23 9 (.slice (some ⟨gM, 0, none⟩) 32 32)).run Try.prog y15_16 = .ok (.string z32) y15_16 := own_string (P := Try.prog) Try.underlying23 Try.underlying5 Try.underlying9 HO_15_16.out
     refine value_ (w1 := y15_16) (v := .string z32) (by rfl) rfl ?_ ?_
     ·go_simp
     clear hcv
     refine hK.out _ _ ⟨c10_15_16, c11_15_16, c12_15_16, d0_15_16, d1_15_16, d2_15_16, d3_15_16, d4_15_16⟩ (fun hHeld => ?_)
     clear hK K
     refine norm_ (a' := ?_) ?_ ?_
     rotate_left
     ·show Act.put _ (some 26) _ = _
      simp only [Act.put, List.setIfInBounds_toArray, List.set_cons_zero, List.set_cons_succ, i64_w, i32_w]
      rfl
     refine one_ (i := 22) (N := some 31) #[true, true, true, true, true, true, true, true, true, true, true, true, true, true, true, true, true, true, true, true, true, true, true, false, false, false, false] rfl rfl (by kernel_rfl) (by decide) (fun K hK => ?_)
     refine goes_ Try.func48 (by kernel_rfl) rfl #[.agg #[.int .i64 1, .int .i64 3, .int .i64 1, .string bA, .int .i64 0]] (by rfl) rfl rfl (by simp only [List.map_toArray, List.map_cons, List.map_nil]; rfl) ?_
     refine (strongroomref13_Bytes.calls 20 1 3 1 bA 0 bb y15_16 HBB.out).mono ?_
     rintro e y15_16_22 ⟨rfl, hb⟩
     refine ⟨_, rfl, ?_⟩
     have c10_15_16_22 : y15_16_22.cell? ⟨g1, 0, none⟩ = some (.string z32) := pw_cell_below hb c10_15_16
     have c11_15_16_22 : y15_16_22.cell? ⟨g1, 1, none⟩ = some (.int .i64 1) := pw_cell_below hb c11_15_16
     have c12_15_16_22 : y15_16_22.cell? ⟨g1, 2, none⟩ = some (.slice (some ⟨gA, 0, none⟩) 1 cA) := pw_cell_below hb c12_15_16
     have d0_15_16_22 : y15_16_22.cell? ⟨gA, 0, none⟩ = some (.int .i64 1) := pw_cell_below hb d0_15_16
     have d1_15_16_22 : y15_16_22.cell? ⟨gA, 1, none⟩ = some (.int .i64 3) := pw_cell_below hb d1_15_16
     have d2_15_16_22 : y15_16_22.cell? ⟨gA, 2, none⟩ = some (.int .i64 1) := pw_cell_below hb d2_15_16
     have d3_15_16_22 : y15_16_22.cell? ⟨gA, 3, none⟩ = some (.string bA) := pw_cell_below hb d3_15_16
     have d4_15_16_22 : y15_16_22.cell? ⟨gA, 4, none⟩ = some (.int .i64 0) := pw_cell_below hb d4_15_16
     have HC_15_16_22 : Aside0 (Kd.C k64 y15_16_22 (some ⟨gA, 0, none⟩) 1 [(⟨1, 3, 1, bA, 0⟩ : S64)]) := ⟨Kd.C_below HC_15_16.out hb⟩
     have HL_15_16_22 : Aside0 (Below w.heap.size w y15_16_22) := ⟨below_step HL_15_16.out hb⟩
     have HO_15_16_22 : Aside0 (y15_16_22.ownsRow 0 5 1 (.slice (some ⟨gM, 0, none⟩) 32 32) 32 (nums .u8 (List.replicate 32 0))) := ⟨pw_own_below HO_15_16.out hb⟩
     clear hb
     refine hK.out _ _ ⟨c10_15_16_22, c11_15_16_22, c12_15_16_22, d0_15_16_22, d1_15_16_22, d2_15_16_22, d3_15_16_22, d4_15_16_22⟩ (fun hHeld => ?_)
     clear hK K
     refine norm_ (a' := ?_) ?_ ?_
     rotate_left
     ·show Act.put _ (some 31) _ = _
      simp only [Act.put, List.setIfInBounds_toArray, List.set_cons_zero, List.set_cons_succ, i64_w, i32_w]
      rfl
     exact norm_ (by simp only [putAll, Act.put, List.setIfInBounds_toArray, List.set_cons_zero, List.set_cons_succ]) (hCont gM _ ⟨c10_15_16_22, c11_15_16_22, c12_15_16_22, d0_15_16_22, d1_15_16_22, d2_15_16_22, d3_15_16_22, d4_15_16_22, HL_15_16_22⟩)
    ·skip
     refine goes_ Try.func48 (by kernel_rfl) rfl #[.agg #[.int .i64 1, .int .i64 3, .int .i64 1, .string bA, .int .i64 0]] (by rfl) rfl rfl (by simp only [List.map_toArray, List.map_cons, List.map_nil]; rfl) ?_
     refine (strongroomref13_Bytes.calls 20 1 3 1 bA 0 bb y15_16 HBB.out).mono ?_
     rintro e y15_16_22 ⟨rfl, hb⟩
     refine ⟨_, rfl, ?_⟩
     have c10_15_16_22 : y15_16_22.cell? ⟨g1, 0, none⟩ = some (.string z32) := pw_cell_below hb c10_15_16
     have c11_15_16_22 : y15_16_22.cell? ⟨g1, 1, none⟩ = some (.int .i64 1) := pw_cell_below hb c11_15_16
     have c12_15_16_22 : y15_16_22.cell? ⟨g1, 2, none⟩ = some (.slice (some ⟨gA, 0, none⟩) 1 cA) := pw_cell_below hb c12_15_16
     have d0_15_16_22 : y15_16_22.cell? ⟨gA, 0, none⟩ = some (.int .i64 1) := pw_cell_below hb d0_15_16
     have d1_15_16_22 : y15_16_22.cell? ⟨gA, 1, none⟩ = some (.int .i64 3) := pw_cell_below hb d1_15_16
     have d2_15_16_22 : y15_16_22.cell? ⟨gA, 2, none⟩ = some (.int .i64 1) := pw_cell_below hb d2_15_16
     have d3_15_16_22 : y15_16_22.cell? ⟨gA, 3, none⟩ = some (.string bA) := pw_cell_below hb d3_15_16
     have d4_15_16_22 : y15_16_22.cell? ⟨gA, 4, none⟩ = some (.int .i64 0) := pw_cell_below hb d4_15_16
     have HC_15_16_22 : Aside0 (Kd.C k64 y15_16_22 (some ⟨gA, 0, none⟩) 1 [(⟨1, 3, 1, bA, 0⟩ : S64)]) := ⟨Kd.C_below HC_15_16.out hb⟩
     have HL_15_16_22 : Aside0 (Below w.heap.size w y15_16_22) := ⟨below_step HL_15_16.out hb⟩
     have HO_15_16_22 : Aside0 (y15_16_22.ownsRow 0 5 1 (.slice (some ⟨gM, 0, none⟩) 32 32) 32 (nums .u8 (List.replicate 32 0))) := ⟨pw_own_below HO_15_16.out hb⟩
     clear hb
     refine hK.out _ _ ⟨c10_15_16_22, c11_15_16_22, c12_15_16_22, d0_15_16_22, d1_15_16_22, d2_15_16_22, d3_15_16_22, d4_15_16_22⟩ (fun hHeld => ?_)
     clear hK K
     refine norm_ (a' := ?_) ?_ ?_
     rotate_left
     ·show Act.put _ (some 31) _ = _
      simp only [Act.put, List.setIfInBounds_toArray, List.set_cons_zero, List.set_cons_succ, i64_w, i32_w]
      rfl
     refine one_ (i := 17) (N := some 26) #[true, true, true, true, true, true, true, true, true, true, true, true, true, true, true, true, true, true, true, true, true, true, true, false, false, false, false] rfl rfl (by kernel_rfl) (by decide) (fun K hK => ?_)
     have hcv : (convert 23 9 (.slice (some ⟨gM, 0, none⟩) 32 32)).run Try.prog y15_16_22 = .ok (.string z32) y15_16_22 := own_string (P := Try.prog) Try.underlying23 Try.underlying5 Try.underlying9 HO_15_16_22.out
     refine value_ (w1 := y15_16_22) (v := .string z32) (by rfl) rfl ?_ ?_
     ·go_simp
     clear hcv
     refine hK.out _ _ ⟨c10_15_16_22, c11_15_16_22, c12_15_16_22, d0_15_16_22, d1_15_16_22, d2_15_16_22, d3_15_16_22, d4_15_16_22⟩ (fun hHeld => ?_)
     clear hK K
     refine norm_ (a' := ?_) ?_ ?_
     rotate_left
     ·show Act.put _ (some 26) _ = _
      simp only [Act.put, List.setIfInBounds_toArray, List.set_cons_zero, List.set_cons_succ, i64_w, i32_w]
      rfl
     exact norm_ (by simp only [putAll, Act.put, List.setIfInBounds_toArray, List.set_cons_zero, List.set_cons_succ]) (hCont gM _ ⟨c10_15_16_22, c11_15_16_22, c12_15_16_22, d0_15_16_22, d1_15_16_22, d2_15_16_22, d3_15_16_22, d4_15_16_22, HL_15_16_22⟩)
   ·skip
    refine goes_ Try.func48 (by kernel_rfl) rfl #[.agg #[.int .i64 1, .int .i64 3, .int .i64 1, .string bA, .int .i64 0]] (by rfl) rfl rfl (by simp only [List.map_toArray, List.map_cons, List.map_nil]; rfl) ?_
    refine (strongroomref13_Bytes.calls 20 1 3 1 bA 0 bb y15 HBB.out).mono ?_
    rintro e y15_22 ⟨rfl, hb⟩
    refine ⟨_, rfl, ?_⟩
    have c10_15_22 : y15_22.cell? ⟨g1, 0, none⟩ = some (.string z32) := pw_cell_below hb c10_15
    have c11_15_22 : y15_22.cell? ⟨g1, 1, none⟩ = some (.int .i64 1) := pw_cell_below hb c11_15
    have c12_15_22 : y15_22.cell? ⟨g1, 2, none⟩ = some (.slice (some ⟨gA, 0, none⟩) 1 cA) := pw_cell_below hb c12_15
    have d0_15_22 : y15_22.cell? ⟨gA, 0, none⟩ = some (.int .i64 1) := pw_cell_below hb d0_15
    have d1_15_22 : y15_22.cell? ⟨gA, 1, none⟩ = some (.int .i64 3) := pw_cell_below hb d1_15
    have d2_15_22 : y15_22.cell? ⟨gA, 2, none⟩ = some (.int .i64 1) := pw_cell_below hb d2_15
    have d3_15_22 : y15_22.cell? ⟨gA, 3, none⟩ = some (.string bA) := pw_cell_below hb d3_15
    have d4_15_22 : y15_22.cell? ⟨gA, 4, none⟩ = some (.int .i64 0) := pw_cell_below hb d4_15
    have HC_15_22 : Aside0 (Kd.C k64 y15_22 (some ⟨gA, 0, none⟩) 1 [(⟨1, 3, 1, bA, 0⟩ : S64)]) := ⟨Kd.C_below HC_15.out hb⟩
    have HL_15_22 : Aside0 (Below w.heap.size w y15_22) := ⟨below_step HL_15.out hb⟩
    clear hb
    refine hK.out _ _ ⟨c10_15_22, c11_15_22, c12_15_22, d0_15_22, d1_15_22, d2_15_22, d3_15_22, d4_15_22⟩ (fun hHeld => ?_)
    clear hK K
    refine norm_ (a' := ?_) ?_ ?_
    rotate_left
    ·show Act.put _ (some 31) _ = _
     simp only [Act.put, List.setIfInBounds_toArray, List.set_cons_zero, List.set_cons_succ, i64_w, i32_w]
     rfl
    refine one_ (i := 16) (N := some 25) #[true, true, true, true, true, true, true, true, true, true, true, true, true, true, true, true, true, false, true, true, true, true, true, false, false, false, false] rfl rfl (by kernel_rfl) (by decide) (fun K hK => ?_)
    obtain ⟨gM, hgM⟩ : ∃ g, y15_22.heap.size = g := ⟨_, rfl⟩
    obtain ⟨y15_22_16, hy⟩ : ∃ y, y15_22.alloc (.cells mc 5) = y := ⟨_, rfl⟩
    have hmk : (Instr.makeSlice 23 (.int .i64 32) (.int .i64 32)).run Try.prog y15_22 = .ok (.slice (some ⟨gM, 0, none⟩) 32 32) y15_22_16 := by rw [← hgM, ← hy]; exact HMK.out _
    have HO_15_22_16 : Aside0 (y15_22_16.ownsRow 0 5 1 (.slice (some ⟨gM, 0, none⟩) 32 32) 32 (nums .u8 (List.replicate 32 0))) := ⟨by rw [← hgM, ← hy]; exact HMO.out _⟩
    have hb : Below y15_22.heap.size y15_22 y15_22_16 := by rw [← hy]; exact below_alloc (Below.refl _ _) _
    refine value_ (w1 := y15_22_16) (v := .slice (some ⟨gM, 0, none⟩) 32 32) (by rfl) rfl ?_ ?_
    ·go_simp
    clear hmk hy hgM
    have c10_15_22_16 : y15_22_16.cell? ⟨g1, 0, none⟩ = some (.string z32) := pw_cell_below hb c10_15_22
    have c11_15_22_16 : y15_22_16.cell? ⟨g1, 1, none⟩ = some (.int .i64 1) := pw_cell_below hb c11_15_22
    have c12_15_22_16 : y15_22_16.cell? ⟨g1, 2, none⟩ = some (.slice (some ⟨gA, 0, none⟩) 1 cA) := pw_cell_below hb c12_15_22
    have d0_15_22_16 : y15_22_16.cell? ⟨gA, 0, none⟩ = some (.int .i64 1) := pw_cell_below hb d0_15_22
    have d1_15_22_16 : y15_22_16.cell? ⟨gA, 1, none⟩ = some (.int .i64 3) := pw_cell_below hb d1_15_22
    have d2_15_22_16 : y15_22_16.cell? ⟨gA, 2, none⟩ = some (.int .i64 1) := pw_cell_below hb d2_15_22
    have d3_15_22_16 : y15_22_16.cell? ⟨gA, 3, none⟩ = some (.string bA) := pw_cell_below hb d3_15_22
    have d4_15_22_16 : y15_22_16.cell? ⟨gA, 4, none⟩ = some (.int .i64 0) := pw_cell_below hb d4_15_22
    have HC_15_22_16 : Aside0 (Kd.C k64 y15_22_16 (some ⟨gA, 0, none⟩) 1 [(⟨1, 3, 1, bA, 0⟩ : S64)]) := ⟨Kd.C_below HC_15_22.out hb⟩
    have HL_15_22_16 : Aside0 (Below w.heap.size w y15_22_16) := ⟨below_step HL_15_22.out hb⟩
    clear hb
    refine hK.out _ _ ⟨c10_15_22_16, c11_15_22_16, c12_15_22_16, d0_15_22_16, d1_15_22_16, d2_15_22_16, d3_15_22_16, d4_15_22_16⟩ (fun hHeld => ?_)
    clear hK K
    refine norm_ (a' := ?_) ?_ ?_
    rotate_left
    ·show Act.put _ (some 25) _ = _
     simp only [Act.put, List.setIfInBounds_toArray, List.set_cons_zero, List.set_cons_succ, i64_w, i32_w]
     rfl
    refine one_ (i := 17) (N := some 26) #[true, true, true, true, true, true, true, true, true, true, true, true, true, true, true, true, true, true, true, true, true, true, true, false, false, false, false] rfl rfl (by kernel_rfl) (by decide) (fun K hK => ?_)
    have hcv : (convert 23 9 (.slice (some ⟨gM, 0, none⟩) 32 32)).run Try.prog y15_22_16 = .ok (.string z32) y15_22_16 := own_string (P := Try.prog) Try.underlying23 Try.underlying5 Try.underlying9 HO_15_22_16.out
    refine value_ (w1 := y15_22_16) (v := .string z32) (by rfl) rfl ?_ ?_
    ·go_simp
    clear hcv
    refine hK.out _ _ ⟨c10_15_22_16, c11_15_22_16, c12_15_22_16, d0_15_22_16, d1_15_22_16, d2_15_22_16, d3_15_22_16, d4_15_22_16⟩ (fun hHeld => ?_)
    clear hK K
    refine norm_ (a' := ?_) ?_ ?_
    rotate_left
    ·show Act.put _ (some 26) _ = _
     simp only [Act.put, List.setIfInBounds_toArray, List.set_cons_zero, List.set_cons_succ, i64_w, i32_w]
     rfl
    exact norm_ (by simp only [putAll, Act.put, List.setIfInBounds_toArray, List.set_cons_zero, List.set_cons_succ]) (hCont gM _ ⟨c10_15_22_16, c11_15_22_16, c12_15_22_16, d0_15_22_16, d1_15_22_16, d2_15_22_16, d3_15_22_16, d4_15_22_16, HL_15_22_16⟩)
  ·skip
   obtain ⟨gM, hgM⟩ : ∃ g, w4.drew.heap.size = g := ⟨_, rfl⟩
   obtain ⟨y16, hy⟩ : ∃ y, w4.drew.alloc (.cells mc 5) = y := ⟨_, rfl⟩
   have hmk : (Instr.makeSlice 23 (.int .i64 32) (.int .i64 32)).run Try.prog w4.drew = .ok (.slice (some ⟨gM, 0, none⟩) 32 32) y16 := by rw [← hgM, ← hy]; exact HMK.out _
   have HO_16 : Aside0 (y16.ownsRow 0 5 1 (.slice (some ⟨gM, 0, none⟩) 32 32) 32 (nums .u8 (List.replicate 32 0))) := ⟨by rw [← hgM, ← hy]; exact HMO.out _⟩
   have hb : Below w4.drew.heap.size w4.drew y16 := by rw [← hy]; exact below_alloc (Below.refl _ _) _
   refine value_ (w1 := y16) (v := .slice (some ⟨gM, 0, none⟩) 32 32) (by rfl) rfl ?_ ?_
   ·go_simp
   clear hmk hy hgM
   have c10_16 : y16.cell? ⟨g1, 0, none⟩ = some (.string z32) := pw_cell_below hb c10
   have c11_16 : y16.cell? ⟨g1, 1, none⟩ = some (.int .i64 1) := pw_cell_below hb c11
   have c12_16 : y16.cell? ⟨g1, 2, none⟩ = some (.slice (some ⟨gA, 0, none⟩) 1 cA) := pw_cell_below hb c12
   have d0_16 : y16.cell? ⟨gA, 0, none⟩ = some (.int .i64 1) := pw_cell_below hb d0
   have d1_16 : y16.cell? ⟨gA, 1, none⟩ = some (.int .i64 3) := pw_cell_below hb d1
   have d2_16 : y16.cell? ⟨gA, 2, none⟩ = some (.int .i64 1) := pw_cell_below hb d2
   have d3_16 : y16.cell? ⟨gA, 3, none⟩ = some (.string bA) := pw_cell_below hb d3
   have d4_16 : y16.cell? ⟨gA, 4, none⟩ = some (.int .i64 0) := pw_cell_below hb d4
   have HC_16 : Aside0 (Kd.C k64 y16 (some ⟨gA, 0, none⟩) 1 [(⟨1, 3, 1, bA, 0⟩ : S64)]) := ⟨Kd.C_below HC.out hb⟩
   have HL_16 : Aside0 (Below w.heap.size w y16) := ⟨below_step HL.out hb⟩
   clear hb
   refine hK.out _ _ ⟨c10_16, c11_16, c12_16, d0_16, d1_16, d2_16, d3_16, d4_16⟩ (fun hHeld => ?_)
   clear hK K
   refine norm_ (a' := ?_) ?_ ?_
   rotate_left
   ·show Act.put _ (some 25) _ = _
    simp only [Act.put, List.setIfInBounds_toArray, List.set_cons_zero, List.set_cons_succ, i64_w, i32_w]
    rfl
   refine two_ (i := 15) (j := 17) (Ni := some 24) (Nj := some 26) #[true, true, true, true, true, true, true, true, true, true, true, true, true, true, true, true, true, false, true, true, true, true, false, false, false, false, false] #[true, true, true, true, true, true, true, true, true, true, true, true, true, true, true, false, true, true, true, true, true, true, false, false, false, false, false] rfl rfl rfl rfl (by kernel_rfl) (by decide) (by decide) (fun K hK => ?_) (fun K hK => ?_)
   ·skip
    refine goes_ Try.func44 (by kernel_rfl) rfl #[.agg #[.string z32, .int .i64 1, .slice (some ⟨gA, 0, none⟩) 1 cA]] (by rfl) rfl rfl (by simp only [List.map_toArray, List.map_cons, List.map_nil]; rfl) ?_
    refine (audit_Digest.calls 20 z32 1 (some ⟨gA, 0, none⟩) cA [(⟨1, 3, 1, bA, 0⟩ : S64)] D y16 HC_16.out HCA.out HDG.out).mono ?_
    rintro e y16_15 ⟨rfl, hb⟩
    refine ⟨_, rfl, ?_⟩
    have c10_16_15 : y16_15.cell? ⟨g1, 0, none⟩ = some (.string z32) := pw_cell_below hb c10_16
    have c11_16_15 : y16_15.cell? ⟨g1, 1, none⟩ = some (.int .i64 1) := pw_cell_below hb c11_16
    have c12_16_15 : y16_15.cell? ⟨g1, 2, none⟩ = some (.slice (some ⟨gA, 0, none⟩) 1 cA) := pw_cell_below hb c12_16
    have d0_16_15 : y16_15.cell? ⟨gA, 0, none⟩ = some (.int .i64 1) := pw_cell_below hb d0_16
    have d1_16_15 : y16_15.cell? ⟨gA, 1, none⟩ = some (.int .i64 3) := pw_cell_below hb d1_16
    have d2_16_15 : y16_15.cell? ⟨gA, 2, none⟩ = some (.int .i64 1) := pw_cell_below hb d2_16
    have d3_16_15 : y16_15.cell? ⟨gA, 3, none⟩ = some (.string bA) := pw_cell_below hb d3_16
    have d4_16_15 : y16_15.cell? ⟨gA, 4, none⟩ = some (.int .i64 0) := pw_cell_below hb d4_16
    have HC_16_15 : Aside0 (Kd.C k64 y16_15 (some ⟨gA, 0, none⟩) 1 [(⟨1, 3, 1, bA, 0⟩ : S64)]) := ⟨Kd.C_below HC_16.out hb⟩
    have HL_16_15 : Aside0 (Below w.heap.size w y16_15) := ⟨below_step HL_16.out hb⟩
    have HO_16_15 : Aside0 (y16_15.ownsRow 0 5 1 (.slice (some ⟨gM, 0, none⟩) 32 32) 32 (nums .u8 (List.replicate 32 0))) := ⟨pw_own_below HO_16.out hb⟩
    clear hb
    refine hK.out _ _ ⟨c10_16_15, c11_16_15, c12_16_15, d0_16_15, d1_16_15, d2_16_15, d3_16_15, d4_16_15⟩ (fun hHeld => ?_)
    clear hK K
    refine norm_ (a' := ?_) ?_ ?_
    rotate_left
    ·show Act.put _ (some 24) _ = _
     simp only [Act.put, List.setIfInBounds_toArray, List.set_cons_zero, List.set_cons_succ, i64_w, i32_w]
     rfl
    refine two_ (i := 17) (j := 22) (Ni := some 26) (Nj := some 31) #[true, true, true, true, true, true, true, true, true, true, true, true, true, true, true, true, true, true, true, true, true, true, false, false, false, false, false] #[true, true, true, true, true, true, true, true, true, true, true, true, true, true, true, true, true, false, true, true, true, true, true, false, false, false, false] rfl rfl rfl rfl (by kernel_rfl) (by decide) (by decide) (fun K hK => ?_) (fun K hK => ?_)
    ·skip
     have hcv : (convert 23 9 (.slice (some ⟨gM, 0, none⟩) 32 32)).run Try.prog y16_15 = .ok (.string z32) y16_15 := own_string (P := Try.prog) Try.underlying23 Try.underlying5 Try.underlying9 HO_16_15.out
     refine value_ (w1 := y16_15) (v := .string z32) (by rfl) rfl ?_ ?_
     ·go_simp
     clear hcv
     refine hK.out _ _ ⟨c10_16_15, c11_16_15, c12_16_15, d0_16_15, d1_16_15, d2_16_15, d3_16_15, d4_16_15⟩ (fun hHeld => ?_)
     clear hK K
     refine norm_ (a' := ?_) ?_ ?_
     rotate_left
     ·show Act.put _ (some 26) _ = _
      simp only [Act.put, List.setIfInBounds_toArray, List.set_cons_zero, List.set_cons_succ, i64_w, i32_w]
      rfl
     refine one_ (i := 22) (N := some 31) #[true, true, true, true, true, true, true, true, true, true, true, true, true, true, true, true, true, true, true, true, true, true, true, false, false, false, false] rfl rfl (by kernel_rfl) (by decide) (fun K hK => ?_)
     refine goes_ Try.func48 (by kernel_rfl) rfl #[.agg #[.int .i64 1, .int .i64 3, .int .i64 1, .string bA, .int .i64 0]] (by rfl) rfl rfl (by simp only [List.map_toArray, List.map_cons, List.map_nil]; rfl) ?_
     refine (strongroomref13_Bytes.calls 20 1 3 1 bA 0 bb y16_15 HBB.out).mono ?_
     rintro e y16_15_22 ⟨rfl, hb⟩
     refine ⟨_, rfl, ?_⟩
     have c10_16_15_22 : y16_15_22.cell? ⟨g1, 0, none⟩ = some (.string z32) := pw_cell_below hb c10_16_15
     have c11_16_15_22 : y16_15_22.cell? ⟨g1, 1, none⟩ = some (.int .i64 1) := pw_cell_below hb c11_16_15
     have c12_16_15_22 : y16_15_22.cell? ⟨g1, 2, none⟩ = some (.slice (some ⟨gA, 0, none⟩) 1 cA) := pw_cell_below hb c12_16_15
     have d0_16_15_22 : y16_15_22.cell? ⟨gA, 0, none⟩ = some (.int .i64 1) := pw_cell_below hb d0_16_15
     have d1_16_15_22 : y16_15_22.cell? ⟨gA, 1, none⟩ = some (.int .i64 3) := pw_cell_below hb d1_16_15
     have d2_16_15_22 : y16_15_22.cell? ⟨gA, 2, none⟩ = some (.int .i64 1) := pw_cell_below hb d2_16_15
     have d3_16_15_22 : y16_15_22.cell? ⟨gA, 3, none⟩ = some (.string bA) := pw_cell_below hb d3_16_15
     have d4_16_15_22 : y16_15_22.cell? ⟨gA, 4, none⟩ = some (.int .i64 0) := pw_cell_below hb d4_16_15
     have HC_16_15_22 : Aside0 (Kd.C k64 y16_15_22 (some ⟨gA, 0, none⟩) 1 [(⟨1, 3, 1, bA, 0⟩ : S64)]) := ⟨Kd.C_below HC_16_15.out hb⟩
     have HL_16_15_22 : Aside0 (Below w.heap.size w y16_15_22) := ⟨below_step HL_16_15.out hb⟩
     have HO_16_15_22 : Aside0 (y16_15_22.ownsRow 0 5 1 (.slice (some ⟨gM, 0, none⟩) 32 32) 32 (nums .u8 (List.replicate 32 0))) := ⟨pw_own_below HO_16_15.out hb⟩
     clear hb
     refine hK.out _ _ ⟨c10_16_15_22, c11_16_15_22, c12_16_15_22, d0_16_15_22, d1_16_15_22, d2_16_15_22, d3_16_15_22, d4_16_15_22⟩ (fun hHeld => ?_)
     clear hK K
     refine norm_ (a' := ?_) ?_ ?_
     rotate_left
     ·show Act.put _ (some 31) _ = _
      simp only [Act.put, List.setIfInBounds_toArray, List.set_cons_zero, List.set_cons_succ, i64_w, i32_w]
      rfl
     exact norm_ (by simp only [putAll, Act.put, List.setIfInBounds_toArray, List.set_cons_zero, List.set_cons_succ]) (hCont gM _ ⟨c10_16_15_22, c11_16_15_22, c12_16_15_22, d0_16_15_22, d1_16_15_22, d2_16_15_22, d3_16_15_22, d4_16_15_22, HL_16_15_22⟩)
    ·skip
     refine goes_ Try.func48 (by kernel_rfl) rfl #[.agg #[.int .i64 1, .int .i64 3, .int .i64 1, .string bA, .int .i64 0]] (by rfl) rfl rfl (by simp only [List.map_toArray, List.map_cons, List.map_nil]; rfl) ?_
     refine (strongroomref13_Bytes.calls 20 1 3 1 bA 0 bb y16_15 HBB.out).mono ?_
     rintro e y16_15_22 ⟨rfl, hb⟩
     refine ⟨_, rfl, ?_⟩
     have c10_16_15_22 : y16_15_22.cell? ⟨g1, 0, none⟩ = some (.string z32) := pw_cell_below hb c10_16_15
     have c11_16_15_22 : y16_15_22.cell? ⟨g1, 1, none⟩ = some (.int .i64 1) := pw_cell_below hb c11_16_15
     have c12_16_15_22 : y16_15_22.cell? ⟨g1, 2, none⟩ = some (.slice (some ⟨gA, 0, none⟩) 1 cA) := pw_cell_below hb c12_16_15
     have d0_16_15_22 : y16_15_22.cell? ⟨gA, 0, none⟩ = some (.int .i64 1) := pw_cell_below hb d0_16_15
     have d1_16_15_22 : y16_15_22.cell? ⟨gA, 1, none⟩ = some (.int .i64 3) := pw_cell_below hb d1_16_15
     have d2_16_15_22 : y16_15_22.cell? ⟨gA, 2, none⟩ = some (.int .i64 1) := pw_cell_below hb d2_16_15
     have d3_16_15_22 : y16_15_22.cell? ⟨gA, 3, none⟩ = some (.string bA) := pw_cell_below hb d3_16_15
     have d4_16_15_22 : y16_15_22.cell? ⟨gA, 4, none⟩ = some (.int .i64 0) := pw_cell_below hb d4_16_15
     have HC_16_15_22 : Aside0 (Kd.C k64 y16_15_22 (some ⟨gA, 0, none⟩) 1 [(⟨1, 3, 1, bA, 0⟩ : S64)]) := ⟨Kd.C_below HC_16_15.out hb⟩
     have HL_16_15_22 : Aside0 (Below w.heap.size w y16_15_22) := ⟨below_step HL_16_15.out hb⟩
     have HO_16_15_22 : Aside0 (y16_15_22.ownsRow 0 5 1 (.slice (some ⟨gM, 0, none⟩) 32 32) 32 (nums .u8 (List.replicate 32 0))) := ⟨pw_own_below HO_16_15.out hb⟩
     clear hb
     refine hK.out _ _ ⟨c10_16_15_22, c11_16_15_22, c12_16_15_22, d0_16_15_22, d1_16_15_22, d2_16_15_22, d3_16_15_22, d4_16_15_22⟩ (fun hHeld => ?_)
     clear hK K
     refine norm_ (a' := ?_) ?_ ?_
     rotate_left
     ·show Act.put _ (some 31) _ = _
      simp only [Act.put, List.setIfInBounds_toArray, List.set_cons_zero, List.set_cons_succ, i64_w, i32_w]
      rfl
     refine one_ (i := 17) (N := some 26) #[true, true, true, true, true, true, true, true, true, true, true, true, true, true, true, true, true, true, true, true, true, true, true, false, false, false, false] rfl rfl (by kernel_rfl) (by decide) (fun K hK => ?_)
     have hcv : (convert 23 9 (.slice (some ⟨gM, 0, none⟩) 32 32)).run Try.prog y16_15_22 = .ok (.string z32) y16_15_22 := own_string (P := Try.prog) Try.underlying23 Try.underlying5 Try.underlying9 HO_16_15_22.out
     refine value_ (w1 := y16_15_22) (v := .string z32) (by rfl) rfl ?_ ?_
     ·go_simp
     clear hcv
     refine hK.out _ _ ⟨c10_16_15_22, c11_16_15_22, c12_16_15_22, d0_16_15_22, d1_16_15_22, d2_16_15_22, d3_16_15_22, d4_16_15_22⟩ (fun hHeld => ?_)
     clear hK K
     refine norm_ (a' := ?_) ?_ ?_
     rotate_left
     ·show Act.put _ (some 26) _ = _
      simp only [Act.put, List.setIfInBounds_toArray, List.set_cons_zero, List.set_cons_succ, i64_w, i32_w]
      rfl
     exact norm_ (by simp only [putAll, Act.put, List.setIfInBounds_toArray, List.set_cons_zero, List.set_cons_succ]) (hCont gM _ ⟨c10_16_15_22, c11_16_15_22, c12_16_15_22, d0_16_15_22, d1_16_15_22, d2_16_15_22, d3_16_15_22, d4_16_15_22, HL_16_15_22⟩)
   ·skip
    have hcv : (convert 23 9 (.slice (some ⟨gM, 0, none⟩) 32 32)).run Try.prog y16 = .ok (.string z32) y16 := own_string (P := Try.prog) Try.underlying23 Try.underlying5 Try.underlying9 HO_16.out
    refine value_ (w1 := y16) (v := .string z32) (by rfl) rfl ?_ ?_
    ·go_simp
    clear hcv
    refine hK.out _ _ ⟨c10_16, c11_16, c12_16, d0_16, d1_16, d2_16, d3_16, d4_16⟩ (fun hHeld => ?_)
    clear hK K
    refine norm_ (a' := ?_) ?_ ?_
    rotate_left
    ·show Act.put _ (some 26) _ = _
     simp only [Act.put, List.setIfInBounds_toArray, List.set_cons_zero, List.set_cons_succ, i64_w, i32_w]
     rfl
    refine one_ (i := 15) (N := some 24) #[true, true, true, true, true, true, true, true, true, true, true, true, true, true, true, true, true, true, true, true, true, true, false, false, false, false, false] rfl rfl (by kernel_rfl) (by decide) (fun K hK => ?_)
    refine goes_ Try.func44 (by kernel_rfl) rfl #[.agg #[.string z32, .int .i64 1, .slice (some ⟨gA, 0, none⟩) 1 cA]] (by rfl) rfl rfl (by simp only [List.map_toArray, List.map_cons, List.map_nil]; rfl) ?_
    refine (audit_Digest.calls 20 z32 1 (some ⟨gA, 0, none⟩) cA [(⟨1, 3, 1, bA, 0⟩ : S64)] D y16 HC_16.out HCA.out HDG.out).mono ?_
    rintro e y16_15 ⟨rfl, hb⟩
    refine ⟨_, rfl, ?_⟩
    have c10_16_15 : y16_15.cell? ⟨g1, 0, none⟩ = some (.string z32) := pw_cell_below hb c10_16
    have c11_16_15 : y16_15.cell? ⟨g1, 1, none⟩ = some (.int .i64 1) := pw_cell_below hb c11_16
    have c12_16_15 : y16_15.cell? ⟨g1, 2, none⟩ = some (.slice (some ⟨gA, 0, none⟩) 1 cA) := pw_cell_below hb c12_16
    have d0_16_15 : y16_15.cell? ⟨gA, 0, none⟩ = some (.int .i64 1) := pw_cell_below hb d0_16
    have d1_16_15 : y16_15.cell? ⟨gA, 1, none⟩ = some (.int .i64 3) := pw_cell_below hb d1_16
    have d2_16_15 : y16_15.cell? ⟨gA, 2, none⟩ = some (.int .i64 1) := pw_cell_below hb d2_16
    have d3_16_15 : y16_15.cell? ⟨gA, 3, none⟩ = some (.string bA) := pw_cell_below hb d3_16
    have d4_16_15 : y16_15.cell? ⟨gA, 4, none⟩ = some (.int .i64 0) := pw_cell_below hb d4_16
    have HC_16_15 : Aside0 (Kd.C k64 y16_15 (some ⟨gA, 0, none⟩) 1 [(⟨1, 3, 1, bA, 0⟩ : S64)]) := ⟨Kd.C_below HC_16.out hb⟩
    have HL_16_15 : Aside0 (Below w.heap.size w y16_15) := ⟨below_step HL_16.out hb⟩
    have HO_16_15 : Aside0 (y16_15.ownsRow 0 5 1 (.slice (some ⟨gM, 0, none⟩) 32 32) 32 (nums .u8 (List.replicate 32 0))) := ⟨pw_own_below HO_16.out hb⟩
    clear hb
    refine hK.out _ _ ⟨c10_16_15, c11_16_15, c12_16_15, d0_16_15, d1_16_15, d2_16_15, d3_16_15, d4_16_15⟩ (fun hHeld => ?_)
    clear hK K
    refine norm_ (a' := ?_) ?_ ?_
    rotate_left
    ·show Act.put _ (some 24) _ = _
     simp only [Act.put, List.setIfInBounds_toArray, List.set_cons_zero, List.set_cons_succ, i64_w, i32_w]
     rfl
    refine one_ (i := 22) (N := some 31) #[true, true, true, true, true, true, true, true, true, true, true, true, true, true, true, true, true, true, true, true, true, true, true, false, false, false, false] rfl rfl (by kernel_rfl) (by decide) (fun K hK => ?_)
    refine goes_ Try.func48 (by kernel_rfl) rfl #[.agg #[.int .i64 1, .int .i64 3, .int .i64 1, .string bA, .int .i64 0]] (by rfl) rfl rfl (by simp only [List.map_toArray, List.map_cons, List.map_nil]; rfl) ?_
    refine (strongroomref13_Bytes.calls 20 1 3 1 bA 0 bb y16_15 HBB.out).mono ?_
    rintro e y16_15_22 ⟨rfl, hb⟩
    refine ⟨_, rfl, ?_⟩
    have c10_16_15_22 : y16_15_22.cell? ⟨g1, 0, none⟩ = some (.string z32) := pw_cell_below hb c10_16_15
    have c11_16_15_22 : y16_15_22.cell? ⟨g1, 1, none⟩ = some (.int .i64 1) := pw_cell_below hb c11_16_15
    have c12_16_15_22 : y16_15_22.cell? ⟨g1, 2, none⟩ = some (.slice (some ⟨gA, 0, none⟩) 1 cA) := pw_cell_below hb c12_16_15
    have d0_16_15_22 : y16_15_22.cell? ⟨gA, 0, none⟩ = some (.int .i64 1) := pw_cell_below hb d0_16_15
    have d1_16_15_22 : y16_15_22.cell? ⟨gA, 1, none⟩ = some (.int .i64 3) := pw_cell_below hb d1_16_15
    have d2_16_15_22 : y16_15_22.cell? ⟨gA, 2, none⟩ = some (.int .i64 1) := pw_cell_below hb d2_16_15
    have d3_16_15_22 : y16_15_22.cell? ⟨gA, 3, none⟩ = some (.string bA) := pw_cell_below hb d3_16_15
    have d4_16_15_22 : y16_15_22.cell? ⟨gA, 4, none⟩ = some (.int .i64 0) := pw_cell_below hb d4_16_15
    have HC_16_15_22 : Aside0 (Kd.C k64 y16_15_22 (some ⟨gA, 0, none⟩) 1 [(⟨1, 3, 1, bA, 0⟩ : S64)]) := ⟨Kd.C_below HC_16_15.out hb⟩
    have HL_16_15_22 : Aside0 (Below w.heap.size w y16_15_22) := ⟨below_step HL_16_15.out hb⟩
    have HO_16_15_22 : Aside0 (y16_15_22.ownsRow 0 5 1 (.slice (some ⟨gM, 0, none⟩) 32 32) 32 (nums .u8 (List.replicate 32 0))) := ⟨pw_own_below HO_16_15.out hb⟩
    clear hb
    refine hK.out _ _ ⟨c10_16_15_22, c11_16_15_22, c12_16_15_22, d0_16_15_22, d1_16_15_22, d2_16_15_22, d3_16_15_22, d4_16_15_22⟩ (fun hHeld => ?_)
    clear hK K
    refine norm_ (a' := ?_) ?_ ?_
    rotate_left
    ·show Act.put _ (some 31) _ = _
     simp only [Act.put, List.setIfInBounds_toArray, List.set_cons_zero, List.set_cons_succ, i64_w, i32_w]
     rfl
    exact norm_ (by simp only [putAll, Act.put, List.setIfInBounds_toArray, List.set_cons_zero, List.set_cons_succ]) (hCont gM _ ⟨c10_16_15_22, c11_16_15_22, c12_16_15_22, d0_16_15_22, d1_16_15_22, d2_16_15_22, d3_16_15_22, d4_16_15_22, HL_16_15_22⟩)
 rintro gM w5 ⟨c10z, c11z, c12z, d0z, d1z, d2z, d3z, d4z, HLz⟩
 have hHeld := (⟨c10z, c11z, c12z, d0z, d1z, d2z, d3z, d4z⟩ : w5.cell? ⟨g1, 0, none⟩ = some (.string z32) ∧ w5.cell? ⟨g1, 1, none⟩ = some (.int .i64 1) ∧ w5.cell? ⟨g1, 2, none⟩ = some (.slice (some ⟨gA, 0, none⟩) 1 cA) ∧ w5.cell? ⟨gA, 0, none⟩ = some (.int .i64 1) ∧ w5.cell? ⟨gA, 1, none⟩ = some (.int .i64 3) ∧ w5.cell? ⟨gA, 2, none⟩ = some (.int .i64 1) ∧ w5.cell? ⟨gA, 3, none⟩ = some (.string bA) ∧ w5.cell? ⟨gA, 4, none⟩ = some (.int .i64 0))
 refine norm_ (a' := ?_) ?_ ?_
 rotate_left
 ·simp only [putAll, Act.put, List.setIfInBounds_toArray, List.set_cons_zero, List.set_cons_succ]
  rfl
 refine one_ (i := 23) (N := some 32) #[true, true, true, true, true, true, true, true, true, true, true, true, true, true, true, true, true, true, true, true, true, true, true, true, false, false, false] rfl rfl (by kernel_rfl) (by decide) (fun K hK => ?_)
 refine goes_ Try.func47 (by kernel_rfl) rfl #[.string z32, .string bb] (by rfl) rfl rfl (by simp only [List.map_toArray, List.map_cons, List.map_nil]; rfl) ?_
 refine (mac_Seal.calls z32 bb D _ HSL.out).mono ?_
 rintro e w6 ⟨rfl, hb⟩
 refine ⟨_, rfl, ?_⟩
 have c10y : w6.cell? ⟨g1, 0, none⟩ = some (.string z32) := pw_cell_below hb c10z
 have c11y : w6.cell? ⟨g1, 1, none⟩ = some (.int .i64 1) := pw_cell_below hb c11z
 have c12y : w6.cell? ⟨g1, 2, none⟩ = some (.slice (some ⟨gA, 0, none⟩) 1 cA) := pw_cell_below hb c12z
 have d0y : w6.cell? ⟨gA, 0, none⟩ = some (.int .i64 1) := pw_cell_below hb d0z
 have d1y : w6.cell? ⟨gA, 1, none⟩ = some (.int .i64 3) := pw_cell_below hb d1z
 have d2y : w6.cell? ⟨gA, 2, none⟩ = some (.int .i64 1) := pw_cell_below hb d2z
 have d3y : w6.cell? ⟨gA, 3, none⟩ = some (.string bA) := pw_cell_below hb d3z
 have d4y : w6.cell? ⟨gA, 4, none⟩ = some (.int .i64 0) := pw_cell_below hb d4z
 have HLy := Aside0.mk (below_step HLz.out hb)
 clear hb
 refine hK.out _ _ ⟨c10y, c11y, c12y, d0y, d1y, d2y, d3y, d4y⟩ (fun hHeld => ?_)
 clear hK K
 refine norm_ (a' := ?_) ?_ ?_
 rotate_left
 ·show Act.put _ (some 32) _ = _
  simp only [Act.put, List.setIfInBounds_toArray, List.set_cons_zero, List.set_cons_succ, i64_w, i32_w]
  rfl
 refine pure_ (i := 24) (N := some 33) (v := ?_) (a' := ?_) #[true, true, true, true, true, true, true, true, true, true, true, true, true, true, true, true, true, true, true, true, true, true, true, true, true, false, false] rfl rfl (by kernel_rfl) (fun _ _ _ h => h) (Or.inl ⟨by rfl, ?_⟩) ?_ ?_
 rotate_left
 ·intro w'
  go_simp
  with_reducible rfl
 rotate_left
 ·simp only [Act.put, List.setIfInBounds_toArray, List.set_cons_zero, List.set_cons_succ, i64_w, i32_w]
  rfl
 refine pure_ (i := 25) (N := some 34) (v := ?_) (a' := ?_) #[true, true, true, true, true, true, true, true, true, true, true, true, true, true, true, true, true, true, true, true, true, true, true, true, true, true, false] rfl rfl (by kernel_rfl) (fun _ _ _ h => h) (Or.inl ⟨by rfl, ?_⟩) ?_ ?_
 rotate_left
 ·intro w'
  go_simp
  with_reducible rfl
 rotate_left
 ·simp only [Act.put, List.setIfInBounds_toArray, List.set_cons_zero, List.set_cons_succ, i64_w, i32_w]
  rfl
 refine pure_ (i := 26) (N := some 0) (v := ?_) (a' := ?_) #[true, true, true, true, true, true, true, true, true, true, true, true, true, true, true, true, true, true, true, true, true, true, true, true, true, true, true] rfl rfl (by kernel_rfl) (fun _ _ _ h => h) (Or.inl ⟨by rfl, ?_⟩) ?_ ?_
 rotate_left
 ·intro w'
  go_simp
  with_reducible rfl
 rotate_left
 ·simp only [Act.put, List.setIfInBounds_toArray, List.set_cons_zero, List.set_cons_succ, i64_w, i32_w]
  rfl
 refine done_ (by kernel_rfl) ?_
 go_wp2
 go_ret
 exact ⟨rfl, HLy.out⟩

def strongroomlaw13_lives.f : Option Bool := some true
theorem strongroomlaw13_lives.calls (r : Bool) (w : World) (h : strongroomlaw13_lives.f = some r) : Calls Try.prog 34 #[] w fun e w' => e = .returned (.bool r) ∧ Below w.heap.size w w' := by
 obtain rfl := Option.some.inj h
 exact lives13_walk w

end Go.Proofs.Ytcdnmlfnfhoieaa.A

/- strongroomref13.Of of no entry, walked. Condition: there is no entry (the function answers nothing of any other). -/
namespace Go.Proofs.Ytcdnmlfnfhoieaa.A
open Go.RowKit Go.Proofs.YtcdnmlfnfhoieaaW.PrintWords Go.Proofs.YtcdnmlfnfhoieaaW.PrintLast Go.Proofs.YtcdnmlfnfhoieaaW.PrintMore Go.Proofs.Ytcdnmlfnfhoieaa.Bs
attribute [local go_sem] max2_int min2_int max_two min_two max_three min_three max_four min_four
set_option linter.unusedVariables false
set_option linter.unusedSimpArgs false

theorem chain_nil : strongroomref13_Chain.f 5 z32 [] = some z32 := by kernel_rfl
def strongroomref13_Of.f (l : List S64) : Option (ByteArray × Int × List S64) := if l = [] then some (z32, 0, []) else none
set_option maxHeartbeats 8000000 in
set_option maxRecDepth 100000 in
theorem of0_walk (w : World) (A : Option Addr) (c : Nat) : Calls Try.prog 38 #[.slice A 0 c] w fun e w' => ∃ v2_ : Value, e = .returned (.agg #[.string z32, .int .i64 0, v2_]) ∧ Kd.R k64 64 w' w.heap.size (fun _ => True) v2_ [] ∧ Below w.heap.size w w' := by
 have hu54 := Try.underlying54
 have hu52 := Try.underlying52
 have HI54 : Aside0 ((Try.prog.info? 54).map (·.size) = some 3) := ⟨by kernel_rfl⟩
 obtain ⟨mc, hmc⟩ : ∃ mc, madeCells #[Value.int .u8 0] 32 = mc := ⟨_, rfl⟩
 have hmk : ∀ W : World, (Instr.makeSlice 23 (.int .i64 32) (.int .i64 32)).run Try.prog W = .ok (.slice (some ⟨W.heap.size, 0, none⟩) 32 32) (W.alloc (.cells mc 5)) := by
  rw [← hmc]
  exact print_make (P := Try.prog) 23 5 .u8 1 Try.underlying23 info5 (by decide) 32 (by decide)
 have hcv : ∀ W : World, (convert 23 9 (.slice (some ⟨W.heap.size, 0, none⟩) 32 32)).run Try.prog (W.alloc (.cells mc 5)) = .ok (.string z32) (W.alloc (.cells mc 5)) := by
  intro W
  rw [← hmc]
  exact own_string (P := Try.prog) Try.underlying23 Try.underlying5 Try.underlying9 (own_made W 0 5 .u8 32 (Nat.zero_le _) (by decide))
 clear hmc
 have HA1 : Aside0 ((#[.string z32, .int .i64 0, .slice none 0 0] : Array Value).all (·.oneCell') = true) := ⟨by simp [Value.oneCell']⟩
 go_enter Try.func38, Try.ntmps38
 go_upto_region 2 with (first | ((with_reducible refine gate_dst (N := 2) rfl ?_); refine box_event ?hg (N := 2) ?hd (cs := #[.string ⟨#[]⟩, .int .i64 0, .slice none 0 0]) (t := 54) ?hr ?_; (case hd => rfl); (case hg => rfl); (case hr => first | (go_simp; done) | (go_simp; rfl)); intro g2 hg2 w2 hb2 hbel2; have HG2 := Aside0.mk hg2; have HB2 := Aside0.mk hb2; have HL2 := Aside0.mk hbel2; clear hg2 hb2 hbel2) | ((with_reducible refine gate_dst (N := 3) rfl ?_); refine box_event ?hg (N := 3) ?hd (cs := #[.string ⟨#[]⟩, .int .i64 0, .slice none 0 0]) (t := 54) ?hr ?_; (case hd => rfl); (case hg => rfl); (case hr => first | (go_simp; done) | (go_simp; rfl)); intro g3 hg3 w3 hb3 hbel3; have HG3 := Aside0.mk hg3; have HB3 := Aside0.mk hb3; have HL3 := Aside0.mk hbel3; clear hg3 hb3 hbel3) | (refine gate_ (.store 54 (.tmp 3) (.tmp 12)) rfl ?_; refine wpList_store_row rfl 54 (.tmp 3) (.tmp 12) rfl g3 #[.string z32, .int .i64 0, .slice none 0 0] rfl rfl 54 _ HB3.out HI54.out rfl HA1.out ?_))
 have HB4 : Aside0 ((w3.setRow g3 #[.string z32, .int .i64 0, .slice none 0 0]).heap[g3]? = some (.cells #[.string z32, .int .i64 0, .slice none 0 0] 54 (0, 0))) := ⟨setRow_heap _ _ _ _ _ _ HB3.out⟩
 have HN : Aside0 (g2 ≠ g3 ∧ w.heap.size ≤ g2 ∧ w.heap.size ≤ g3) := ⟨by
  have h1 := blk_lt HB2.out
  have h2 := HG2.out
  have h3 := HG3.out
  have h4 := below_size HL2.out
  simp only [World.size_alloc] at h3
  omega⟩
 have hb2 : w3.heap[g2]? = some (.cells #[.string ⟨#[]⟩, .int .i64 0, .slice none 0 0] 54 (0, 0)) := blk_below (blk_alloc HB2.out _) HL3.out
 have HC2 : Aside0 ((w3.setRow g3 #[.string z32, .int .i64 0, .slice none 0 0]).heap[g2]? = some (.cells #[.string ⟨#[]⟩, .int .i64 0, .slice none 0 0] 54 (0, 0))) := ⟨by rw [setRow_other _ _ _ _ HN.out.1]; exact hb2⟩
 have HL4 : Aside0 (Below w.heap.size w (w3.setRow g3 #[.string z32, .int .i64 0, .slice none 0 0])) := ⟨(below_step (below_alloc HL2.out _) HL3.out).trans (below_setRow HN.out.2.2)⟩
 clear HB2 HB3 HL2 HL3 HG2 HG3 hb2 hmk hcv
 generalize w3.setRow g3 #[.string z32, .int .i64 0, .slice none 0 0] = w4 at HB4 HC2 HL4 ⊢
 go_wp2
 go_loopg [4, 5] 0 (fun kq v4 v w' => v4 = .slice none 0 0 ∧ v = .int .i64 0 ∧ w' = w4)
 case atStart => exact ⟨rfl, rfl, rfl⟩
 case round =>
  obtain ⟨rfl, rfl, rfl⟩ := hrel
  go_wp2
  have c30 : wr.cell? ⟨g3, 0, none⟩ = some (.string z32) := (blk_cell HB4.out 0).trans rfl
  refine start_ (n := 8) (S := fun w' => w'.cell? ⟨g3, 0, none⟩ = some (.string z32)) (ds := [7]) #[false, false, false, false, false, false, false, false] (by kernel_rfl) rfl rfl (c30) (fun hHeld => ?_)
  refine pure_ (i := 0) (N := some 36) (v := ?_) (a' := ?_) #[true, false, false, false, false, false, false, false] rfl rfl (by kernel_rfl) (fun _ _ _ h => h) (Or.inl ⟨by rfl, ?_⟩) ?_ ?_
  rotate_left
  ·intro w'
   go_simp
   with_reducible rfl
  rotate_left
  ·simp only [Act.put, List.setIfInBounds_toArray, List.set_cons_zero, List.set_cons_succ, i64_w, i32_w]
   rfl
  refine pure_ (i := 2) (N := some 38) (v := ?_) (a' := ?_) #[true, false, true, false, false, false, false, false] rfl rfl (by kernel_rfl) (fun _ _ _ h => h) (Or.inl ⟨by rfl, ?_⟩) ?_ ?_
  rotate_left
  ·intro w'
   go_simp
   with_reducible rfl
  rotate_left
  ·simp only [Act.put, List.setIfInBounds_toArray, List.set_cons_zero, List.set_cons_succ, i64_w, i32_w]
   rfl
  refine pure_ (i := 3) (N := some 39) (v := ?_) (a' := ?_) #[true, false, true, true, false, false, false, false] rfl rfl (by kernel_rfl) (fun _ _ _ h => h) (Or.inl ⟨by rfl, ?_⟩) ?_ ?_
  rotate_left
  ·intro w'
   go_simp
   with_reducible rfl
  rotate_left
  ·simp only [Act.put, List.setIfInBounds_toArray, List.set_cons_zero, List.set_cons_succ, i64_w, i32_w]
   rfl
  refine pure_ (i := 4) (N := some 40) (v := ?_) (a' := ?_) #[true, false, true, true, true, false, false, false] rfl rfl (by kernel_rfl) (fun _ _ _ h => h) (Or.inl ⟨by rfl, ?_⟩) ?_ ?_
  rotate_left
  ·intro w'
   go_simp
   with_reducible rfl
  rotate_left
  ·simp only [Act.put, List.setIfInBounds_toArray, List.set_cons_zero, List.set_cons_succ, i64_w, i32_w]
   rfl
  refine take_ (i := 1) (N := some 37) (v := ?_) (a' := ?_) #[true, true, true, true, true, false, false, false] rfl rfl (by kernel_rfl) (fun _ _ _ h => h) (Or.inl ⟨by rfl, ?_⟩) hHeld ?_ ?_
  rotate_left
  ·intro w' s0
   go_simp
   with_reducible rfl
  rotate_left
  ·simp only [Act.put, List.setIfInBounds_toArray, List.set_cons_zero, List.set_cons_succ, i64_w, i32_w]
   rfl
  refine one_ (i := 5) (N := some 41) #[true, true, true, true, true, true, false, false] rfl rfl (by kernel_rfl) (by decide) (fun K hK => ?_)
  refine goes_ Try.func45 (by kernel_rfl) rfl #[.string z32, .slice none 0 0] (by rfl) rfl rfl (by simp only [List.map_toArray, List.map_cons, List.map_nil]; rfl) ?_
  refine (strongroomref13_Chain.calls 5 z32 none 0 [] z32 wr.drew ⟨rfl, by simp, fun h => absurd h (Nat.lt_irrefl _)⟩ (Nat.le_refl _) chain_nil).mono ?_
  rintro e w5 ⟨rfl, hb⟩
  refine ⟨_, rfl, ?_⟩
  have HB5 := Aside0.mk (blk_below (blk_drew HB4.out) hb)
  have HC5 := Aside0.mk (blk_below (blk_drew HC2.out) hb)
  have HL5 := Aside0.mk (below_step (below_drew HL4.out) hb)
  have c30a : w5.cell? ⟨g3, 0, none⟩ = some (.string z32) := (blk_cell HB5.out 0).trans rfl
  have f30 : w5.frozen? ⟨g3, 0, none⟩ = false := blk_frozen HB5.out 0
  clear hb
  refine hK.out _ _ (c30a) (fun hHeld => ?_)
  clear hK K
  refine norm_ (a' := ?_) ?_ ?_
  rotate_left
  ·show Act.put _ (some 41) _ = _
   simp only [Act.put, List.setIfInBounds_toArray, List.set_cons_zero, List.set_cons_succ, i64_w, i32_w]
   rfl
  refine pure_ (i := 6) (N := some 42) (v := ?_) (a' := ?_) #[true, true, true, true, true, true, true, false] rfl rfl (by kernel_rfl) (fun _ _ _ h => h) (Or.inl ⟨by rfl, ?_⟩) ?_ ?_
  rotate_left
  ·intro w'
   go_simp
   with_reducible rfl
  rotate_left
  ·simp only [Act.put, List.setIfInBounds_toArray, List.set_cons_zero, List.set_cons_succ, i64_w, i32_w]
   rfl
  refine last_ (i := 7) (N := none) #[true, true, true, true, true, true, true, true] rfl rfl (by kernel_rfl) (by decide) (fun K hK => ?_)
  refine skip_ (w1 := ?_) (by rfl) rfl ?_ ?_
  rotate_left
  ·go_simp
   rfl
  refine hK.out _ _ ?_
  clear hK K
  refine done_ (by kernel_rfl) ?_
  have q3 : (w5.setCell ⟨g3, 0, none⟩ (.string z32)).heap[g3]? = some (.cells #[.string z32, .int .i64 0, .slice none 0 0] 54 (0, 0)) := blk_set HB5.out 0 _
  have q2 := blk_far HC5.out (p := ⟨g3, 0, none⟩) HN.out.1 (.string z32)
  have ql := below_set (j := 0) (v := .string z32) HL5.out HN.out.2.2
  generalize w5.setCell ⟨g3, 0, none⟩ (.string z32) = w6 at q3 q2 ql ⊢
  have Q3 := Aside0.mk q3
  have Q2 := Aside0.mk q2
  have QL := Aside0.mk ql
  clear q3 q2 ql HB5 HC5 HL5 c30a f30 hHeld c30 HB4 HC2 HL4
  have c32 : w6.cell? ⟨g3, 2, none⟩ = some (.slice none 0 0) := (blk_cell Q3.out 2).trans rfl
  have f32 : w6.frozen? ⟨g3, 2, none⟩ = false := blk_frozen Q3.out 2
  go_upto_region 14 with (fail)
  have q3 : (w6.setCell ⟨g3, 2, none⟩ (.slice none 0 0)).heap[g3]? = some (.cells #[.string z32, .int .i64 0, .slice none 0 0] 54 (0, 0)) := blk_set Q3.out 2 _
  have q2 := blk_far Q2.out (p := ⟨g3, 2, none⟩) HN.out.1 (.slice none 0 0)
  have ql := below_set (j := 2) (v := .slice none 0 0) QL.out HN.out.2.2
  generalize w6.setCell ⟨g3, 2, none⟩ (.slice none 0 0) = w7 at q3 q2 ql ⊢
  have R3 := Aside0.mk q3
  have R2 := Aside0.mk q2
  have RL := Aside0.mk ql
  clear q3 q2 ql Q3 Q2 QL c32 f32
  go_wp2_with (first | ((with_reducible refine gate_dst (N := 47) rfl ?_); refine wpList_load_row rfl 54 (.tmp 3) rfl g3 rfl 54 #[.string z32, .int .i64 0, .slice none 0 0] (0, 0) _ R3.out hu54 rfl HI54.out ?_) | (refine gate_ (.store 54 (.tmp 2) (.tmp 47)) rfl ?_; refine wpList_store_row rfl 54 (.tmp 2) (.tmp 47) rfl g2 #[.string z32, .int .i64 0, .slice none 0 0] rfl rfl 54 _ R2.out HI54.out rfl HA1.out ?_))
  refine bodyPost_ret_by (results_cell_row rfl _ _ g2 54 #[.string z32, .int .i64 0, .slice none 0 0] (0, 0) _ rfl (setRow_heap _ _ _ _ _ _ R2.out) hu54 rfl HI54.out) rfl ?_
  exact ⟨_, rfl, Kd.R_nil _ _ _ _ _, RL.out.trans (below_setRow HN.out.2.1)⟩

theorem strongroomref13_Of.calls (A0 : Option Addr) (c0 : Nat) (l0 : List S64) (r1 : ByteArray) (r2 : Int) (r3 : List S64) (w : World) (hr0 : Kd.C k64 w A0 l0.length l0) (hc0 : l0.length ≤ c0) (h : strongroomref13_Of.f l0 = some (r1, r2, r3)) :
  Calls Try.prog 38 #[.slice A0 l0.length c0] w fun e w' => ∃ v2_ : Value, e = .returned (.agg #[.string r1, .int .i64 r2, v2_]) ∧ Kd.R k64 64 w' w.heap.size (fun _ => True) v2_ r3 ∧ Below w.heap.size w w' := by
 unfold strongroomref13_Of.f at h
 by_cases hl : l0 = []
 ·rw [if_pos hl] at h
  cases h
  subst hl
  exact of0_walk w A0 c0
 ·rw [if_neg hl] at h
  cases h

end Go.Proofs.Ytcdnmlfnfhoieaa.A

namespace Go.Proofs.Ytcdnmlfnfhoieaa.A
open Go.RowKit Go.Proofs.YtcdnmlfnfhoieaaW.PrintWords Go.Proofs.YtcdnmlfnfhoieaaW.PrintLast Go.Proofs.YtcdnmlfnfhoieaaW.PrintMore
attribute [local go_sem] max2_int min2_int max_two min_two max_three min_three max_four min_four
set_option linter.unusedVariables false
set_option linter.unusedSimpArgs false

/-! ### strongroomref13_Good: function 46 -/
def strongroomref13_Good.f (a0_0 : Int) (a0_1 : Int) (a0_2 : Int) (a0_3 : ByteArray) (a0_4 : Int) : Option (Bool) := if a0_0 < 1 then (some false) else (if a0_0 > 2147483648 then (some false) else (if a0_1 < 0 then (some false) else (if a0_1 > 1099511627776 then (some false) else (if a0_2 ≥ 0 then (if a0_2 ≤ 100 then (if (a0_3.size : Int) ≤ 32 then (if a0_4 ≥ 0 then (some (decide (a0_4 ≤ 100))) else (some false)) else (some false)) else (some false)) else (some false)))))
set_option maxHeartbeats 8000000 in
set_option maxRecDepth 100000 in
theorem strongroomref13_Good.calls (a0_0 : Int) (a0_1 : Int) (a0_2 : Int) (a0_3 : ByteArray) (a0_4 : Int) (r : Bool) (w : World) (h : strongroomref13_Good.f a0_0 a0_1 a0_2 a0_3 a0_4 = some r) :
  Calls Try.prog 46 #[.agg #[.int .i64 a0_0, .int .i64 a0_1, .int .i64 a0_2, .string a0_3, .int .i64 a0_4]] w fun e w' => e = .returned (.bool r) ∧ Below w.heap.size w w' := by
 have hu64 := Try.underlying64
 have HB := Aside0.mk (Below.refl w.heap.size w)
 have H : (if a0_0 < 1 then (some false) else (if a0_0 > 2147483648 then (some false) else (if a0_1 < 0 then (some false) else (if a0_1 > 1099511627776 then (some false) else (if a0_2 ≥ 0 then (if a0_2 ≤ 100 then (if (a0_3.size : Int) ≤ 32 then (if a0_4 ≥ 0 then (some (decide (a0_4 ≤ 100))) else (some false)) else (some false)) else (some false)) else (some false)))))) = some r := h
 clear h
 by_cases c2 : a0_0 < 1
 ·rw [if_pos c2] at H
  have c2b0 : decide (a0_0 < 1) = true := decide_eq_true c2
  clear c2
  obtain rfl := Option.some.inj H
  go_enter Try.func46, Try.ntmps46
  go_wp2_with (first | ((with_reducible refine gate_dst (N := 1) rfl ?_); (try (refine gate_guard (by rfl) ?_; dsimp only)); refine box_event ?hg (N := 1) ?hd (cs := #[.int .i64 a0_0, .int .i64 a0_1, .int .i64 a0_2, .string a0_3, .int .i64 a0_4]) (t := 64) ?hr ?_; (case hd => rfl); (case hg => rfl); (case hr => first | (go_simp; done) | (go_simp; rfl)); intro gb333 hg w3 hbox hb; have n0_ := Aside0.mk (below_step (by repeat (first | (with_reducible first | exact HB.out | apply below_alloc | apply pw_below_drewN | apply below_drew1) | exact HB.out)) hb); have n1_ := Aside0.mk (hbox); have n2_ := Aside0.mk ((by rw [hg]; exact (below_size (by repeat (first | (with_reducible first | exact HB.out | apply below_alloc | apply pw_below_drewN | apply below_drew1) | exact HB.out))) : w.heap.size ≤ gb333)); have n3_ := Aside0.mk ((by rw [hg]; exact (below_size (by repeat (first | (with_reducible first | exact HB.out | apply below_alloc | apply pw_below_drewN | apply below_drew1) | exact HB.out))) : w.heap.size ≤ gb333)); clear HB; have HB := n0_; have BK333 := n1_; have GW333 := n2_; have GE333 := n3_; clear n0_ n1_ n2_ n3_; clear hb hbox hg; have hcz4_0 : w3.cell? ⟨gb333, 0, none⟩ = some (.int .i64 a0_0) := (blk_cell BK333.out 0).trans rfl; have hcz4_1 : w3.cell? ⟨gb333, 1, none⟩ = some (.int .i64 a0_1) := (blk_cell BK333.out 1).trans rfl; have hcz4_2 : w3.cell? ⟨gb333, 2, none⟩ = some (.int .i64 a0_2) := (blk_cell BK333.out 2).trans rfl; have hcz4_3 : w3.cell? ⟨gb333, 3, none⟩ = some (.string a0_3) := (blk_cell BK333.out 3).trans rfl; have hcz4_4 : w3.cell? ⟨gb333, 4, none⟩ = some (.int .i64 a0_4) := (blk_cell BK333.out 4).trans rfl; have hfz4_0 := blk_frozen BK333.out 0; have hfz4_1 := blk_frozen BK333.out 1; have hfz4_2 := blk_frozen BK333.out 2; have hfz4_3 := blk_frozen BK333.out 3; have hfz4_4 := blk_frozen BK333.out 4))
  go_ret
  exact ⟨by first | rfl | (simp [errW_none, errW_some] <;> rfl) | (simp [*, errW_none, errW_some] <;> rfl), by repeat (first | (with_reducible first | exact HB.out | apply below_alloc | apply pw_below_drewN | apply below_drew1 | refine below_set ?_ GE333.out) | exact HB.out)⟩
 ·rw [if_neg c2] at H
  have c2b0 : decide (a0_0 < 1) = false := decide_eq_false c2
  clear c2
  by_cases c5 : a0_0 > 2147483648
  ·rw [if_pos c5] at H
   have c5b0 : decide (2147483648 < a0_0) = true := decide_eq_true c5
   clear c5
   obtain rfl := Option.some.inj H
   go_enter Try.func46, Try.ntmps46
   go_wp2_with (first | ((with_reducible refine gate_dst (N := 1) rfl ?_); (try (refine gate_guard (by rfl) ?_; dsimp only)); refine box_event ?hg (N := 1) ?hd (cs := #[.int .i64 a0_0, .int .i64 a0_1, .int .i64 a0_2, .string a0_3, .int .i64 a0_4]) (t := 64) ?hr ?_; (case hd => rfl); (case hg => rfl); (case hr => first | (go_simp; done) | (go_simp; rfl)); intro gb333 hg w6 hbox hb; have n0_ := Aside0.mk (below_step (by repeat (first | (with_reducible first | exact HB.out | apply below_alloc | apply pw_below_drewN | apply below_drew1) | exact HB.out)) hb); have n1_ := Aside0.mk (hbox); have n2_ := Aside0.mk ((by rw [hg]; exact (below_size (by repeat (first | (with_reducible first | exact HB.out | apply below_alloc | apply pw_below_drewN | apply below_drew1) | exact HB.out))) : w.heap.size ≤ gb333)); have n3_ := Aside0.mk ((by rw [hg]; exact (below_size (by repeat (first | (with_reducible first | exact HB.out | apply below_alloc | apply pw_below_drewN | apply below_drew1) | exact HB.out))) : w.heap.size ≤ gb333)); clear HB; have HB := n0_; have BK333 := n1_; have GW333 := n2_; have GE333 := n3_; clear n0_ n1_ n2_ n3_; clear hb hbox hg; have hcz7_0 : w6.cell? ⟨gb333, 0, none⟩ = some (.int .i64 a0_0) := (blk_cell BK333.out 0).trans rfl; have hcz7_1 : w6.cell? ⟨gb333, 1, none⟩ = some (.int .i64 a0_1) := (blk_cell BK333.out 1).trans rfl; have hcz7_2 : w6.cell? ⟨gb333, 2, none⟩ = some (.int .i64 a0_2) := (blk_cell BK333.out 2).trans rfl; have hcz7_3 : w6.cell? ⟨gb333, 3, none⟩ = some (.string a0_3) := (blk_cell BK333.out 3).trans rfl; have hcz7_4 : w6.cell? ⟨gb333, 4, none⟩ = some (.int .i64 a0_4) := (blk_cell BK333.out 4).trans rfl; have hfz7_0 := blk_frozen BK333.out 0; have hfz7_1 := blk_frozen BK333.out 1; have hfz7_2 := blk_frozen BK333.out 2; have hfz7_3 := blk_frozen BK333.out 3; have hfz7_4 := blk_frozen BK333.out 4))
   go_ret
   exact ⟨by first | rfl | (simp [errW_none, errW_some] <;> rfl) | (simp [*, errW_none, errW_some] <;> rfl), by repeat (first | (with_reducible first | exact HB.out | apply below_alloc | apply pw_below_drewN | apply below_drew1 | refine below_set ?_ GE333.out) | exact HB.out)⟩
  ·rw [if_neg c5] at H
   have c5b0 : decide (2147483648 < a0_0) = false := decide_eq_false c5
   clear c5
   by_cases c8 : a0_1 < 0
   ·rw [if_pos c8] at H
    have c8b0 : decide (a0_1 < 0) = true := decide_eq_true c8
    clear c8
    obtain rfl := Option.some.inj H
    go_enter Try.func46, Try.ntmps46
    go_wp2_with (first | ((with_reducible refine gate_dst (N := 1) rfl ?_); (try (refine gate_guard (by rfl) ?_; dsimp only)); refine box_event ?hg (N := 1) ?hd (cs := #[.int .i64 a0_0, .int .i64 a0_1, .int .i64 a0_2, .string a0_3, .int .i64 a0_4]) (t := 64) ?hr ?_; (case hd => rfl); (case hg => rfl); (case hr => first | (go_simp; done) | (go_simp; rfl)); intro gb333 hg w9 hbox hb; have n0_ := Aside0.mk (below_step (by repeat (first | (with_reducible first | exact HB.out | apply below_alloc | apply pw_below_drewN | apply below_drew1) | exact HB.out)) hb); have n1_ := Aside0.mk (hbox); have n2_ := Aside0.mk ((by rw [hg]; exact (below_size (by repeat (first | (with_reducible first | exact HB.out | apply below_alloc | apply pw_below_drewN | apply below_drew1) | exact HB.out))) : w.heap.size ≤ gb333)); have n3_ := Aside0.mk ((by rw [hg]; exact (below_size (by repeat (first | (with_reducible first | exact HB.out | apply below_alloc | apply pw_below_drewN | apply below_drew1) | exact HB.out))) : w.heap.size ≤ gb333)); clear HB; have HB := n0_; have BK333 := n1_; have GW333 := n2_; have GE333 := n3_; clear n0_ n1_ n2_ n3_; clear hb hbox hg; have hcz10_0 : w9.cell? ⟨gb333, 0, none⟩ = some (.int .i64 a0_0) := (blk_cell BK333.out 0).trans rfl; have hcz10_1 : w9.cell? ⟨gb333, 1, none⟩ = some (.int .i64 a0_1) := (blk_cell BK333.out 1).trans rfl; have hcz10_2 : w9.cell? ⟨gb333, 2, none⟩ = some (.int .i64 a0_2) := (blk_cell BK333.out 2).trans rfl; have hcz10_3 : w9.cell? ⟨gb333, 3, none⟩ = some (.string a0_3) := (blk_cell BK333.out 3).trans rfl; have hcz10_4 : w9.cell? ⟨gb333, 4, none⟩ = some (.int .i64 a0_4) := (blk_cell BK333.out 4).trans rfl; have hfz10_0 := blk_frozen BK333.out 0; have hfz10_1 := blk_frozen BK333.out 1; have hfz10_2 := blk_frozen BK333.out 2; have hfz10_3 := blk_frozen BK333.out 3; have hfz10_4 := blk_frozen BK333.out 4))
    go_ret
    exact ⟨by first | rfl | (simp [errW_none, errW_some] <;> rfl) | (simp [*, errW_none, errW_some] <;> rfl), by repeat (first | (with_reducible first | exact HB.out | apply below_alloc | apply pw_below_drewN | apply below_drew1 | refine below_set ?_ GE333.out) | exact HB.out)⟩
   ·rw [if_neg c8] at H
    have c8b0 : decide (a0_1 < 0) = false := decide_eq_false c8
    clear c8
    by_cases c11 : a0_1 > 1099511627776
    ·rw [if_pos c11] at H
     have c11b0 : decide (1099511627776 < a0_1) = true := decide_eq_true c11
     clear c11
     obtain rfl := Option.some.inj H
     go_enter Try.func46, Try.ntmps46
     go_wp2_with (first | ((with_reducible refine gate_dst (N := 1) rfl ?_); (try (refine gate_guard (by rfl) ?_; dsimp only)); refine box_event ?hg (N := 1) ?hd (cs := #[.int .i64 a0_0, .int .i64 a0_1, .int .i64 a0_2, .string a0_3, .int .i64 a0_4]) (t := 64) ?hr ?_; (case hd => rfl); (case hg => rfl); (case hr => first | (go_simp; done) | (go_simp; rfl)); intro gb333 hg w12 hbox hb; have n0_ := Aside0.mk (below_step (by repeat (first | (with_reducible first | exact HB.out | apply below_alloc | apply pw_below_drewN | apply below_drew1) | exact HB.out)) hb); have n1_ := Aside0.mk (hbox); have n2_ := Aside0.mk ((by rw [hg]; exact (below_size (by repeat (first | (with_reducible first | exact HB.out | apply below_alloc | apply pw_below_drewN | apply below_drew1) | exact HB.out))) : w.heap.size ≤ gb333)); have n3_ := Aside0.mk ((by rw [hg]; exact (below_size (by repeat (first | (with_reducible first | exact HB.out | apply below_alloc | apply pw_below_drewN | apply below_drew1) | exact HB.out))) : w.heap.size ≤ gb333)); clear HB; have HB := n0_; have BK333 := n1_; have GW333 := n2_; have GE333 := n3_; clear n0_ n1_ n2_ n3_; clear hb hbox hg; have hcz13_0 : w12.cell? ⟨gb333, 0, none⟩ = some (.int .i64 a0_0) := (blk_cell BK333.out 0).trans rfl; have hcz13_1 : w12.cell? ⟨gb333, 1, none⟩ = some (.int .i64 a0_1) := (blk_cell BK333.out 1).trans rfl; have hcz13_2 : w12.cell? ⟨gb333, 2, none⟩ = some (.int .i64 a0_2) := (blk_cell BK333.out 2).trans rfl; have hcz13_3 : w12.cell? ⟨gb333, 3, none⟩ = some (.string a0_3) := (blk_cell BK333.out 3).trans rfl; have hcz13_4 : w12.cell? ⟨gb333, 4, none⟩ = some (.int .i64 a0_4) := (blk_cell BK333.out 4).trans rfl; have hfz13_0 := blk_frozen BK333.out 0; have hfz13_1 := blk_frozen BK333.out 1; have hfz13_2 := blk_frozen BK333.out 2; have hfz13_3 := blk_frozen BK333.out 3; have hfz13_4 := blk_frozen BK333.out 4))
     go_ret
     exact ⟨by first | rfl | (simp [errW_none, errW_some] <;> rfl) | (simp [*, errW_none, errW_some] <;> rfl), by repeat (first | (with_reducible first | exact HB.out | apply below_alloc | apply pw_below_drewN | apply below_drew1 | refine below_set ?_ GE333.out) | exact HB.out)⟩
    ·rw [if_neg c11] at H
     have c11b0 : decide (1099511627776 < a0_1) = false := decide_eq_false c11
     clear c11
     by_cases c14 : a0_2 ≥ 0
     ·rw [if_pos c14] at H
      have c14b0 : decide (0 ≤ a0_2) = true := decide_eq_true c14
      clear c14
      by_cases c15 : a0_2 ≤ 100
      ·rw [if_pos c15] at H
       have c15b0 : decide (a0_2 ≤ 100) = true := decide_eq_true c15
       clear c15
       by_cases c16 : (a0_3.size : Int) ≤ 32
       ·rw [if_pos c16] at H
        have c16b0 : decide ((a0_3.size : Int) ≤ 32) = true := decide_eq_true c16
        have c16b1 : decide (a0_3.size ≤ 32) = true := decide_eq_true (by omega)
        clear c16
        by_cases c17 : a0_4 ≥ 0
        ·rw [if_pos c17] at H
         have c17b0 : decide (0 ≤ a0_4) = true := decide_eq_true c17
         clear c17
         obtain rfl := Option.some.inj H
         go_enter Try.func46, Try.ntmps46
         go_wp2_with (first | ((with_reducible refine gate_dst (N := 1) rfl ?_); (try (refine gate_guard (by rfl) ?_; dsimp only)); refine box_event ?hg (N := 1) ?hd (cs := #[.int .i64 a0_0, .int .i64 a0_1, .int .i64 a0_2, .string a0_3, .int .i64 a0_4]) (t := 64) ?hr ?_; (case hd => rfl); (case hg => rfl); (case hr => first | (go_simp; done) | (go_simp; rfl)); intro gb333 hg w18 hbox hb; have n0_ := Aside0.mk (below_step (by repeat (first | (with_reducible first | exact HB.out | apply below_alloc | apply pw_below_drewN | apply below_drew1) | exact HB.out)) hb); have n1_ := Aside0.mk (hbox); have n2_ := Aside0.mk ((by rw [hg]; exact (below_size (by repeat (first | (with_reducible first | exact HB.out | apply below_alloc | apply pw_below_drewN | apply below_drew1) | exact HB.out))) : w.heap.size ≤ gb333)); have n3_ := Aside0.mk ((by rw [hg]; exact (below_size (by repeat (first | (with_reducible first | exact HB.out | apply below_alloc | apply pw_below_drewN | apply below_drew1) | exact HB.out))) : w.heap.size ≤ gb333)); clear HB; have HB := n0_; have BK333 := n1_; have GW333 := n2_; have GE333 := n3_; clear n0_ n1_ n2_ n3_; clear hb hbox hg; have hcz19_0 : w18.cell? ⟨gb333, 0, none⟩ = some (.int .i64 a0_0) := (blk_cell BK333.out 0).trans rfl; have hcz19_1 : w18.cell? ⟨gb333, 1, none⟩ = some (.int .i64 a0_1) := (blk_cell BK333.out 1).trans rfl; have hcz19_2 : w18.cell? ⟨gb333, 2, none⟩ = some (.int .i64 a0_2) := (blk_cell BK333.out 2).trans rfl; have hcz19_3 : w18.cell? ⟨gb333, 3, none⟩ = some (.string a0_3) := (blk_cell BK333.out 3).trans rfl; have hcz19_4 : w18.cell? ⟨gb333, 4, none⟩ = some (.int .i64 a0_4) := (blk_cell BK333.out 4).trans rfl; have hfz19_0 := blk_frozen BK333.out 0; have hfz19_1 := blk_frozen BK333.out 1; have hfz19_2 := blk_frozen BK333.out 2; have hfz19_3 := blk_frozen BK333.out 3; have hfz19_4 := blk_frozen BK333.out 4))
         go_ret
         exact ⟨by first | rfl | (simp [errW_none, errW_some] <;> rfl) | (simp [*, errW_none, errW_some] <;> rfl), by repeat (first | (with_reducible first | exact HB.out | apply below_alloc | apply pw_below_drewN | apply below_drew1 | refine below_set ?_ GE333.out) | exact HB.out)⟩
        ·rw [if_neg c17] at H
         have c17b0 : decide (0 ≤ a0_4) = false := decide_eq_false c17
         clear c17
         obtain rfl := Option.some.inj H
         go_enter Try.func46, Try.ntmps46
         go_wp2_with (first | ((with_reducible refine gate_dst (N := 1) rfl ?_); (try (refine gate_guard (by rfl) ?_; dsimp only)); refine box_event ?hg (N := 1) ?hd (cs := #[.int .i64 a0_0, .int .i64 a0_1, .int .i64 a0_2, .string a0_3, .int .i64 a0_4]) (t := 64) ?hr ?_; (case hd => rfl); (case hg => rfl); (case hr => first | (go_simp; done) | (go_simp; rfl)); intro gb333 hg w20 hbox hb; have n0_ := Aside0.mk (below_step (by repeat (first | (with_reducible first | exact HB.out | apply below_alloc | apply pw_below_drewN | apply below_drew1) | exact HB.out)) hb); have n1_ := Aside0.mk (hbox); have n2_ := Aside0.mk ((by rw [hg]; exact (below_size (by repeat (first | (with_reducible first | exact HB.out | apply below_alloc | apply pw_below_drewN | apply below_drew1) | exact HB.out))) : w.heap.size ≤ gb333)); have n3_ := Aside0.mk ((by rw [hg]; exact (below_size (by repeat (first | (with_reducible first | exact HB.out | apply below_alloc | apply pw_below_drewN | apply below_drew1) | exact HB.out))) : w.heap.size ≤ gb333)); clear HB; have HB := n0_; have BK333 := n1_; have GW333 := n2_; have GE333 := n3_; clear n0_ n1_ n2_ n3_; clear hb hbox hg; have hcz21_0 : w20.cell? ⟨gb333, 0, none⟩ = some (.int .i64 a0_0) := (blk_cell BK333.out 0).trans rfl; have hcz21_1 : w20.cell? ⟨gb333, 1, none⟩ = some (.int .i64 a0_1) := (blk_cell BK333.out 1).trans rfl; have hcz21_2 : w20.cell? ⟨gb333, 2, none⟩ = some (.int .i64 a0_2) := (blk_cell BK333.out 2).trans rfl; have hcz21_3 : w20.cell? ⟨gb333, 3, none⟩ = some (.string a0_3) := (blk_cell BK333.out 3).trans rfl; have hcz21_4 : w20.cell? ⟨gb333, 4, none⟩ = some (.int .i64 a0_4) := (blk_cell BK333.out 4).trans rfl; have hfz21_0 := blk_frozen BK333.out 0; have hfz21_1 := blk_frozen BK333.out 1; have hfz21_2 := blk_frozen BK333.out 2; have hfz21_3 := blk_frozen BK333.out 3; have hfz21_4 := blk_frozen BK333.out 4))
         go_ret
         exact ⟨by first | rfl | (simp [errW_none, errW_some] <;> rfl) | (simp [*, errW_none, errW_some] <;> rfl), by repeat (first | (with_reducible first | exact HB.out | apply below_alloc | apply pw_below_drewN | apply below_drew1 | refine below_set ?_ GE333.out) | exact HB.out)⟩
       ·rw [if_neg c16] at H
        have c16b0 : decide ((a0_3.size : Int) ≤ 32) = false := decide_eq_false c16
        have c16b1 : decide (a0_3.size ≤ 32) = false := decide_eq_false (by omega)
        clear c16
        obtain rfl := Option.some.inj H
        go_enter Try.func46, Try.ntmps46
        go_wp2_with (first | ((with_reducible refine gate_dst (N := 1) rfl ?_); (try (refine gate_guard (by rfl) ?_; dsimp only)); refine box_event ?hg (N := 1) ?hd (cs := #[.int .i64 a0_0, .int .i64 a0_1, .int .i64 a0_2, .string a0_3, .int .i64 a0_4]) (t := 64) ?hr ?_; (case hd => rfl); (case hg => rfl); (case hr => first | (go_simp; done) | (go_simp; rfl)); intro gb333 hg w22 hbox hb; have n0_ := Aside0.mk (below_step (by repeat (first | (with_reducible first | exact HB.out | apply below_alloc | apply pw_below_drewN | apply below_drew1) | exact HB.out)) hb); have n1_ := Aside0.mk (hbox); have n2_ := Aside0.mk ((by rw [hg]; exact (below_size (by repeat (first | (with_reducible first | exact HB.out | apply below_alloc | apply pw_below_drewN | apply below_drew1) | exact HB.out))) : w.heap.size ≤ gb333)); have n3_ := Aside0.mk ((by rw [hg]; exact (below_size (by repeat (first | (with_reducible first | exact HB.out | apply below_alloc | apply pw_below_drewN | apply below_drew1) | exact HB.out))) : w.heap.size ≤ gb333)); clear HB; have HB := n0_; have BK333 := n1_; have GW333 := n2_; have GE333 := n3_; clear n0_ n1_ n2_ n3_; clear hb hbox hg; have hcz23_0 : w22.cell? ⟨gb333, 0, none⟩ = some (.int .i64 a0_0) := (blk_cell BK333.out 0).trans rfl; have hcz23_1 : w22.cell? ⟨gb333, 1, none⟩ = some (.int .i64 a0_1) := (blk_cell BK333.out 1).trans rfl; have hcz23_2 : w22.cell? ⟨gb333, 2, none⟩ = some (.int .i64 a0_2) := (blk_cell BK333.out 2).trans rfl; have hcz23_3 : w22.cell? ⟨gb333, 3, none⟩ = some (.string a0_3) := (blk_cell BK333.out 3).trans rfl; have hcz23_4 : w22.cell? ⟨gb333, 4, none⟩ = some (.int .i64 a0_4) := (blk_cell BK333.out 4).trans rfl; have hfz23_0 := blk_frozen BK333.out 0; have hfz23_1 := blk_frozen BK333.out 1; have hfz23_2 := blk_frozen BK333.out 2; have hfz23_3 := blk_frozen BK333.out 3; have hfz23_4 := blk_frozen BK333.out 4))
        go_ret
        exact ⟨by first | rfl | (simp [errW_none, errW_some] <;> rfl) | (simp [*, errW_none, errW_some] <;> rfl), by repeat (first | (with_reducible first | exact HB.out | apply below_alloc | apply pw_below_drewN | apply below_drew1 | refine below_set ?_ GE333.out) | exact HB.out)⟩
      ·rw [if_neg c15] at H
       have c15b0 : decide (a0_2 ≤ 100) = false := decide_eq_false c15
       clear c15
       obtain rfl := Option.some.inj H
       go_enter Try.func46, Try.ntmps46
       go_wp2_with (first | ((with_reducible refine gate_dst (N := 1) rfl ?_); (try (refine gate_guard (by rfl) ?_; dsimp only)); refine box_event ?hg (N := 1) ?hd (cs := #[.int .i64 a0_0, .int .i64 a0_1, .int .i64 a0_2, .string a0_3, .int .i64 a0_4]) (t := 64) ?hr ?_; (case hd => rfl); (case hg => rfl); (case hr => first | (go_simp; done) | (go_simp; rfl)); intro gb333 hg w24 hbox hb; have n0_ := Aside0.mk (below_step (by repeat (first | (with_reducible first | exact HB.out | apply below_alloc | apply pw_below_drewN | apply below_drew1) | exact HB.out)) hb); have n1_ := Aside0.mk (hbox); have n2_ := Aside0.mk ((by rw [hg]; exact (below_size (by repeat (first | (with_reducible first | exact HB.out | apply below_alloc | apply pw_below_drewN | apply below_drew1) | exact HB.out))) : w.heap.size ≤ gb333)); have n3_ := Aside0.mk ((by rw [hg]; exact (below_size (by repeat (first | (with_reducible first | exact HB.out | apply below_alloc | apply pw_below_drewN | apply below_drew1) | exact HB.out))) : w.heap.size ≤ gb333)); clear HB; have HB := n0_; have BK333 := n1_; have GW333 := n2_; have GE333 := n3_; clear n0_ n1_ n2_ n3_; clear hb hbox hg; have hcz25_0 : w24.cell? ⟨gb333, 0, none⟩ = some (.int .i64 a0_0) := (blk_cell BK333.out 0).trans rfl; have hcz25_1 : w24.cell? ⟨gb333, 1, none⟩ = some (.int .i64 a0_1) := (blk_cell BK333.out 1).trans rfl; have hcz25_2 : w24.cell? ⟨gb333, 2, none⟩ = some (.int .i64 a0_2) := (blk_cell BK333.out 2).trans rfl; have hcz25_3 : w24.cell? ⟨gb333, 3, none⟩ = some (.string a0_3) := (blk_cell BK333.out 3).trans rfl; have hcz25_4 : w24.cell? ⟨gb333, 4, none⟩ = some (.int .i64 a0_4) := (blk_cell BK333.out 4).trans rfl; have hfz25_0 := blk_frozen BK333.out 0; have hfz25_1 := blk_frozen BK333.out 1; have hfz25_2 := blk_frozen BK333.out 2; have hfz25_3 := blk_frozen BK333.out 3; have hfz25_4 := blk_frozen BK333.out 4))
       go_ret
       exact ⟨by first | rfl | (simp [errW_none, errW_some] <;> rfl) | (simp [*, errW_none, errW_some] <;> rfl), by repeat (first | (with_reducible first | exact HB.out | apply below_alloc | apply pw_below_drewN | apply below_drew1 | refine below_set ?_ GE333.out) | exact HB.out)⟩
     ·rw [if_neg c14] at H
      have c14b0 : decide (0 ≤ a0_2) = false := decide_eq_false c14
      clear c14
      obtain rfl := Option.some.inj H
      go_enter Try.func46, Try.ntmps46
      go_wp2_with (first | ((with_reducible refine gate_dst (N := 1) rfl ?_); (try (refine gate_guard (by rfl) ?_; dsimp only)); refine box_event ?hg (N := 1) ?hd (cs := #[.int .i64 a0_0, .int .i64 a0_1, .int .i64 a0_2, .string a0_3, .int .i64 a0_4]) (t := 64) ?hr ?_; (case hd => rfl); (case hg => rfl); (case hr => first | (go_simp; done) | (go_simp; rfl)); intro gb333 hg w26 hbox hb; have n0_ := Aside0.mk (below_step (by repeat (first | (with_reducible first | exact HB.out | apply below_alloc | apply pw_below_drewN | apply below_drew1) | exact HB.out)) hb); have n1_ := Aside0.mk (hbox); have n2_ := Aside0.mk ((by rw [hg]; exact (below_size (by repeat (first | (with_reducible first | exact HB.out | apply below_alloc | apply pw_below_drewN | apply below_drew1) | exact HB.out))) : w.heap.size ≤ gb333)); have n3_ := Aside0.mk ((by rw [hg]; exact (below_size (by repeat (first | (with_reducible first | exact HB.out | apply below_alloc | apply pw_below_drewN | apply below_drew1) | exact HB.out))) : w.heap.size ≤ gb333)); clear HB; have HB := n0_; have BK333 := n1_; have GW333 := n2_; have GE333 := n3_; clear n0_ n1_ n2_ n3_; clear hb hbox hg; have hcz27_0 : w26.cell? ⟨gb333, 0, none⟩ = some (.int .i64 a0_0) := (blk_cell BK333.out 0).trans rfl; have hcz27_1 : w26.cell? ⟨gb333, 1, none⟩ = some (.int .i64 a0_1) := (blk_cell BK333.out 1).trans rfl; have hcz27_2 : w26.cell? ⟨gb333, 2, none⟩ = some (.int .i64 a0_2) := (blk_cell BK333.out 2).trans rfl; have hcz27_3 : w26.cell? ⟨gb333, 3, none⟩ = some (.string a0_3) := (blk_cell BK333.out 3).trans rfl; have hcz27_4 : w26.cell? ⟨gb333, 4, none⟩ = some (.int .i64 a0_4) := (blk_cell BK333.out 4).trans rfl; have hfz27_0 := blk_frozen BK333.out 0; have hfz27_1 := blk_frozen BK333.out 1; have hfz27_2 := blk_frozen BK333.out 2; have hfz27_3 := blk_frozen BK333.out 3; have hfz27_4 := blk_frozen BK333.out 4))
      go_ret
      exact ⟨by first | rfl | (simp [errW_none, errW_some] <;> rfl) | (simp [*, errW_none, errW_some] <;> rfl), by repeat (first | (with_reducible first | exact HB.out | apply below_alloc | apply pw_below_drewN | apply below_drew1 | refine below_set ?_ GE333.out) | exact HB.out)⟩

end Go.Proofs.Ytcdnmlfnfhoieaa.A
