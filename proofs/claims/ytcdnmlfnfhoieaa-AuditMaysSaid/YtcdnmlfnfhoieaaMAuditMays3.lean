/- AuditMays, for every audit: the law answers true, and every argument reads behind the call as before. No condition beyond the row's own. -/
import Derived.Test.YtcdnmlfnfhoieaaMSha0
import Derived.Test.YtcdnmlfnfhoieaaMAuditMays0
import Derived.Test.YtcdnmlfnfhoieaaMAuditMays1
import Derived.Test.YtcdnmlfnfhoieaaMAuditMays2
import Derived.Deep.SlicePairs
import Derived.Lib.SmallJoins
import Derived.ChangeMaps5
import Derived.OpenShut
import Derived.Test.YtcdnmlfnfhoieaaRows
import Derived.WalkKit
import Derived.ProofKit
import Derived.ShutString
import Derived.ChangeOld
import Derived.Below
import Derived.SizedLaws

/- AuditMays, walked: what a new audit is, and which may be, are the document's. No condition. -/
namespace Go.Proofs.Ytcdnmlfnfhoieaa.A
open Go.RowKit Go.Proofs.YtcdnmlfnfhoieaaW.PrintWords Go.Proofs.YtcdnmlfnfhoieaaW.PrintLast Go.Proofs.YtcdnmlfnfhoieaaW.PrintMore Go.Proofs.Ytcdnmlfnfhoieaa.Bs
attribute [local go_sem] max2_int min2_int max_two min_two max_three min_three max_four min_four
set_option linter.unusedVariables false
set_option linter.unusedSimpArgs false

theorem same_new : strongroomref13_Same.f 20 z32 0 [] z32 0 [] = some true := by
 rw [same_some z32 z32 0 0 [] [] (by decide) 20 (by decide)]
 rfl
theorem may_new : audit_May.f 20 z32 0 [] = some true := by kernel_rfl
theorem theirs_new : strongroomlaw13_theirs.f z32 0 [] = some (z32, 0, []) := rfl
theorem of_new : strongroomref13_Of.f [] = some (z32, 0, []) := if_pos rfl
theorem mine_ok (a : ByteArray) (n : Int) (l : List S64) (hl : l.length ≤ 1000) : strongroomlaw13_mine.f a n l = some (a, n, l) := by
 unfold strongroomlaw13_mine.f
 rw [if_pos (by simp; omega)]
 rfl

theorem C64_lt' {w : World} {ad : Addr} {n : Nat} {xs : List S64} (h : Kd.C k64 w (some ad) n xs) (hn : 0 < n) : ad.block < w.heap.size := by
 obtain ⟨ad', e, h0, _⟩ := at_T64 h 0 (by decide) (by omega)
 cases e
 have := World.block_lt_of_cell? w _ h0
 rwa [add_block] at this

set_option maxHeartbeats 8000000 in
set_option maxRecDepth 100000 in
theorem mays_walk (a : ByteArray) (n : Int) (A : Option Addr) (c : Nat) (l : List S64) (w : World) (hr : Kd.C k64 w A l.length l) (hc : l.length ≤ c) :
  Calls Try.prog 7 #[.agg #[.string a, .int .i64 n, .slice A l.length c]] w fun e w' => e = .returned (.bool true) ∧ Below w.heap.size w w' := by
 have hu54 := Try.underlying54
 have hu56 := Try.underlying56
 have HI56 : Aside0 ((Try.prog.info? 56).map (·.size) = some 3) := ⟨by kernel_rfl⟩
 have HR := Aside0.mk hr
 have HC := Aside0.mk hc
 clear hr hc
 obtain ⟨s, hs, hsm⟩ := small_some a n l 60 (by decide)
 have HS := Aside0.mk hs
 have HSM := Aside0.mk hsm
 clear hs hsm
 go_enter Try.func7, Try.ntmps7
 go_upto_region 1 with ((with_reducible refine gate_dst (N := 1) rfl ?_); refine box_event ?hg (N := 1) ?hd (cs := #[.string a, .int .i64 n, .slice A l.length c]) (t := 54) ?hr ?_; (case hd => rfl); (case hg => rfl); (case hr => first | (go_simp; done) | (go_simp; rfl)); intro g1 hg1 w1 hb1 hbel1; have HB1 := Aside0.mk hb1; have HL1 := Aside0.mk hbel1; have HR1 := Aside0.mk (Kd.C_below HR.out hbel1); have HG1 : Aside0 (w.heap.size ≤ g1) := ⟨by rw [hg1]; exact Nat.le_refl _⟩; clear hg1 hb1 hbel1)
 have c0 : w1.cell? ⟨g1, 0, none⟩ = some (.string a) := (blk_cell HB1.out 0).trans rfl
 have c1 : w1.cell? ⟨g1, 1, none⟩ = some (.int .i64 n) := (blk_cell HB1.out 1).trans rfl
 have c2 : w1.cell? ⟨g1, 2, none⟩ = some (.slice A l.length c) := (blk_cell HB1.out 2).trans rfl
 go_wp2_with fail
 refine (strongroomlaw13_small.calls 60 a n A c l s w1 HR1.out HC.out HS.out).mono ?_
 rintro e w2 ⟨rfl, hb2⟩
 have HL2 := Aside0.mk (below_step HL1.out hb2)
 have HB2 := Aside0.mk (blk_below HB1.out hb2)
 have HR2 := Aside0.mk (Kd.C_below HR1.out hb2)
 clear c0 c1 c2 hb2 HL1 HB1 HR1 HR
 cases s with
 | false =>
  go_wp2_with fail
  refine (lives13_walk w2).mono ?_
  rintro e w3 ⟨rfl, hb3⟩
  have HL3 := Aside0.mk (below_step HL2.out hb3)
  clear hb3
  go_wp2_with fail
  go_ret
  exact ⟨rfl, HL3.out⟩
 | true =>
  have hl := (HSM.out rfl).1
  have HLEN := Aside0.mk hl
  clear hl HSM
  go_wp2_with fail
  refine (audit_New.calls z32 0 [] w2 new_some).mono ?_
  rintro e w3 ⟨v3, rfl, hr3, hb3⟩
  have HV3 := Aside0.mk hr3
  have HL3 := Aside0.mk (below_step HL2.out hb3)
  have HB3 := Aside0.mk (blk_below HB2.out hb3)
  have HR3 := Aside0.mk (Kd.C_below HR2.out hb3)
  have HLN : Aside0 (w.heap.size ≤ w2.heap.size ∧ g1 < w2.heap.size) := ⟨below_size HL2.out, blk_lt HB2.out⟩
  have HLW3 := Aside0.mk hb3
  have HSZ3 : Aside0 (w2.heap.size ≤ w3.heap.size) := ⟨below_size hb3⟩
  obtain ⟨An, nn, cn, rfl⟩ := R_shape hr3
  obtain rfl : nn = 0 := (Kd.R_reads' hr3).1
  have HA3 : Aside0 ((#[.string z32, .int .i64 0, .slice An 0 cn] : Array Value).all (·.oneCell') = true) := ⟨by simp [Value.oneCell']⟩
  have HL2K := HL2
  have HR2K := HR2
  have HB2K := HB2
  clear hr3 hb3 HL2 HB2 HR2
  go_upto_region 4 with (first | ((with_reducible refine gate_dst (N := 3) rfl ?_); refine box_event ?hg (N := 3) ?hd (cs := #[.string ⟨#[]⟩, .int .i64 0, .slice none 0 0]) (t := 56) ?hr ?_; (case hd => rfl); (case hg => rfl); (case hr => first | (go_simp; done) | (go_simp; rfl)); intro g3 hg3 w4 hb4 hbel4; have HB4 := Aside0.mk hb4; have HL4 := Aside0.mk (below_step HL3.out hbel4); have HV4 := Aside0.mk (Kd.R_below HV3.out hbel4); have HR4 := Aside0.mk (Kd.C_below HR3.out hbel4); have HC4 := Aside0.mk (blk_below HB3.out hbel4); have HLW4 := Aside0.mk (below_step HLW3.out hbel4); have HG3 : Aside0 (w2.heap.size ≤ g3 ∧ g1 < g3) := ⟨by rw [hg3]; exact ⟨HSZ3.out, blk_lt HB3.out⟩⟩; clear hg3 hb4 hbel4) | (refine gate_ (.store 56 (.tmp 3) (.tmp 8)) rfl ?_; refine wpList_store_row rfl 56 (.tmp 3) (.tmp 8) rfl g3 #[.string z32, .int .i64 0, .slice An 0 cn] rfl rfl 56 _ HB4.out HI56.out rfl HA3.out ?_))
  have hb5 : (w4.setRow g3 #[.string z32, .int .i64 0, .slice An 0 cn]).heap[g3]? = some (.cells #[.string z32, .int .i64 0, .slice An 0 cn] 56 (0, 0)) := setRow_heap _ _ _ _ _ _ HB4.out
  have hc5 : (w4.setRow g3 #[.string z32, .int .i64 0, .slice An 0 cn]).heap[g1]? = some (.cells #[.string a, .int .i64 n, .slice A l.length c] 54 (0, 0)) := by rw [setRow_other _ _ _ _ (Nat.ne_of_lt HG3.out.2)]; exact HC4.out
  have hf5 : Fr w4 (w4.setRow g3 #[.string z32, .int .i64 0, .slice An 0 cn]) (fun k => k = g3) := Fr.setRow (Fr.refl _ _) rfl
  have hl5 : Below w.heap.size w (w4.setRow g3 #[.string z32, .int .i64 0, .slice An 0 cn]) := HL4.out.trans (below_setRow (Nat.le_trans HLN.out.1 HG3.out.1))
  have hr5 : Kd.C k64 (w4.setRow g3 #[.string z32, .int .i64 0, .slice An 0 cn]) A l.length l := by
   have h1 : Kd.C k64 (w4.setRow g3 #[.string z32, .int .i64 0, .slice An 0 cn]) A l.length l := C_frame64 HR4.out hf5 (fun ad e hn hk => by subst e; have := C64_lt' HR2K.out hn; have := HG3.out.1; exact absurd hk (by show ¬ ad.block = g3; omega))
   exact h1
  have hv5 : Kd.R k64 64 (w4.setRow g3 #[.string z32, .int .i64 0, .slice An 0 cn]) w2.heap.size (fun k => k ≠ g3) (.slice An 0 cn) [] := Kd.R_mono (Kd.R_step (Kd.R_types HV4.out HB4.out (by decide)) (fun k hk hl => hf5.block k hl hk.2)) (fun _ h => h.2)
  have hw5 : Below w2.heap.size w2 (w4.setRow g3 #[.string z32, .int .i64 0, .slice An 0 cn]) := HLW4.out.trans (below_setRow HG3.out.1)
  generalize w4.setRow g3 #[.string z32, .int .i64 0, .slice An 0 cn] = w5 at hb5 hc5 hf5 hl5 hr5 hv5 hw5 ⊢
  have HN5 := Aside0.mk hb5
  have HB5 := Aside0.mk hc5
  have HV5 := Aside0.mk hv5
  have HW5 := Aside0.mk hw5
  have HLW : Aside0 (Below w.heap.size w w2) := HL2K
  have e0 : w5.cell? ⟨g3, 0, none⟩ = some (.string z32) := (blk_cell HN5.out 0).trans rfl
  have e1 : w5.cell? ⟨g3, 1, none⟩ = some (.int .i64 0) := (blk_cell HN5.out 1).trans rfl
  have e2 : w5.cell? ⟨g3, 2, none⟩ = some (.slice An 0 cn) := (blk_cell HN5.out 2).trans rfl
  have c0 : w5.cell? ⟨g1, 0, none⟩ = some (.string a) := (blk_cell HB5.out 0).trans rfl
  have c1 : w5.cell? ⟨g1, 1, none⟩ = some (.int .i64 n) := (blk_cell HB5.out 1).trans rfl
  have c2 : w5.cell? ⟨g1, 2, none⟩ = some (.slice A l.length c) := (blk_cell HB5.out 2).trans rfl
  obtain ⟨m, hm⟩ : ∃ m, mayB a n l = m := ⟨_, rfl⟩
  have HM1 : Aside0 (audit_May.f 60 a n l = some m) := ⟨by rw [← hm]; exact may_some a n l (by have := HLEN.out; omega) 60 (by have := HLEN.out; omega)⟩
  have HM2 : Aside0 (strongroomref13_May.f 60 a n l = some m) := ⟨by rw [← hm]; exact refmay_some a n l (by have := HLEN.out; omega) 60 (by have := HLEN.out; omega)⟩
  have HMI : Aside0 (strongroomlaw13_mine.f a n l = some (a, n, l)) := ⟨mine_ok a n l (by have := HLEN.out; omega)⟩
  clear hb5 hc5 hf5 hl5 hr5 hv5 hw5 hm HB4 HL4 HV4 HR4 HC4 HLW4 HLW3 HL3 HB3 HR3 HV3 HL2K
  refine start_ (n := 20) (S := fun w' => w'.cell? ⟨g3, 0, none⟩ = some (.string z32) ∧ w'.cell? ⟨g3, 1, none⟩ = some (.int .i64 0) ∧ w'.cell? ⟨g3, 2, none⟩ = some (.slice An 0 cn) ∧ w'.cell? ⟨g1, 0, none⟩ = some (.string a) ∧ w'.cell? ⟨g1, 1, none⟩ = some (.int .i64 n) ∧ w'.cell? ⟨g1, 2, none⟩ = some (.slice A l.length c)) (ds := []) #[false, false, false, false, false, false, false, false, false, false, false, false, false, false, false, false, false, false, false, false] (by kernel_rfl) rfl rfl ⟨e0, e1, e2, c0, c1, c2⟩ (fun hHeld => ?_)
  refine take_ (i := 0) (N := some 9) (v := ?_) (a' := ?_) #[true, false, false, false, false, false, false, false, false, false, false, false, false, false, false, false, false, false, false, false] rfl rfl (by kernel_rfl) (fun _ _ _ h => h) (Or.inl ⟨by rfl, ?_⟩) hHeld ?_ ?_
  rotate_left
  ·rintro w' ⟨s0, s1, s2, s3, s4, s5⟩
   go_simp
   with_reducible rfl
  rotate_left
  ·simp only [Act.put, List.setIfInBounds_toArray, List.set_cons_zero, List.set_cons_succ, i64_w, i32_w]
   rfl
  refine one_ (i := 1) (N := some 10) #[true, true, false, false, false, false, false, false, false, false, false, false, false, false, false, false, false, false, false, false] rfl rfl (by kernel_rfl) (by decide) (fun K hK => ?_)
  refine goes_ Try.func37 (by kernel_rfl) rfl #[.agg #[.string z32, .int .i64 0, .slice An 0 cn]] (by rfl) rfl rfl (by first | (simp only [List.map_toArray, List.map_cons, List.map_nil]; done) | (simp only [List.map_toArray, List.map_cons, List.map_nil]; rfl)) ?_
  refine (strongroomlaw13_theirs.calls z32 0 (fun k => k ≠ g3) (.slice An 0 cn) [] z32 0 [] w2 w5.drew (below_drew HW5.out) (Kd.R_drew HV5.out) theirs_new).mono ?_
  rintro e wa ⟨vt, rfl, hrt, hb, hk⟩
  refine ⟨_, rfl, ?_⟩
  obtain ⟨At, nt, ct, rfl⟩ := R_shape hrt
  obtain rfl : nt = 0 := (Kd.R_reads' hrt).1
  have HCT : Aside0 (Kd.C k64 wa At 0 []) := ⟨(Kd.R_reads' hrt).2.2⟩
  have HWa := Aside0.mk hb
  have HNa : Aside0 (wa.heap[g3]? = some (.cells #[.string z32, .int .i64 0, .slice An 0 cn] 56 (0, 0))) := ⟨(hk.2 g3 (blk_lt HN5.out) (fun h => h rfl)).trans HN5.out⟩
  have HBa := Aside0.mk (blk_below HB2K.out HWa.out)
  have e0a : wa.cell? ⟨g3, 0, none⟩ = some (.string z32) := (blk_cell HNa.out 0).trans rfl
  have e1a : wa.cell? ⟨g3, 1, none⟩ = some (.int .i64 0) := (blk_cell HNa.out 1).trans rfl
  have e2a : wa.cell? ⟨g3, 2, none⟩ = some (.slice An 0 cn) := (blk_cell HNa.out 2).trans rfl
  have c0a : wa.cell? ⟨g1, 0, none⟩ = some (.string a) := (blk_cell HBa.out 0).trans rfl
  have c1a : wa.cell? ⟨g1, 1, none⟩ = some (.int .i64 n) := (blk_cell HBa.out 1).trans rfl
  have c2a : wa.cell? ⟨g1, 2, none⟩ = some (.slice A l.length c) := (blk_cell HBa.out 2).trans rfl
  have HRa : Aside0 (Kd.C k64 wa A l.length l) := ⟨Kd.C_below HR2K.out HWa.out⟩
  clear hrt hb hk
  refine hK.out _ _ ⟨e0a, e1a, e2a, c0a, c1a, c2a⟩ (fun hHeld => ?_)
  clear hK K
  refine norm_ (a' := ?_) ?_ ?_
  rotate_left
  ·show Act.put _ (some 10) _ = _
   simp only [Act.put, List.setIfInBounds_toArray, List.set_cons_zero, List.set_cons_succ, i64_w, i32_w]
   rfl
  refine one_ (i := 2) (N := some 11) #[true, true, true, false, false, false, false, false, false, false, false, false, false, false, false, false, false, false, false, false] rfl rfl (by kernel_rfl) (by decide) (fun K hK => ?_)
  refine goes_ Try.func38 (by kernel_rfl) rfl #[.slice none 0 0] (by rfl) rfl rfl (by first | (simp only [List.map_toArray, List.map_cons, List.map_nil]; done) | (simp only [List.map_toArray, List.map_cons, List.map_nil]; rfl)) ?_
  refine (strongroomref13_Of.calls none 0 [] z32 0 [] wa ⟨rfl, by simp, fun h => absurd h (Nat.lt_irrefl _)⟩ (Nat.le_refl _) of_new).mono ?_
  rintro e wb ⟨vo, rfl, hro, hb⟩
  refine ⟨_, rfl, ?_⟩
  obtain ⟨Ao, no, co, rfl⟩ := R_shape hro
  obtain rfl : no = 0 := (Kd.R_reads' hro).1
  have HCO : Aside0 (Kd.C k64 wb Ao 0 []) := ⟨(Kd.R_reads' hro).2.2⟩
  have HCU : Aside0 (Kd.C k64 wb At 0 []) := ⟨Kd.C_below HCT.out hb⟩
  clear hro
  have HWb : Aside0 (Below w2.heap.size w2 wb) := ⟨below_step HWa.out hb⟩
  have HNb := Aside0.mk (blk_below HNa.out hb)
  have HBb := Aside0.mk (blk_below HB2K.out HWb.out)
  have e0b : wb.cell? ⟨g3, 0, none⟩ = some (.string z32) := (blk_cell HNb.out 0).trans rfl
  have e1b : wb.cell? ⟨g3, 1, none⟩ = some (.int .i64 0) := (blk_cell HNb.out 1).trans rfl
  have e2b : wb.cell? ⟨g3, 2, none⟩ = some (.slice An 0 cn) := (blk_cell HNb.out 2).trans rfl
  have c0b : wb.cell? ⟨g1, 0, none⟩ = some (.string a) := (blk_cell HBb.out 0).trans rfl
  have c1b : wb.cell? ⟨g1, 1, none⟩ = some (.int .i64 n) := (blk_cell HBb.out 1).trans rfl
  have c2b : wb.cell? ⟨g1, 2, none⟩ = some (.slice A l.length c) := (blk_cell HBb.out 2).trans rfl
  have HRb : Aside0 (Kd.C k64 wb A l.length l) := ⟨Kd.C_below HR2K.out HWb.out⟩
  clear hb
  refine hK.out _ _ ⟨e0b, e1b, e2b, c0b, c1b, c2b⟩ (fun hHeld => ?_)
  clear hK K
  refine norm_ (a' := ?_) ?_ ?_
  rotate_left
  ·show Act.put _ (some 11) _ = _
   simp only [Act.put, List.setIfInBounds_toArray, List.set_cons_zero, List.set_cons_succ, i64_w, i32_w]
   rfl
  refine one_ (i := 3) (N := some 12) #[true, true, true, true, false, false, false, false, false, false, false, false, false, false, false, false, false, false, false, false] rfl rfl (by kernel_rfl) (by decide) (fun K hK => ?_)
  refine goes_ Try.func36 (by kernel_rfl) rfl #[.agg #[.string z32, .int .i64 0, .slice At 0 ct], .agg #[.string z32, .int .i64 0, .slice Ao 0 co]] (by rfl) rfl rfl (by first | (simp only [List.map_toArray, List.map_cons, List.map_nil]; done) | (simp only [List.map_toArray, List.map_cons, List.map_nil]; rfl)) ?_
  refine (strongroomref13_Same.calls 20 z32 0 At ct [] z32 0 Ao co [] true wb HCU.out (Nat.zero_le _) HCO.out (Nat.zero_le _) same_new).mono ?_
  rintro e wc ⟨rfl, hb⟩
  refine ⟨_, rfl, ?_⟩
  have HWc : Aside0 (Below w2.heap.size w2 wc) := ⟨below_step HWb.out hb⟩
  have HNc := Aside0.mk (blk_below HNb.out hb)
  have HBc := Aside0.mk (blk_below HB2K.out HWc.out)
  have e0c : wc.cell? ⟨g3, 0, none⟩ = some (.string z32) := (blk_cell HNc.out 0).trans rfl
  have e1c : wc.cell? ⟨g3, 1, none⟩ = some (.int .i64 0) := (blk_cell HNc.out 1).trans rfl
  have e2c : wc.cell? ⟨g3, 2, none⟩ = some (.slice An 0 cn) := (blk_cell HNc.out 2).trans rfl
  have c0c : wc.cell? ⟨g1, 0, none⟩ = some (.string a) := (blk_cell HBc.out 0).trans rfl
  have c1c : wc.cell? ⟨g1, 1, none⟩ = some (.int .i64 n) := (blk_cell HBc.out 1).trans rfl
  have c2c : wc.cell? ⟨g1, 2, none⟩ = some (.slice A l.length c) := (blk_cell HBc.out 2).trans rfl
  have HRc : Aside0 (Kd.C k64 wc A l.length l) := ⟨Kd.C_below HR2K.out HWc.out⟩
  clear hb
  refine hK.out _ _ ⟨e0c, e1c, e2c, c0c, c1c, c2c⟩ (fun hHeld => ?_)
  clear hK K
  refine norm_ (a' := ?_) ?_ ?_
  rotate_left
  ·show Act.put _ (some 12) _ = _
   simp only [Act.put, List.setIfInBounds_toArray, List.set_cons_zero, List.set_cons_succ, i64_w, i32_w]
   rfl
  refine pure_ (i := 4) (N := some 13) (v := ?_) (a' := ?_) #[true, true, true, true, true, false, false, false, false, false, false, false, false, false, false, false, false, false, false, false] rfl rfl (by kernel_rfl) (fun _ _ _ h => h) (Or.inl ⟨by rfl, ?_⟩) ?_ ?_
  rotate_left
  ·intro w'
   go_simp
   with_reducible rfl
  rotate_left
  ·simp only [Act.put, List.setIfInBounds_toArray, List.set_cons_zero, List.set_cons_succ, i64_w, i32_w]
   rfl
  refine take_ (i := 5) (N := some 14) (v := ?_) (a' := ?_) #[true, true, true, true, true, true, false, false, false, false, false, false, false, false, false, false, false, false, false, false] rfl rfl (by kernel_rfl) (fun _ _ _ h => h) (Or.inl ⟨by rfl, ?_⟩) hHeld ?_ ?_
  rotate_left
  ·rintro w' ⟨s0, s1, s2, s3, s4, s5⟩
   go_simp
   with_reducible rfl
  rotate_left
  ·simp only [Act.put, List.setIfInBounds_toArray, List.set_cons_zero, List.set_cons_succ, i64_w, i32_w]
   rfl
  refine one_ (i := 6) (N := some 15) #[true, true, true, true, true, true, true, false, false, false, false, false, false, false, false, false, false, false, false, false] rfl rfl (by kernel_rfl) (by decide) (fun K hK => ?_)
  refine goes_ Try.func39 (by kernel_rfl) rfl #[.agg #[.string z32, .int .i64 0, .slice An 0 cn]] (by rfl) rfl rfl (by first | (simp only [List.map_toArray, List.map_cons, List.map_nil]; done) | (simp only [List.map_toArray, List.map_cons, List.map_nil]; rfl)) ?_
  refine (audit_May.calls 20 z32 0 An cn [] true wc ⟨rfl, by simp, fun h => absurd h (Nat.lt_irrefl _)⟩ (Nat.zero_le _) may_new).mono ?_
  rintro e wd ⟨rfl, hb⟩
  refine ⟨_, rfl, ?_⟩
  have HWd : Aside0 (Below w2.heap.size w2 wd) := ⟨below_step HWc.out hb⟩
  have HNd := Aside0.mk (blk_below HNc.out hb)
  have HBd := Aside0.mk (blk_below HB2K.out HWd.out)
  have e0d : wd.cell? ⟨g3, 0, none⟩ = some (.string z32) := (blk_cell HNd.out 0).trans rfl
  have e1d : wd.cell? ⟨g3, 1, none⟩ = some (.int .i64 0) := (blk_cell HNd.out 1).trans rfl
  have e2d : wd.cell? ⟨g3, 2, none⟩ = some (.slice An 0 cn) := (blk_cell HNd.out 2).trans rfl
  have c0d : wd.cell? ⟨g1, 0, none⟩ = some (.string a) := (blk_cell HBd.out 0).trans rfl
  have c1d : wd.cell? ⟨g1, 1, none⟩ = some (.int .i64 n) := (blk_cell HBd.out 1).trans rfl
  have c2d : wd.cell? ⟨g1, 2, none⟩ = some (.slice A l.length c) := (blk_cell HBd.out 2).trans rfl
  have HRd : Aside0 (Kd.C k64 wd A l.length l) := ⟨Kd.C_below HR2K.out HWd.out⟩
  clear hb
  refine hK.out _ _ ⟨e0d, e1d, e2d, c0d, c1d, c2d⟩ (fun hHeld => ?_)
  clear hK K
  refine norm_ (a' := ?_) ?_ ?_
  rotate_left
  ·show Act.put _ (some 15) _ = _
   simp only [Act.put, List.setIfInBounds_toArray, List.set_cons_zero, List.set_cons_succ, i64_w, i32_w]
   rfl
  refine pure_ (i := 7) (N := some 16) (v := ?_) (a' := ?_) #[true, true, true, true, true, true, true, true, false, false, false, false, false, false, false, false, false, false, false, false] rfl rfl (by kernel_rfl) (fun _ _ _ h => h) (Or.inl ⟨by rfl, ?_⟩) ?_ ?_
  rotate_left
  ·intro w'
   go_simp
   with_reducible rfl
  rotate_left
  ·simp only [Act.put, List.setIfInBounds_toArray, List.set_cons_zero, List.set_cons_succ, i64_w, i32_w]
   rfl
  refine pure_ (i := 8) (N := some 17) (v := ?_) (a' := ?_) #[true, true, true, true, true, true, true, true, true, false, false, false, false, false, false, false, false, false, false, false] rfl rfl (by kernel_rfl) (fun _ _ _ h => h) (Or.inl ⟨by rfl, ?_⟩) ?_ ?_
  rotate_left
  ·intro w'
   go_simp
   with_reducible rfl
  rotate_left
  ·simp only [Act.put, List.setIfInBounds_toArray, List.set_cons_zero, List.set_cons_succ, i64_w, i32_w]
   rfl
  refine take_ (i := 9) (N := some 18) (v := ?_) (a' := ?_) #[true, true, true, true, true, true, true, true, true, true, false, false, false, false, false, false, false, false, false, false] rfl rfl (by kernel_rfl) (fun _ _ _ h => h) (Or.inl ⟨by rfl, ?_⟩) hHeld ?_ ?_
  rotate_left
  ·rintro w' ⟨s0, s1, s2, s3, s4, s5⟩
   go_simp
   with_reducible rfl
  rotate_left
  ·simp only [Act.put, List.setIfInBounds_toArray, List.set_cons_zero, List.set_cons_succ, i64_w, i32_w]
   rfl
  refine take_ (i := 12) (N := some 21) (v := ?_) (a' := ?_) #[true, true, true, true, true, true, true, true, true, true, false, false, true, false, false, false, false, false, false, false] rfl rfl (by kernel_rfl) (fun _ _ _ h => h) (Or.inl ⟨by rfl, ?_⟩) hHeld ?_ ?_
  rotate_left
  ·rintro w' ⟨s0, s1, s2, s3, s4, s5⟩
   go_simp
   with_reducible rfl
  rotate_left
  ·simp only [Act.put, List.setIfInBounds_toArray, List.set_cons_zero, List.set_cons_succ, i64_w, i32_w]
   rfl
  refine one_ (i := 10) (N := some 19) #[true, true, true, true, true, true, true, true, true, true, true, false, true, false, false, false, false, false, false, false] rfl rfl (by kernel_rfl) (by decide) (fun K hK => ?_)
  refine goes_ Try.func40 (by kernel_rfl) rfl #[.agg #[.string a, .int .i64 n, .slice A l.length c]] (by rfl) rfl rfl (by first | (simp only [List.map_toArray, List.map_cons, List.map_nil]; done) | (simp only [List.map_toArray, List.map_cons, List.map_nil]; rfl)) ?_
  refine (strongroomlaw13_mine.calls a n A c l a n l wd HRd.out HC.out HMI.out).mono ?_
  rintro e we ⟨vm, rfl, hrm, hb⟩
  refine ⟨_, rfl, ?_⟩
  obtain ⟨Am, nm, cm, rfl⟩ := R_shape hrm
  obtain rfl : l.length = nm := (Kd.R_reads' hrm).1.symm
  have HCM : Aside0 (Kd.C k64 we Am l.length l ∧ l.length ≤ cm) := ⟨(Kd.R_reads' hrm).2.2, (Kd.R_reads' hrm).2.1⟩
  clear hrm
  have HWe_ : Aside0 (Below w2.heap.size w2 we) := ⟨below_step HWd.out hb⟩
  have HNe_ := Aside0.mk (blk_below HNd.out hb)
  have HBe_ := Aside0.mk (blk_below HB2K.out HWe_.out)
  have e0e_ : we.cell? ⟨g3, 0, none⟩ = some (.string z32) := (blk_cell HNe_.out 0).trans rfl
  have e1e_ : we.cell? ⟨g3, 1, none⟩ = some (.int .i64 0) := (blk_cell HNe_.out 1).trans rfl
  have e2e_ : we.cell? ⟨g3, 2, none⟩ = some (.slice An 0 cn) := (blk_cell HNe_.out 2).trans rfl
  have c0e_ : we.cell? ⟨g1, 0, none⟩ = some (.string a) := (blk_cell HBe_.out 0).trans rfl
  have c1e_ : we.cell? ⟨g1, 1, none⟩ = some (.int .i64 n) := (blk_cell HBe_.out 1).trans rfl
  have c2e_ : we.cell? ⟨g1, 2, none⟩ = some (.slice A l.length c) := (blk_cell HBe_.out 2).trans rfl
  have HRe_ : Aside0 (Kd.C k64 we A l.length l) := ⟨Kd.C_below HR2K.out HWe_.out⟩
  clear hb
  refine hK.out _ _ ⟨e0e_, e1e_, e2e_, c0e_, c1e_, c2e_⟩ (fun hHeld => ?_)
  clear hK K
  refine norm_ (a' := ?_) ?_ ?_
  rotate_left
  ·show Act.put _ (some 19) _ = _
   simp only [Act.put, List.setIfInBounds_toArray, List.set_cons_zero, List.set_cons_succ, i64_w, i32_w]
   rfl
  refine one_ (i := 11) (N := some 20) #[true, true, true, true, true, true, true, true, true, true, true, true, true, false, false, false, false, false, false, false] rfl rfl (by kernel_rfl) (by decide) (fun K hK => ?_)
  refine goes_ Try.func39 (by kernel_rfl) rfl #[.agg #[.string a, .int .i64 n, .slice Am l.length cm]] (by rfl) rfl rfl (by first | (simp only [List.map_toArray, List.map_cons, List.map_nil]; done) | (simp only [List.map_toArray, List.map_cons, List.map_nil]; rfl)) ?_
  refine (audit_May.calls 60 a n Am cm l m we HCM.out.1 HCM.out.2 HM1.out).mono ?_
  rintro e wf ⟨rfl, hb⟩
  refine ⟨_, rfl, ?_⟩
  have HWf : Aside0 (Below w2.heap.size w2 wf) := ⟨below_step HWe_.out hb⟩
  have HNf := Aside0.mk (blk_below HNe_.out hb)
  have HBf := Aside0.mk (blk_below HB2K.out HWf.out)
  have e0f : wf.cell? ⟨g3, 0, none⟩ = some (.string z32) := (blk_cell HNf.out 0).trans rfl
  have e1f : wf.cell? ⟨g3, 1, none⟩ = some (.int .i64 0) := (blk_cell HNf.out 1).trans rfl
  have e2f : wf.cell? ⟨g3, 2, none⟩ = some (.slice An 0 cn) := (blk_cell HNf.out 2).trans rfl
  have c0f : wf.cell? ⟨g1, 0, none⟩ = some (.string a) := (blk_cell HBf.out 0).trans rfl
  have c1f : wf.cell? ⟨g1, 1, none⟩ = some (.int .i64 n) := (blk_cell HBf.out 1).trans rfl
  have c2f : wf.cell? ⟨g1, 2, none⟩ = some (.slice A l.length c) := (blk_cell HBf.out 2).trans rfl
  have HRf : Aside0 (Kd.C k64 wf A l.length l) := ⟨Kd.C_below HR2K.out HWf.out⟩
  clear hb
  refine hK.out _ _ ⟨e0f, e1f, e2f, c0f, c1f, c2f⟩ (fun hHeld => ?_)
  clear hK K
  refine norm_ (a' := ?_) ?_ ?_
  rotate_left
  ·show Act.put _ (some 20) _ = _
   simp only [Act.put, List.setIfInBounds_toArray, List.set_cons_zero, List.set_cons_succ, i64_w, i32_w]
   rfl
  refine one_ (i := 13) (N := some 22) #[true, true, true, true, true, true, true, true, true, true, true, true, true, true, false, false, false, false, false, false] rfl rfl (by kernel_rfl) (by decide) (fun K hK => ?_)
  refine goes_ Try.func41 (by kernel_rfl) rfl #[.agg #[.string a, .int .i64 n, .slice A l.length c]] (by rfl) rfl rfl (by first | (simp only [List.map_toArray, List.map_cons, List.map_nil]; done) | (simp only [List.map_toArray, List.map_cons, List.map_nil]; rfl)) ?_
  refine (strongroomref13_May.calls 60 a n A c l m wf HRf.out HC.out HM2.out).mono ?_
  rintro e wg ⟨rfl, hb⟩
  refine ⟨_, rfl, ?_⟩
  have HWg : Aside0 (Below w2.heap.size w2 wg) := ⟨below_step HWf.out hb⟩
  have HNg := Aside0.mk (blk_below HNf.out hb)
  have HBg := Aside0.mk (blk_below HB2K.out HWg.out)
  have e0g : wg.cell? ⟨g3, 0, none⟩ = some (.string z32) := (blk_cell HNg.out 0).trans rfl
  have e1g : wg.cell? ⟨g3, 1, none⟩ = some (.int .i64 0) := (blk_cell HNg.out 1).trans rfl
  have e2g : wg.cell? ⟨g3, 2, none⟩ = some (.slice An 0 cn) := (blk_cell HNg.out 2).trans rfl
  have c0g : wg.cell? ⟨g1, 0, none⟩ = some (.string a) := (blk_cell HBg.out 0).trans rfl
  have c1g : wg.cell? ⟨g1, 1, none⟩ = some (.int .i64 n) := (blk_cell HBg.out 1).trans rfl
  have c2g : wg.cell? ⟨g1, 2, none⟩ = some (.slice A l.length c) := (blk_cell HBg.out 2).trans rfl
  have HRg : Aside0 (Kd.C k64 wg A l.length l) := ⟨Kd.C_below HR2K.out HWg.out⟩
  clear hb
  refine hK.out _ _ ⟨e0g, e1g, e2g, c0g, c1g, c2g⟩ (fun hHeld => ?_)
  clear hK K
  refine norm_ (a' := ?_) ?_ ?_
  rotate_left
  ·show Act.put _ (some 22) _ = _
   simp only [Act.put, List.setIfInBounds_toArray, List.set_cons_zero, List.set_cons_succ, i64_w, i32_w]
   rfl
  refine pure_ (i := 14) (N := some 23) (v := ?_) (a' := ?_) #[true, true, true, true, true, true, true, true, true, true, true, true, true, true, true, false, false, false, false, false] rfl rfl (by kernel_rfl) (fun _ _ _ h => h) (Or.inl ⟨by rfl, ?_⟩) ?_ ?_
  rotate_left
  ·intro w'
   go_simp
   with_reducible rfl
  rotate_left
  ·simp only [Act.put, List.setIfInBounds_toArray, List.set_cons_zero, List.set_cons_succ, i64_w, i32_w]
   rfl
  refine pure_ (i := 15) (N := some 24) (v := ?_) (a' := ?_) #[true, true, true, true, true, true, true, true, true, true, true, true, true, true, true, true, false, false, false, false] rfl rfl (by kernel_rfl) (fun _ _ _ h => h) (Or.inl ⟨by rfl, ?_⟩) ?_ ?_
  rotate_left
  ·intro w'
   go_simp
   with_reducible rfl
  rotate_left
  ·simp only [Act.put, List.setIfInBounds_toArray, List.set_cons_zero, List.set_cons_succ, i64_w, i32_w]
   rfl
  refine pure_ (i := 16) (N := some 25) (v := ?_) (a' := ?_) #[true, true, true, true, true, true, true, true, true, true, true, true, true, true, true, true, true, false, false, false] rfl rfl (by kernel_rfl) (fun _ _ _ h => h) (Or.inl ⟨by rfl, ?_⟩) ?_ ?_
  rotate_left
  ·intro w'
   go_simp
   with_reducible rfl
  rotate_left
  ·simp only [Act.put, List.setIfInBounds_toArray, List.set_cons_zero, List.set_cons_succ, i64_w, i32_w]
   rfl
  refine one_ (i := 17) (N := some 26) #[true, true, true, true, true, true, true, true, true, true, true, true, true, true, true, true, true, true, false, false] rfl rfl (by kernel_rfl) (by decide) (fun K hK => ?_)
  refine goes_ Try.func34 (by kernel_rfl) rfl #[] (by rfl) rfl rfl (by first | (simp only [List.map_toArray, List.map_cons, List.map_nil]; done) | (simp only [List.map_toArray, List.map_cons, List.map_nil]; rfl)) ?_
  refine (lives13_walk wg).mono ?_
  rintro e wz ⟨rfl, hb⟩
  refine ⟨_, rfl, ?_⟩
  have HWz : Aside0 (Below w2.heap.size w2 wz) := ⟨below_step HWg.out hb⟩
  have HNz := Aside0.mk (blk_below HNg.out hb)
  have HBz := Aside0.mk (blk_below HB2K.out HWz.out)
  have e0z : wz.cell? ⟨g3, 0, none⟩ = some (.string z32) := (blk_cell HNz.out 0).trans rfl
  have e1z : wz.cell? ⟨g3, 1, none⟩ = some (.int .i64 0) := (blk_cell HNz.out 1).trans rfl
  have e2z : wz.cell? ⟨g3, 2, none⟩ = some (.slice An 0 cn) := (blk_cell HNz.out 2).trans rfl
  have c0z : wz.cell? ⟨g1, 0, none⟩ = some (.string a) := (blk_cell HBz.out 0).trans rfl
  have c1z : wz.cell? ⟨g1, 1, none⟩ = some (.int .i64 n) := (blk_cell HBz.out 1).trans rfl
  have c2z : wz.cell? ⟨g1, 2, none⟩ = some (.slice A l.length c) := (blk_cell HBz.out 2).trans rfl
  have HRz : Aside0 (Kd.C k64 wz A l.length l) := ⟨Kd.C_below HR2K.out HWz.out⟩
  clear hb
  refine hK.out _ _ ⟨e0z, e1z, e2z, c0z, c1z, c2z⟩ (fun hHeld => ?_)
  clear hK K
  refine norm_ (a' := ?_) ?_ ?_
  rotate_left
  ·show Act.put _ (some 26) _ = _
   simp only [Act.put, List.setIfInBounds_toArray, List.set_cons_zero, List.set_cons_succ, i64_w, i32_w]
   rfl
  refine pure_ (i := 18) (N := some 27) (v := ?_) (a' := ?_) #[true, true, true, true, true, true, true, true, true, true, true, true, true, true, true, true, true, true, true, false] rfl rfl (by kernel_rfl) (fun _ _ _ h => h) (Or.inl ⟨by rfl, ?_⟩) ?_ ?_
  rotate_left
  ·intro w'
   go_simp
   with_reducible rfl
  rotate_left
  ·simp only [Act.put, List.setIfInBounds_toArray, List.set_cons_zero, List.set_cons_succ, i64_w, i32_w]
   rfl
  refine pure_ (i := 19) (N := some 2) (v := ?_) (a' := ?_) #[true, true, true, true, true, true, true, true, true, true, true, true, true, true, true, true, true, true, true, true] rfl rfl (by kernel_rfl) (fun _ _ _ h => h) (Or.inl ⟨by rfl, ?_⟩) ?_ ?_
  rotate_left
  ·intro w'
   go_simp
   with_reducible rfl
  rotate_left
  ·simp only [Act.put, List.setIfInBounds_toArray, List.set_cons_zero, List.set_cons_succ, i64_w, i32_w]
   rfl
  refine done_ (by kernel_rfl) ?_
  go_wp2
  go_ret
  exact ⟨rfl, HLW.out.trans ⟨HWz.out.os, HWz.out.tape, HWz.out.output, HWz.out.size, fun i hi => HWz.out.block i (Nat.lt_of_lt_of_le hi (below_size HLW.out))⟩⟩
theorem mays.calls (a : ByteArray) (n : Int) (A : Option Addr) (c : Nat) (l : List S64) (r : Bool) (w : World) (hr : Kd.C k64 w A l.length l) (hc : l.length ≤ c) (h : r = true) :
  Calls Try.prog 7 #[.agg #[.string a, .int .i64 n, .slice A l.length c]] w fun e w' => e = .returned (.bool r) ∧ Below w.heap.size w w' := by
 subst h
 exact mays_walk a n A c l w hr hc

end Go.Proofs.Ytcdnmlfnfhoieaa.A

/- What a struct and a list of structs read as, as the walks take it. No condition. -/
namespace Go.Proofs.Ytcdnmlfnfhoieaa.A
open Go.ChangeShapes Go.WideShapes Go.ChangeAt Go.RowKit Go.Joins Go.Deep
open Go.Proofs.YtcdnmlfnfhoieaaW.PrintWords Go.Proofs.YtcdnmlfnfhoieaaW.PrintLast Go.Proofs.YtcdnmlfnfhoieaaW.PrintMore
set_option linter.unusedVariables false

section
variable {H : Type} {enc : TypeId × Value → H} {w : World} {base : Nat} {held : Bool}
/-- A struct of five one-cell fields, by value. -/
theorem open_agg5 {P : Program} {spare : Nat → Bool} {r : Reach} {b0 : Nat} {t : TypeId} {f0 f1 f2 f3 f4 : Field} {v : Value} {d : DataW H} {p : List MemPlace} (hs : P.underlying t = some (.struct #[f0, f1, f2, f3, f4])) (hone : oneCellFields P #[f0, f1, f2, f3, f4] = true) (hC : P.cellsOf t = 5)
  (hv : Value.okWide P w r b0 t v) (h : DataW.Trod enc P w base spare held t v d p) :
  ∃ (v0 v1 v2 v3 v4 : Value) (y0 y1 y2 y3 y4 : DataW H × List MemPlace) (n : Nat), v = .agg #[v0, v1, v2, v3, v4] ∧
   DataW.trod enc P w base spare held n f0.type [v0] = some y0 ∧ DataW.trod enc P w base spare held n f1.type [v1] = some y1 ∧ DataW.trod enc P w base spare held n f2.type [v2] = some y2 ∧ DataW.trod enc P w base spare held n f3.type [v3] = some y3 ∧ DataW.trod enc P w base spare held n f4.type [v4] = some y4 := by
 obtain ⟨cs, rfl, hsz⟩ := okWide_struct hs hv
 obtain ⟨l⟩ := cs
 match l, hsz.trans hC with
 | [c0, c1, c2, c3, c4], _ =>
  obtain ⟨fuel, hf⟩ := h
  obtain ⟨xs, n, _, hx, _, hlen, hg⟩ := DataW.trod_struct hs hf
  obtain ⟨o0, k0⟩ := hone_of hone 0 f0 rfl
  obtain ⟨o1, k1⟩ := hone_of hone 1 f1 rfl
  obtain ⟨o2, k2⟩ := hone_of hone 2 f2 rfl
  obtain ⟨o3, k3⟩ := hone_of hone 3 f3 rfl
  obtain ⟨o4, k4⟩ := hone_of hone 4 f4 rfl
  match xs, hlen with
  | [y0, y1, y2, y3, y4], _ =>
   exact ⟨c0, c1, c2, c3, c4, y0, y1, y2, y3, y4, n, rfl, by simpa [Value.cells, o0, k0] using hg 0 f0 rfl, by simpa [Value.cells, o1, k1] using hg 1 f1 rfl, by simpa [Value.cells, o2, k2] using hg 2 f2 rfl, by simpa [Value.cells, o3, k3] using hg 3 f3 rfl, by simpa [Value.cells, o4, k4] using hg 4 f4 rfl⟩
/-- A struct of three one-cell fields, by value. -/
theorem open_agg3' {P : Program} {spare : Nat → Bool} {r : Reach} {b0 : Nat} {t : TypeId} {f0 f1 f2 : Field} {v : Value} {d : DataW H} {p : List MemPlace} (hs : P.underlying t = some (.struct #[f0, f1, f2])) (hone : oneCellFields P #[f0, f1, f2] = true) (hC : P.cellsOf t = 3)
  (hv : Value.okWide P w r b0 t v) (h : DataW.Trod enc P w base spare held t v d p) :
  ∃ (v0 v1 v2 : Value) (y0 y1 y2 : DataW H × List MemPlace) (n : Nat), v = .agg #[v0, v1, v2] ∧
   DataW.trod enc P w base spare held n f0.type [v0] = some y0 ∧ DataW.trod enc P w base spare held n f1.type [v1] = some y1 ∧ DataW.trod enc P w base spare held n f2.type [v2] = some y2 := by
 obtain ⟨v0, v1, v2, y0, y1, y2, n, h1, _, _, h2⟩ := Go.Joins.open_agg3 hs hone hC hv h
 exact ⟨v0, v1, v2, y0, y1, y2, n, h1, h2⟩
/-- An array of two one-cell elements, by value. -/
theorem open_arr2 {P : Program} {spare : Nat → Bool} {r : Reach} {b0 : Nat} {t e : TypeId} {v : Value} {d : DataW H} {p : List MemPlace} (hs : P.underlying t = some (.array 2 e)) (hC : P.cellsOf t = 2) (he : P.cellsOf e = 1)
  (hv : Value.okWide P w r b0 t v) (h : DataW.Trod enc P w base spare held t v d p) :
  ∃ (v0 v1 : Value) (y0 y1 : DataW H × List MemPlace) (n : Nat), v = .agg #[v0, v1] ∧ DataW.trod enc P w base spare held n e [v0] = some y0 ∧ DataW.trod enc P w base spare held n e [v1] = some y1 := by
 simp only [Value.okWide, hs] at hv
 obtain ⟨cs, rfl, hsz, _⟩ := hv
 obtain ⟨l⟩ := cs
 match l, hsz.trans hC with
 | [c0, c1], _ =>
  obtain ⟨fuel, hf⟩ := h
  obtain ⟨xs, n, _, _, _, hlen, hg⟩ := DataW.trod_array hs hf
  match xs, hlen with
  | [y0, y1], _ => exact ⟨c0, c1, y0, y1, n, rfl, by simpa [Value.cells, he] using hg 0 (by decide), by simpa [Value.cells, he] using hg 1 (by decide)⟩
theorem open_arrint {P : Program} {spare : Nat → Bool} {r : Reach} {b0 : Nat} {t e : TypeId} {v : Value} {d : DataW H} {p : List MemPlace} (hs : P.underlying t = some (.array 2 e)) (hC : P.cellsOf t = 2) (he : P.cellsOf e = 1) (hi : P.underlying e = some (.int .i64))
  (hv : Value.okWide P w r b0 t v) (h : DataW.Trod enc P w base spare held t v d p) : ∃ n0 n1 : Int, v = .agg #[.int .i64 n0, .int .i64 n1] := by
 obtain ⟨v0, v1, y0, y1, n, rfl, h0, h1⟩ := open_arr2 hs hC he hv h
 obtain ⟨a0, e0, _⟩ := DataW.trod_int hi h0
 obtain ⟨a1, e1, _⟩ := DataW.trod_int hi h1
 cases e0
 cases e1
 exact ⟨a0, a1, rfl⟩
theorem open_arrstr {P : Program} {spare : Nat → Bool} {r : Reach} {b0 : Nat} {t e : TypeId} {v : Value} {d : DataW H} {p : List MemPlace} (hs : P.underlying t = some (.array 2 e)) (hC : P.cellsOf t = 2) (he : P.cellsOf e = 1) (hi : P.underlying e = some .string)
  (hv : Value.okWide P w r b0 t v) (h : DataW.Trod enc P w base spare held t v d p) : ∃ s0 s1 : ByteArray, v = .agg #[.string s0, .string s1] := by
 obtain ⟨v0, v1, y0, y1, n, rfl, h0, h1⟩ := open_arr2 hs hC he hv h
 obtain ⟨a0, e0, _⟩ := DataW.trod_string hi h0
 obtain ⟨a1, e1, _⟩ := DataW.trod_string hi h1
 cases e0
 cases e1
 exact ⟨a0, a1, rfl⟩
set_option maxRecDepth 100000 in
/-- A list of entries. -/
theorem open_T64 {n : Nat} {v : Value} {y : DataW H × List MemPlace} (h : DataW.trod enc Try.prog w base (fun _ => true) held n 52 [v] = some y) :
  ∃ (A : Option Addr) (c : Nat) (l : List S64), v = .slice A l.length c ∧ l.length ≤ c ∧ Kd.C k64 w A l.length l := by
 rcases Go.Deep.open_slice Try.underlying52 h with ⟨hcs, _⟩ | ⟨a, len, cap, m, n', D, Pl, hcs, hb, hl, hm, hmm, hx, hall⟩
 ·cases hcs
  exact ⟨none, 0, [], rfl, Nat.le_refl _, rfl, by simp, fun h => absurd h (Nat.lt_irrefl _)⟩
 ·cases hcs
  have hm' : m = cap := by simpa using hmm
  have h5 : Try.prog.cellsOf 64 = 5 := by kernel_rfl
  haveI : Inhabited S64 := ⟨z64⟩
  have each : ∀ i, i < len → ∃ e : S64, ∀ j u, [Value.int .i64 e.f0, .int .i64 e.f1, .int .i64 e.f2, .string e.f3, .int .i64 e.f4][j]? = some u → w.cell? (a.add (i * 5 + j)) = some u := by
   intro i hi
   obtain ⟨cs', h1, h2⟩ := hall i (by omega)
   rw [h5] at h1
   obtain ⟨_, hlen, hcell⟩ := World.cells?_some h1
   obtain ⟨xs, k, hk, hxy, _, hxl, hf⟩ := DataW.trod_struct Try.underlying64 h2
   match xs, hxl, cs', hlen with
   | [y0, y1, y2, y3, y4], _, [v0, v1, v2, v3, v4], _ =>
    have c3 : Try.prog.cellsOf 3 = 1 := by kernel_rfl
    have c9 : Try.prog.cellsOf 9 = 1 := by kernel_rfl
    have c26 : Try.prog.cellsOf 26 = 1 := by kernel_rfl
    have g0 := hf 0 _ rfl
    have g1 := hf 1 _ rfl
    have g2 := hf 2 _ rfl
    have g3 := hf 3 _ rfl
    have g4 := hf 4 _ rfl
    simp [c3, c9, c26] at g0 g1 g2 g3 g4
    obtain ⟨a0, e0, _⟩ := DataW.trod_int Try.underlying3 g0
    obtain ⟨a1, e1, _⟩ := DataW.trod_int Try.underlying3 g1
    obtain ⟨a2, e2, _⟩ := DataW.trod_int Try.underlying3 g2
    obtain ⟨a3, e3, _⟩ := DataW.trod_string Try.underlying9 g3
    obtain ⟨a4, e4, _⟩ := DataW.trod_int Try.underlying26 g4
    cases e0
    cases e1
    cases e2
    cases e3
    cases e4
    refine ⟨⟨a0, a1, a2, a3, a4⟩, fun j u hj => ?_⟩
    have hj5 : j < 5 := by
     rcases Nat.lt_or_ge j 5 with h | h
     ·exact h
     ·rw [List.getElem?_eq_none (by simpa using h)] at hj
      cases hj
    have := hcell j hj5
    rw [Go.Deep.add_add] at this
    rw [this]
    exact hj
  obtain ⟨f, hf⟩ := choose_lt (α := S64) (p := fun i e => ∀ j u, [Value.int .i64 e.f0, .int .i64 e.f1, .int .i64 e.f2, .string e.f3, .int .i64 e.f4][j]? = some u → w.cell? (a.add (i * 5 + j)) = some u) each
  have hlen : ((List.range len).map f).length = len := by simp
  refine ⟨some a, cap, (List.range len).map f, by rw [hlen], by rw [hlen]; exact hl, rfl, ?_, fun _ => ⟨a, rfl, fun j p hj => ?_⟩⟩
  ·rw [hlen]
   simp only [maxLen] at hm
   omega
  ·have hjl : j < len := by
    rcases Nat.lt_or_ge j len with h | h
    ·exact h
    ·rw [List.getElem?_eq_none (by simpa using h)] at hj
     cases hj
   have e : p = f j := by
    rw [List.getElem?_map, List.getElem?_range hjl] at hj
    exact (Option.some.inj hj).symm
   subst e
   exact ⟨_, rfl, k64_mk w (f j), fun i u hi => hf j hjl i u hi⟩
end

end Go.Proofs.Ytcdnmlfnfhoieaa.A

/- AuditMays, for every audit: the law answers true, and every argument reads behind the call as before. No condition beyond the row's own. -/
namespace Go.Proofs.Ytcdnmlfnfhoieaa.auditMays
open Go.ChangeShapes Go.WideShapes Go.ChangeAt Go.RowKit Go.Joins Go.Deep
open Go.ChangeMaps (open_string shut_string)
open Go.Proofs.Ytcdnmlfnfhoieaa.A Go.Proofs.YtcdnmlfnfhoieaaW.PrintWords Go.Proofs.Ytcdnmlfnfhoieaa.Bs
set_option linter.unusedVariables false

theorem own : ownKnob Try.prog.godebug = none := by kernel_rfl
theorem laidOut : laidOutB Try.prog = true := by kernel_rfl

set_option maxRecDepth 100000 in
theorem lifted (os : Os) (started : os.Started) (H : Type) (enc : TypeId × Value → H) :
  ReturnsInHanded {} Try.checked os 7 .any (Rows.auditMaysSpec.pre6 enc Try.prog Try.f7 Rows.auditMaysRow.domain false) (Rows.auditMaysSpec.post enc Try.prog Try.f7 false true false false) := by
 refine returnsInHanded_of_change_sized (C := Try.checked) own started (by kernel_rfl) Try.func7
  (ChangeSpec.witness6 (enc := enc) (C := Try.checked) false ⟨#[], #[.agg #[.string ByteArray.empty, .int .i64 0, .slice none 0 0]], []⟩ 8 (by kernel_rfl) (by kernel_rfl) (by kernel_rfl) (by kernel_rfl)) ?_
 intro W base args ds gs before hval0 hW hcnd hsz0 _
 have hval : ∀ (j : Nat) t v, Try.f7.params[j]? = some t → args[j]? = some v → Value.okWide Try.prog W .any base t v := hval0
 have hW' := hW
 obtain ⟨p, q, hA0, hV, rfl, hfz, hnd⟩ := hW
 have hA : DataW.TrodAll enc Try.prog W 0 (fun _ => true) true Try.f7.params.toList args.toList ds p := hA0
 rw [Try.params7] at hA hval
 obtain ⟨v0, vs0, d0, ds0, p0, q0, hargs, rfl, rfl, h0, r0⟩ := trodAll_cons hA
 obtain ⟨rfl, rfl, rfl⟩ := trodAll_nil r0
 obtain rfl : args = #[v0] := by cases args; simp_all
 obtain ⟨rfl, rfl⟩ := trodVars_none hV
 have k0 := h0
 have lt0 : ∀ x ∈ p0, x.block < W.heap.size := by obtain ⟨m, hm⟩ := k0; exact DataW.trod_lt m _ _ _ hm
 obtain ⟨u0_0, u0_1, u0_2, y0_0, y0_1, y0_2, m0, rfl, t0_0, t0_1, t0_2⟩ := Go.Proofs.Ytcdnmlfnfhoieaa.A.open_agg3' Try.underlying54 (by kernel_rfl) (by kernel_rfl) (hval 0 54 v0 rfl rfl) h0
 obtain ⟨s0, e0_0, _, _⟩ := DataW.trod_string Try.underlying9 t0_0
 obtain ⟨n0, e0_1, _, _⟩ := DataW.trod_int Try.underlying3 t0_1
 cases e0_0
 cases e0_1
 obtain ⟨A0, c0, l0, rfl, hc0, hC0⟩ := open_T64 t0_2
 clear hA0 hval0
 refine (mays.calls  s0 n0 A0 c0 l0 true W hC0 hc0 (rfl)).mono fun e W' ⟨he, bel⟩ => ?_
 subst he
 exact ⟨_, rfl, _, _, _, [], _, [], hW', trodAll_mk1 (shut_bool Try.underlying4 _), (trodAll_cons_mk (Below.trod laidOut (by kernel_rfl) (of_decide_eq_true (by kernel_rfl)) k0 bel lt0) trodAll_mk0), rfl, bel.frame _, fun h => by cases h⟩
theorem over : Rows.auditMaysRow.holds Try.pinned (OpenSpec.ofChange Rows.auditMaysSpec) :=
 OpenClaim.holds_of_wide 7 Try.f7 rfl rfl rfl rfl rfl rfl rfl ⟨rfl, rfl, rfl, rfl, rfl⟩ rfl rfl rfl rfl rfl (by kernel_rfl) Try.func7 (by kernel_rfl)
  (of_decide_eq_true (by kernel_rfl)) (by unfold Func.isWrapper; first | (rw [if_pos (by decide +kernel)]; kernel_rfl) | (rw [if_neg (by decide +kernel)]; exact ⟨rfl, rfl⟩))
  (fun os started H enc _ => lifted os started H enc)
theorem proved : Rows.AuditMaysSaid := over
#print axioms proved
end Go.Proofs.Ytcdnmlfnfhoieaa.auditMays
namespace Go.Proofs.Ytcdnmlfnfhoieaa
/-- The row, under a short name, for the claim. -/
theorem auditMays_holds : Rows.AuditMaysSaid := auditMays.proved
end Go.Proofs.Ytcdnmlfnfhoieaa
