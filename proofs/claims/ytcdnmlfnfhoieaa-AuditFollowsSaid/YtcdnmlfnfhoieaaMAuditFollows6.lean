/- AuditFollows, for every two audits: the law answers true, and every argument reads behind the call as before. No condition beyond the row's own. -/
import Derived.Test.YtcdnmlfnfhoieaaMAuditFollows0
import Derived.Test.YtcdnmlfnfhoieaaMAuditFollows1
import Derived.Test.YtcdnmlfnfhoieaaMAuditFollows2
import Derived.Test.YtcdnmlfnfhoieaaMAuditFollows3
import Derived.Test.YtcdnmlfnfhoieaaMAuditFollows4
import Derived.Test.YtcdnmlfnfhoieaaMAuditFollows5
import Derived.Deep.SlicePairs
import Derived.Lib.SmallJoins
import Derived.ChangeMaps5
import Derived.OpenShut
import Derived.Test.YtcdnmlfnfhoieaaRows
import Derived.WalkKit
import Derived.ProofKit
import Derived.ShutString
import Derived.ChangeOld
import Derived.Below
import Derived.SizedLaws

/- lives(), the fixed example of layer 13: an audit that goes on by one entry has the entry's seal as its digest; it answers true. No condition. -/
namespace Go.Proofs.Ytcdnmlfnfhoieaa.A
open Go.RowKit Go.Proofs.YtcdnmlfnfhoieaaW.PrintWords Go.Proofs.YtcdnmlfnfhoieaaW.PrintLast Go.Proofs.YtcdnmlfnfhoieaaW.PrintMore Go.Proofs.Ytcdnmlfnfhoieaa.Bs
attribute [local go_sem] max2_int min2_int max_two min_two max_three min_three max_four min_four
set_option linter.unusedVariables false
set_option linter.unusedSimpArgs false
def z32 : ByteArray := strOfNums (List.replicate 32 0)
def bA : ByteArray := ⟨#[97]⟩
def b13 : ByteArray := ⟨#[1, 3, 1, 1, 97, 0]⟩
theorem new_some : audit_New.f = some (z32, 0, []) := by kernel_rfl
theorem refbytes_13 : strongroomref13_Bytes.f 20 1 3 1 bA 0 = some b13 := by kernel_rfl
theorem add_13 : audit_Add.f 20 z32 0 [] 0 3 1 bA 0 = some (z32, 1, [⟨1, 3, 1, bA, 0⟩], 0) := by kernel_rfl
theorem may_13 : audit_May.f 20 z32 1 [⟨1, 3, 1, bA, 0⟩] = some true := by kernel_rfl
theorem seal_13 : mac_Seal.f z32 b13 = some (sealP z32 b13) := mac_Seal.some_ z32 b13 (of_decide_eq_true (by kernel_rfl)) (of_decide_eq_true (by kernel_rfl))
theorem digest_13 : audit_Digest.f 20 z32 1 [⟨1, 3, 1, bA, 0⟩] = some (sealP z32 b13) := by
 unfold audit_Digest.f
 rw [may_13, Option.bind_some, if_pos rfl]
 unfold audit_chain.f
 rw [show (20 : Nat) = 18 + 1 + 1 from rfl, audit_chain.l0, if_pos (by decide), if_pos (by decide), if_pos (by decide)]
 have e : audit_bytes.f (18 + 1) (rd_T64 [(⟨1, 3, 1, bA, 0⟩ : S64)] 0).f0 (rd_T64 [(⟨1, 3, 1, bA, 0⟩ : S64)] 0).f1 (rd_T64 [(⟨1, 3, 1, bA, 0⟩ : S64)] 0).f2 (rd_T64 [(⟨1, 3, 1, bA, 0⟩ : S64)] 0).f3 (rd_T64 [(⟨1, 3, 1, bA, 0⟩ : S64)] 0).f4 = some b13 := by kernel_rfl
 rw [e, Option.bind_some, seal_13, Option.bind_some, audit_chain.l0, if_neg (of_decide_eq_true (by kernel_rfl))]
 rfl
theorem C64_lt {w : World} {g o n : Nat} {xs : List S64} (h : Kd.C k64 w (some ⟨g, o, none⟩) n xs) (hn : 0 < n) : g < w.heap.size := by
 obtain ⟨ad, e, h0, _⟩ := at_T64 h 0 (by decide) (by omega)
 cases e
 have := World.block_lt_of_cell? w _ h0
 rwa [add_block] at this
set_option maxHeartbeats 8000000 in
set_option maxRecDepth 100000 in
theorem lives13_walk (w : World) : Calls Try.prog 34 #[] w fun e w' => e = .returned (.bool true) ∧ Below w.heap.size w w' := by
 have hu56 := Try.underlying56
 have hu64 := Try.underlying64
 have hu52 := Try.underlying52
 have HB0 : Aside0 (Below w.heap.size w w) := ⟨Below.refl _ _⟩
 have HI56 : Aside0 ((Try.prog.info? 56).map (·.size) = some 3) := ⟨by kernel_rfl⟩
 go_enter Try.func34, Try.ntmps34
 go_wp2_with fail
 refine (audit_New.calls z32 0 [] w new_some).mono ?_
 rintro e w1 ⟨v1, rfl, hr1, hb1⟩
 obtain ⟨A1, n1, c1, rfl⟩ := R_shape hr1
 obtain rfl : n1 = 0 := (Kd.R_reads' hr1).1
 have HC1 : Aside0 (Kd.C k64 w1 A1 ([] : List S64).length []) := ⟨(Kd.R_reads' hr1).2.2⟩
 have HL1 := Aside0.mk hb1
 clear hr1 hb1
 go_wp2_with fail
 refine (audit_Add.calls 20 z32 0 A1 c1 [] 0 3 1 bA 0 z32 1 [⟨1, 3, 1, bA, 0⟩] 0 w1 HC1.out (Nat.zero_le _) add_13).mono ?_
 rintro e w2 ⟨v2, rfl, hr2, hb2⟩
 have HL2 := Aside0.mk (below_step HL1.out hb2)
 obtain ⟨gA, cA, rfl, hgA, _⟩ := Kd.R_form hr2 (by simp)
 have HC2 : Aside0 (Kd.C k64 w2 (some ⟨gA, 0, none⟩) 1 [⟨1, 3, 1, bA, 0⟩]) := ⟨(Kd.R_reads' hr2).2.2⟩
 have HCA : Aside0 (1 ≤ cA) := ⟨(Kd.R_reads' hr2).2.1⟩
 clear hr2 hb2 hgA HC1 HL1 HB0
 have HV1 : Aside0 ((#[.string z32, .int .i64 1, .slice (some ⟨gA, 0, none⟩) 1 cA] : Array Value).all (·.oneCell') = true) := ⟨by simp [Value.oneCell']⟩
 go_upto_region 2 with (first | ((with_reducible refine gate_dst (N := 1) rfl ?_); refine box_event ?hg (N := 1) ?hd (cs := #[.string ⟨#[]⟩, .int .i64 0, .slice none 0 0]) (t := 56) ?hr ?_; (case hd => rfl); (case hg => rfl); (case hr => first | (go_simp; done) | (go_simp; rfl)); intro g1 hg1 w3 hb3 hbel3; have HB3 := Aside0.mk hb3; have HL3 := Aside0.mk (below_step HL2.out hbel3); have HC3 := Aside0.mk (Kd.C_below HC2.out hbel3); have HG1 : Aside0 (w.heap.size ≤ g1) := ⟨by rw [hg1]; exact below_size HL2.out⟩; have HGA : Aside0 (gA < g1) := ⟨by rw [hg1]; exact C64_lt HC2.out (by decide)⟩; clear hg1 hb3 hbel3 HC2 HL2) | (refine gate_ (.store 56 (.tmp 1) (.tmp 7)) rfl ?_; refine wpList_store_row rfl 56 (.tmp 1) (.tmp 7) rfl g1 #[.string z32, .int .i64 1, .slice (some ⟨gA, 0, none⟩) 1 cA] rfl rfl 56 _ HB3.out HI56.out rfl HV1.out ?_))
 have HB4 : Aside0 ((w3.setRow g1 #[.string z32, .int .i64 1, .slice (some ⟨gA, 0, none⟩) 1 cA]).heap[g1]? = some (.cells #[.string z32, .int .i64 1, .slice (some ⟨gA, 0, none⟩) 1 cA] 56 (0, 0))) := ⟨setRow_heap _ _ _ _ _ _ HB3.out⟩
 have HL4 : Aside0 (Below w.heap.size w (w3.setRow g1 #[.string z32, .int .i64 1, .slice (some ⟨gA, 0, none⟩) 1 cA])) := ⟨HL3.out.trans (below_setRow HG1.out)⟩
 have HC4 : Aside0 (Kd.C k64 (w3.setRow g1 #[.string z32, .int .i64 1, .slice (some ⟨gA, 0, none⟩) 1 cA]) (some ⟨gA, 0, none⟩) 1 [⟨1, 3, 1, bA, 0⟩]) := ⟨C_frame64 HC3.out (Fr.setRow (Fr.refl _ (fun k => k = g1)) rfl) (fun ad e _ h => by cases e; have := HGA.out; exact absurd h (Nat.ne_of_lt this))⟩
 clear HB3 HL3 HC3 HV1
 generalize w3.setRow g1 #[.string z32, .int .i64 1, .slice (some ⟨gA, 0, none⟩) 1 cA] = w4 at HB4 HL4 HC4 ⊢
 have c10 : w4.cell? ⟨g1, 0, none⟩ = some (.string z32) := (blk_cell HB4.out 0).trans rfl
 have c11 : w4.cell? ⟨g1, 1, none⟩ = some (.int .i64 1) := (blk_cell HB4.out 1).trans rfl
 have c12 : w4.cell? ⟨g1, 2, none⟩ = some (.slice (some ⟨gA, 0, none⟩) 1 cA) := (blk_cell HB4.out 2).trans rfl
 obtain ⟨ad, e', d0, d1, d2, d3, d4⟩ := at_T64 HC4.out 0 (by decide) (by decide)
 cases e'
 simp only [Int.toNat_zero, Nat.zero_mul, add_plain, Nat.zero_add] at d0 d1 d2 d3 d4
 have d0 : w4.cell? ⟨gA, 0, none⟩ = some (.int .i64 1) := d0
 have d1 : w4.cell? ⟨gA, 1, none⟩ = some (.int .i64 3) := d1
 have d2 : w4.cell? ⟨gA, 2, none⟩ = some (.int .i64 1) := d2
 have d3 : w4.cell? ⟨gA, 3, none⟩ = some (.string bA) := d3
 have d4 : w4.cell? ⟨gA, 4, none⟩ = some (.int .i64 0) := d4
 obtain ⟨mc, hmc⟩ : ∃ mc, madeCells #[Value.int .u8 0] 32 = mc := ⟨_, rfl⟩
 have HMK : Aside0 (∀ W : World, (Instr.makeSlice 23 (.int .i64 32) (.int .i64 32)).run Try.prog W = .ok (.slice (some ⟨W.heap.size, 0, none⟩) 32 32) (W.alloc (.cells mc 5))) := ⟨by
  rw [← hmc]
  exact print_make (P := Try.prog) 23 5 .u8 1 Try.underlying23 info5 (by decide) 32 (by decide)⟩
 have HMO : Aside0 (∀ W : World, (W.alloc (.cells mc 5)).ownsRow 0 5 1 (.slice (some ⟨W.heap.size, 0, none⟩) 32 32) 32 (nums .u8 (List.replicate 32 0))) := ⟨by
  intro W
  rw [← hmc]
  exact own_made W 0 5 .u8 32 (Nat.zero_le _) (by decide)⟩
 clear hmc
 obtain ⟨D, hD⟩ : ∃ D, sealP z32 b13 = D := ⟨_, rfl⟩
 have HDG : Aside0 (audit_Digest.f 20 z32 1 [⟨1, 3, 1, bA, 0⟩] = some D) := ⟨by rw [digest_13, hD]⟩
 have HSL : Aside0 (mac_Seal.f z32 b13 = some D) := ⟨by rw [seal_13, hD]⟩
 clear hD
 obtain ⟨bb, hbb⟩ : ∃ b, b13 = b := ⟨_, rfl⟩
 have HBB : Aside0 (strongroomref13_Bytes.f 20 1 3 1 bA 0 = some bb) := ⟨by rw [← hbb]; exact refbytes_13⟩
 rw [hbb] at HSL
 clear hbb
 have HL := HL4
 have HC := HC4
 replace HC : Aside0 (Kd.C k64 w4.drew (some ⟨gA, 0, none⟩) 1 [(⟨1, 3, 1, bA, 0⟩ : S64)]) := ⟨Kd.C_drew HC.out⟩
 replace HL : Aside0 (Below w.heap.size w w4.drew) := ⟨below_drew HL.out⟩
 clear HL4 HC4 HB4
 refine start_ (n := 27) (S := fun w' => w'.cell? ⟨g1, 0, none⟩ = some (.string z32) ∧ w'.cell? ⟨g1, 1, none⟩ = some (.int .i64 1) ∧ w'.cell? ⟨g1, 2, none⟩ = some (.slice (some ⟨gA, 0, none⟩) 1 cA) ∧ w'.cell? ⟨gA, 0, none⟩ = some (.int .i64 1) ∧ w'.cell? ⟨gA, 1, none⟩ = some (.int .i64 3) ∧ w'.cell? ⟨gA, 2, none⟩ = some (.int .i64 1) ∧ w'.cell? ⟨gA, 3, none⟩ = some (.string bA) ∧ w'.cell? ⟨gA, 4, none⟩ = some (.int .i64 0)) (ds := []) #[false, false, false, false, false, false, false, false, false, false, false, false, false, false, false, false, false, false, false, false, false, false, false, false, false, false, false] (by kernel_rfl) rfl rfl ⟨c10, c11, c12, d0, d1, d2, d3, d4⟩ (fun hHeld => ?_)
 refine pure_ (i := 0) (N := some 9) (v := ?_) (a' := ?_) #[true, false, false, false, false, false, false, false, false, false, false, false, false, false, false, false, false, false, false, false, false, false, false, false, false, false, false] rfl rfl (by kernel_rfl) (fun _ _ _ h => h) (Or.inl ⟨by rfl, ?_⟩) ?_ ?_
 rotate_left
 ·intro w'
  go_simp
  with_reducible rfl
 rotate_left
 ·simp only [Act.put, List.setIfInBounds_toArray, List.set_cons_zero, List.set_cons_succ, i64_w, i32_w]
  rfl
 refine pure_ (i := 1) (N := some 10) (v := ?_) (a' := ?_) #[true, true, false, false, false, false, false, false, false, false, false, false, false, false, false, false, false, false, false, false, false, false, false, false, false, false, false] rfl rfl (by kernel_rfl) (fun _ _ _ h => h) (Or.inl ⟨by rfl, ?_⟩) ?_ ?_
 rotate_left
 ·intro w'
  go_simp
  with_reducible rfl
 rotate_left
 ·simp only [Act.put, List.setIfInBounds_toArray, List.set_cons_zero, List.set_cons_succ, i64_w, i32_w]
  rfl
 refine pure_ (i := 2) (N := some 11) (v := ?_) (a' := ?_) #[true, true, true, false, false, false, false, false, false, false, false, false, false, false, false, false, false, false, false, false, false, false, false, false, false, false, false] rfl rfl (by kernel_rfl) (fun _ _ _ h => h) (Or.inl ⟨by rfl, ?_⟩) ?_ ?_
 rotate_left
 ·intro w'
  go_simp
  with_reducible rfl
 rotate_left
 ·simp only [Act.put, List.setIfInBounds_toArray, List.set_cons_zero, List.set_cons_succ, i64_w, i32_w]
  rfl
 refine pure_ (i := 3) (N := some 12) (v := ?_) (a' := ?_) #[true, true, true, true, false, false, false, false, false, false, false, false, false, false, false, false, false, false, false, false, false, false, false, false, false, false, false] rfl rfl (by kernel_rfl) (fun _ _ _ h => h) (Or.inl ⟨by rfl, ?_⟩) ?_ ?_
 rotate_left
 ·intro w'
  go_simp
  with_reducible rfl
 rotate_left
 ·simp only [Act.put, List.setIfInBounds_toArray, List.set_cons_zero, List.set_cons_succ, i64_w, i32_w]
  rfl
 refine take_ (i := 4) (N := some 13) (v := ?_) (a' := ?_) #[true, true, true, true, true, false, false, false, false, false, false, false, false, false, false, false, false, false, false, false, false, false, false, false, false, false, false] rfl rfl (by kernel_rfl) (fun _ _ _ h => h) (Or.inl ⟨by rfl, ?_⟩) hHeld ?_ ?_
 rotate_left
 ·rintro w' ⟨s0, s1, s2, s3, s4, s5, s6, s7⟩
  go_simp
  with_reducible rfl
 rotate_left
 ·simp only [Act.put, List.setIfInBounds_toArray, List.set_cons_zero, List.set_cons_succ, i64_w, i32_w]
  rfl
 refine pure_ (i := 5) (N := some 14) (v := ?_) (a' := ?_) #[true, true, true, true, true, true, false, false, false, false, false, false, false, false, false, false, false, false, false, false, false, false, false, false, false, false, false] rfl rfl (by kernel_rfl) (fun _ _ _ h => h) (Or.inl ⟨by rfl, ?_⟩) ?_ ?_
 rotate_left
 ·intro w'
  go_simp
  with_reducible rfl
 rotate_left
 ·simp only [Act.put, List.setIfInBounds_toArray, List.set_cons_zero, List.set_cons_succ, i64_w, i32_w]
  rfl
 refine pure_ (i := 6) (N := some 15) (v := ?_) (a' := ?_) #[true, true, true, true, true, true, true, false, false, false, false, false, false, false, false, false, false, false, false, false, false, false, false, false, false, false, false] rfl rfl (by kernel_rfl) (fun _ _ _ h => h) (Or.inl ⟨by rfl, ?_⟩) ?_ ?_
 rotate_left
 ·intro w'
  go_simp
  with_reducible rfl
 rotate_left
 ·simp only [Act.put, List.setIfInBounds_toArray, List.set_cons_zero, List.set_cons_succ, i64_w, i32_w]
  rfl
 refine pure_ (i := 7) (N := some 16) (v := ?_) (a' := ?_) #[true, true, true, true, true, true, true, true, false, false, false, false, false, false, false, false, false, false, false, false, false, false, false, false, false, false, false] rfl rfl (by kernel_rfl) (fun _ _ _ h => h) (Or.inl ⟨by rfl, ?_⟩) ?_ ?_
 rotate_left
 ·intro w'
  go_simp
  with_reducible rfl
 rotate_left
 ·simp only [Act.put, List.setIfInBounds_toArray, List.set_cons_zero, List.set_cons_succ, i64_w, i32_w]
  rfl
 refine pure_ (i := 8) (N := some 17) (v := ?_) (a' := ?_) #[true, true, true, true, true, true, true, true, true, false, false, false, false, false, false, false, false, false, false, false, false, false, false, false, false, false, false] rfl rfl (by kernel_rfl) (fun _ _ _ h => h) (Or.inl ⟨by rfl, ?_⟩) ?_ ?_
 rotate_left
 ·intro w'
  go_simp
  with_reducible rfl
 rotate_left
 ·simp only [Act.put, List.setIfInBounds_toArray, List.set_cons_zero, List.set_cons_succ, i64_w, i32_w]
  rfl
 refine take_ (i := 9) (N := some 18) (v := ?_) (a' := ?_) #[true, true, true, true, true, true, true, true, true, true, false, false, false, false, false, false, false, false, false, false, false, false, false, false, false, false, false] rfl rfl (by kernel_rfl) (fun _ _ _ h => h) (Or.inl ⟨by rfl, ?_⟩) hHeld ?_ ?_
 rotate_left
 ·rintro w' ⟨s0, s1, s2, s3, s4, s5, s6, s7⟩
  go_simp
  with_reducible rfl
 rotate_left
 ·simp only [Act.put, List.setIfInBounds_toArray, List.set_cons_zero, List.set_cons_succ, i64_w, i32_w]
  rfl
 refine pure_ (i := 10) (N := some 19) (v := ?_) (a' := ?_) #[true, true, true, true, true, true, true, true, true, true, true, false, false, false, false, false, false, false, false, false, false, false, false, false, false, false, false] rfl rfl (by kernel_rfl) (fun _ _ _ h => h) (Or.inl ⟨by rfl, ?_⟩) ?_ ?_
 rotate_left
 ·intro w'
  go_simp
  with_reducible rfl
 rotate_left
 ·simp only [Act.put, List.setIfInBounds_toArray, List.set_cons_zero, List.set_cons_succ, i64_w, i32_w]
  rfl
 refine pure_ (i := 11) (N := some 20) (v := ?_) (a' := ?_) #[true, true, true, true, true, true, true, true, true, true, true, true, false, false, false, false, false, false, false, false, false, false, false, false, false, false, false] rfl rfl (by kernel_rfl) (fun _ _ _ h => h) (Or.inl ⟨by rfl, ?_⟩) ?_ ?_
 rotate_left
 ·intro w'
  go_simp
  with_reducible rfl
 rotate_left
 ·simp only [Act.put, List.setIfInBounds_toArray, List.set_cons_zero, List.set_cons_succ, i64_w, i32_w]
  rfl
 refine pure_ (i := 12) (N := some 21) (v := ?_) (a' := ?_) #[true, true, true, true, true, true, true, true, true, true, true, true, true, false, false, false, false, false, false, false, false, false, false, false, false, false, false] rfl rfl (by kernel_rfl) (fun _ _ _ h => h) (Or.inl ⟨by rfl, ?_⟩) ?_ ?_
 rotate_left
 ·intro w'
  go_simp
  with_reducible rfl
 rotate_left
 ·simp only [Act.put, List.setIfInBounds_toArray, List.set_cons_zero, List.set_cons_succ, i64_w, i32_w]
  rfl
 refine pure_ (i := 13) (N := some 22) (v := ?_) (a' := ?_) #[true, true, true, true, true, true, true, true, true, true, true, true, true, true, false, false, false, false, false, false, false, false, false, false, false, false, false] rfl rfl (by kernel_rfl) (fun _ _ _ h => h) (Or.inl ⟨by rfl, ?_⟩) ?_ ?_
 rotate_left
 ·intro w'
  go_simp
  with_reducible rfl
 rotate_left
 ·simp only [Act.put, List.setIfInBounds_toArray, List.set_cons_zero, List.set_cons_succ, i64_w, i32_w]
  rfl
 refine pure_ (i := 18) (N := some 27) (v := ?_) (a' := ?_) #[true, true, true, true, true, true, true, true, true, true, true, true, true, true, false, false, false, false, true, false, false, false, false, false, false, false, false] rfl rfl (by kernel_rfl) (fun _ _ _ h => h) (Or.inl ⟨by rfl, ?_⟩) ?_ ?_
 rotate_left
 ·intro w'
  go_simp
  with_reducible rfl
 rotate_left
 ·simp only [Act.put, List.setIfInBounds_toArray, List.set_cons_zero, List.set_cons_succ, i64_w, i32_w]
  rfl
 refine take_ (i := 14) (N := some 23) (v := ?_) (a' := ?_) #[true, true, true, true, true, true, true, true, true, true, true, true, true, true, true, false, false, false, true, false, false, false, false, false, false, false, false] rfl rfl (by kernel_rfl) (fun _ _ _ h => h) (Or.inl ⟨by rfl, ?_⟩) hHeld ?_ ?_
 rotate_left
 ·rintro w' ⟨s0, s1, s2, s3, s4, s5, s6, s7⟩
  go_simp
  with_reducible rfl
 rotate_left
 ·simp only [Act.put, List.setIfInBounds_toArray, List.set_cons_zero, List.set_cons_succ, i64_w, i32_w]
  rfl
 refine take_ (i := 19) (N := some 28) (v := ?_) (a' := ?_) #[true, true, true, true, true, true, true, true, true, true, true, true, true, true, true, false, false, false, true, true, false, false, false, false, false, false, false] rfl rfl (by kernel_rfl) (fun _ _ _ h => h) (Or.inl ⟨by rfl, ?_⟩) hHeld ?_ ?_
 rotate_left
 ·rintro w' ⟨s0, s1, s2, s3, s4, s5, s6, s7⟩
  go_simp
  with_reducible rfl
 rotate_left
 ·simp only [Act.put, List.setIfInBounds_toArray, List.set_cons_zero, List.set_cons_succ, i64_w, i32_w]
  rfl
 refine pure_ (i := 20) (N := some 29) (v := ?_) (a' := ?_) #[true, true, true, true, true, true, true, true, true, true, true, true, true, true, true, false, false, false, true, true, true, false, false, false, false, false, false] rfl rfl (by kernel_rfl) (fun _ _ _ h => h) (Or.inl ⟨by rfl, ?_⟩) ?_ ?_
 rotate_left
 ·intro w'
  go_simp
  with_reducible rfl
 rotate_left
 ·simp only [Act.put, List.setIfInBounds_toArray, List.set_cons_zero, List.set_cons_succ, i64_w, i32_w]
  rfl
 refine take_ (i := 21) (N := some 30) (v := ?_) (a' := ?_) #[true, true, true, true, true, true, true, true, true, true, true, true, true, true, true, false, false, false, true, true, true, true, false, false, false, false, false] rfl rfl (by kernel_rfl) (fun _ _ _ h => h) (Or.inl ⟨by rfl, ?_⟩) hHeld ?_ ?_
 rotate_left
 ·rintro w' ⟨s0, s1, s2, s3, s4, s5, s6, s7⟩
  go_simp
  with_reducible rfl
 rotate_left
 ·simp only [Act.put, List.setIfInBounds_toArray, List.set_cons_zero, List.set_cons_succ, i64_w, i32_w]
  rfl
 refine join_ (σ := Nat) 4 #[true, true, true, true, true, true, true, true, true, true, true, true, true, true, true, true, true, true, true, true, true, true, true, false, false, false, false] (fun gM => [(24, .string D), (25, .slice (some ⟨gM, 0, none⟩) 32 32), (26, .string z32), (31, .string bb)]) (fun gM w' => w'.cell? ⟨g1, 0, none⟩ = some (.string z32) ∧ w'.cell? ⟨g1, 1, none⟩ = some (.int .i64 1) ∧ w'.cell? ⟨g1, 2, none⟩ = some (.slice (some ⟨gA, 0, none⟩) 1 cA) ∧ w'.cell? ⟨gA, 0, none⟩ = some (.int .i64 1) ∧ w'.cell? ⟨gA, 1, none⟩ = some (.int .i64 3) ∧ w'.cell? ⟨gA, 2, none⟩ = some (.int .i64 1) ∧ w'.cell? ⟨gA, 3, none⟩ = some (.string bA) ∧ w'.cell? ⟨gA, 4, none⟩ = some (.int .i64 0) ∧ Aside0 (Below w.heap.size w w')) ?_ ?_
 rotate_left
 ·intro hCont
  refine two_ (i := 15) (j := 16) (Ni := some 24) (Nj := some 25) #[true, true, true, true, true, true, true, true, true, true, true, true, true, true, true, true, false, false, true, true, true, true, false, false, false, false, false] #[true, true, true, true, true, true, true, true, true, true, true, true, true, true, true, false, true, false, true, true, true, true, false, false, false, false, false] rfl rfl rfl rfl (by kernel_rfl) (by decide) (by decide) (fun K hK => ?_) (fun K hK => ?_)
  ·skip
   refine goes_ Try.func44 (by kernel_rfl) rfl #[.agg #[.string z32, .int .i64 1, .slice (some ⟨gA, 0, none⟩) 1 cA]] (by rfl) rfl rfl (by simp only [List.map_toArray, List.map_cons, List.map_nil]; rfl) ?_
   refine (audit_Digest.calls 20 z32 1 (some ⟨gA, 0, none⟩) cA [(⟨1, 3, 1, bA, 0⟩ : S64)] D w4.drew HC.out HCA.out HDG.out).mono ?_
   rintro e y15 ⟨rfl, hb⟩
   refine ⟨_, rfl, ?_⟩
   have c10_15 : y15.cell? ⟨g1, 0, none⟩ = some (.string z32) := pw_cell_below hb c10
   have c11_15 : y15.cell? ⟨g1, 1, none⟩ = some (.int .i64 1) := pw_cell_below hb c11
   have c12_15 : y15.cell? ⟨g1, 2, none⟩ = some (.slice (some ⟨gA, 0, none⟩) 1 cA) := pw_cell_below hb c12
   have d0_15 : y15.cell? ⟨gA, 0, none⟩ = some (.int .i64 1) := pw_cell_below hb d0
   have d1_15 : y15.cell? ⟨gA, 1, none⟩ = some (.int .i64 3) := pw_cell_below hb d1
   have d2_15 : y15.cell? ⟨gA, 2, none⟩ = some (.int .i64 1) := pw_cell_below hb d2
   have d3_15 : y15.cell? ⟨gA, 3, none⟩ = some (.string bA) := pw_cell_below hb d3
   have d4_15 : y15.cell? ⟨gA, 4, none⟩ = some (.int .i64 0) := pw_cell_below hb d4
   have HC_15 : Aside0 (Kd.C k64 y15 (some ⟨gA, 0, none⟩) 1 [(⟨1, 3, 1, bA, 0⟩ : S64)]) := ⟨Kd.C_below HC.out hb⟩
   have HL_15 : Aside0 (Below w.heap.size w y15) := ⟨below_step HL.out hb⟩
   clear hb
   refine hK.out _ _ ⟨c10_15, c11_15, c12_15, d0_15, d1_15, d2_15, d3_15, d4_15⟩ (fun hHeld => ?_)
   clear hK K
   refine norm_ (a' := ?_) ?_ ?_
   rotate_left
   ·show Act.put _ (some 24) _ = _
    simp only [Act.put, List.setIfInBounds_toArray, List.set_cons_zero, List.set_cons_succ, i64_w, i32_w]
    rfl
   refine two_ (i := 16) (j := 22) (Ni := some 25) (Nj := some 31) #[true, true, true, true, true, true, true, true, true, true, true, true, true, true, true, true, true, false, true, true, true, true, false, false, false, false, false] #[true, true, true, true, true, true, true, true, true, true, true, true, true, true, true, true, false, false, true, true, true, true, true, false, false, false, false] rfl rfl rfl rfl (by kernel_rfl) (by decide) (by decide) (fun K hK => ?_) (fun K hK => ?_)
   ·skip
    obtain ⟨gM, hgM⟩ : ∃ g, y15.heap.size = g := ⟨_, rfl⟩
    obtain ⟨y15_16, hy⟩ : ∃ y, y15.alloc (.cells mc 5) = y := ⟨_, rfl⟩
    have hmk : (Instr.makeSlice 23 (.int .i64 32) (.int .i64 32)).run Try.prog y15 = .ok (.slice (some ⟨gM, 0, none⟩) 32 32) y15_16 := by rw [← hgM, ← hy]; exact HMK.out _
    have HO_15_16 : Aside0 (y15_16.ownsRow 0 5 1 (.slice (some ⟨gM, 0, none⟩) 32 32) 32 (nums .u8 (List.replicate 32 0))) := ⟨by rw [← hgM, ← hy]; exact HMO.out _⟩
    have hb : Below y15.heap.size y15 y15_16 := by rw [← hy]; exact below_alloc (Below.refl _ _) _
    refine value_ (w1 := y15_16) (v := .slice (some ⟨gM, 0, none⟩) 32 32) (by rfl) rfl ?_ ?_
    ·go_simp
    clear hmk hy hgM
    have c10_15_16 : y15_16.cell? ⟨g1, 0, none⟩ = some (.string z32) := pw_cell_below hb c10_15
    have c11_15_16 : y15_16.cell? ⟨g1, 1, none⟩ = some (.int .i64 1) := pw_cell_below hb c11_15
    have c12_15_16 : y15_16.cell? ⟨g1, 2, none⟩ = some (.slice (some ⟨gA, 0, none⟩) 1 cA) := pw_cell_below hb c12_15
    have d0_15_16 : y15_16.cell? ⟨gA, 0, none⟩ = some (.int .i64 1) := pw_cell_below hb d0_15
    have d1_15_16 : y15_16.cell? ⟨gA, 1, none⟩ = some (.int .i64 3) := pw_cell_below hb d1_15
    have d2_15_16 : y15_16.cell? ⟨gA, 2, none⟩ = some (.int .i64 1) := pw_cell_below hb d2_15
    have d3_15_16 : y15_16.cell? ⟨gA, 3, none⟩ = some (.string bA) := pw_cell_below hb d3_15
    have d4_15_16 : y15_16.cell? ⟨gA, 4, none⟩ = some (.int .i64 0) := pw_cell_below hb d4_15
    have HC_15_16 : Aside0 (Kd.C k64 y15_16 (some ⟨gA, 0, none⟩) 1 [(⟨1, 3, 1, bA, 0⟩ : S64)]) := ⟨Kd.C_below HC_15.out hb⟩
    have HL_15_16 : Aside0 (Below w.heap.size w y15_16) := ⟨below_step HL_15.out hb⟩
    clear hb
    refine hK.out _ _ ⟨c10_15_16, c11_15_16, c12_15_16, d0_15_16, d1_15_16, d2_15_16, d3_15_16, d4_15_16⟩ (fun hHeld => ?_)
    clear hK K
    refine norm_ (a' := ?_) ?_ ?_
    rotate_left
    ·show Act.put _ (some 25) _ = _
     simp only [Act.put, List.setIfInBounds_toArray, List.set_cons_zero, List.set_cons_succ, i64_w, i32_w]
     rfl
    refine two_ (i := 17) (j := 22) (Ni := some 26) (Nj := some 31) #[true, true, true, true, true, true, true, true, true, true, true, true, true, true, true, true, true, true, true, true, true, true, false, false, false, false, false] #[true, true, true, true, true, true, true, true, true, true, true, true, true, true, true, true, true, false, true, true, true, true, true, false, false, false, false] rfl rfl rfl rfl (by kernel_rfl) (by decide) (by decide) (fun K hK => ?_) (fun K hK => ?_)
    ·skip
     have hcv : (convert 23 9 (.slice (some ⟨gM, 0, none⟩) 32 32)).run Try.prog y15_16 = .ok (.string z32) y15_16 := own_string (P := Try.prog) Try.underlying23 Try.underlying5 Try.underlying9 HO_15_16.out
     refine value_ (w1 := y15_16) (v := .string z32) (by rfl) rfl ?_ ?_
     ·go_simp
     clear hcv
     refine hK.out _ _ ⟨c10_15_16, c11_15_16, c12_15_16, d0_15_16, d1_15_16, d2_15_16, d3_15_16, d4_15_16⟩ (fun hHeld => ?_)
     clear hK K
     refine norm_ (a' := ?_) ?_ ?_
     rotate_left
     ·show Act.put _ (some 26) _ = _
      simp only [Act.put, List.setIfInBounds_toArray, List.set_cons_zero, List.set_cons_succ, i64_w, i32_w]
      rfl
     refine one_ (i := 22) (N := some 31) #[true, true, true, true, true, true, true, true, true, true, true, true, true, true, true, true, true, true, true, true, true, true, true, false, false, false, false] rfl rfl (by kernel_rfl) (by decide) (fun K hK => ?_)
     refine goes_ Try.func48 (by kernel_rfl) rfl #[.agg #[.int .i64 1, .int .i64 3, .int .i64 1, .string bA, .int .i64 0]] (by rfl) rfl rfl (by simp only [List.map_toArray, List.map_cons, List.map_nil]; rfl) ?_
     refine (strongroomref13_Bytes.calls 20 1 3 1 bA 0 bb y15_16 HBB.out).mono ?_
     rintro e y15_16_22 ⟨rfl, hb⟩
     refine ⟨_, rfl, ?_⟩
     have c10_15_16_22 : y15_16_22.cell? ⟨g1, 0, none⟩ = some (.string z32) := pw_cell_below hb c10_15_16
     have c11_15_16_22 : y15_16_22.cell? ⟨g1, 1, none⟩ = some (.int .i64 1) := pw_cell_below hb c11_15_16
     have c12_15_16_22 : y15_16_22.cell? ⟨g1, 2, none⟩ = some (.slice (some ⟨gA, 0, none⟩) 1 cA) := pw_cell_below hb c12_15_16
     have d0_15_16_22 : y15_16_22.cell? ⟨gA, 0, none⟩ = some (.int .i64 1) := pw_cell_below hb d0_15_16
     have d1_15_16_22 : y15_16_22.cell? ⟨gA, 1, none⟩ = some (.int .i64 3) := pw_cell_below hb d1_15_16
     have d2_15_16_22 : y15_16_22.cell? ⟨gA, 2, none⟩ = some (.int .i64 1) := pw_cell_below hb d2_15_16
     have d3_15_16_22 : y15_16_22.cell? ⟨gA, 3, none⟩ = some (.string bA) := pw_cell_below hb d3_15_16
     have d4_15_16_22 : y15_16_22.cell? ⟨gA, 4, none⟩ = some (.int .i64 0) := pw_cell_below hb d4_15_16
     have HC_15_16_22 : Aside0 (Kd.C k64 y15_16_22 (some ⟨gA, 0, none⟩) 1 [(⟨1, 3, 1, bA, 0⟩ : S64)]) := ⟨Kd.C_below HC_15_16.out hb⟩
     have HL_15_16_22 : Aside0 (Below w.heap.size w y15_16_22) := ⟨below_step HL_15_16.out hb⟩
     have HO_15_16_22 : Aside0 (y15_16_22.ownsRow 0 5 1 (.slice (some ⟨gM, 0, none⟩) 32 32) 32 (nums .u8 (List.replicate 32 0))) := ⟨pw_own_below HO_15_16.out hb⟩
     clear hb
     refine hK.out _ _ ⟨c10_15_16_22, c11_15_16_22, c12_15_16_22, d0_15_16_22, d1_15_16_22, d2_15_16_22, d3_15_16_22, d4_15_16_22⟩ (fun hHeld => ?_)
     clear hK K
     refine norm_ (a' := ?_) ?_ ?_
     rotate_left
     ·show Act.put _ (some 31) _ = _
      simp only [Act.put, List.setIfInBounds_toArray, List.set_cons_zero, List.set_cons_succ, i64_w, i32_w]
      rfl
     exact norm_ (by simp only [putAll, Act.put, List.setIfInBounds_toArray, List.set_cons_zero, List.set_cons_succ]) (hCont gM _ ⟨c10_15_16_22, c11_15_16_22, c12_15_16_22, d0_15_16_22, d1_15_16_22, d2_15_16_22, d3_15_16_22, d4_15_16_22, HL_15_16_22⟩)
    ·skip
     refine goes_ Try.func48 (by kernel_rfl) rfl #[.agg #[.int .i64 1, .int .i64 3, .int .i64 1, .string bA, .int .i64 0]] (by rfl) rfl rfl (by simp only [List.map_toArray, List.map_cons, List.map_nil]; rfl) ?_
     refine (strongroomref13_Bytes.calls 20 1 3 1 bA 0 bb y15_16 HBB.out).mono ?_
     rintro e y15_16_22 ⟨rfl, hb⟩
     refine ⟨_, rfl, ?_⟩
     have c10_15_16_22 : y15_16_22.cell? ⟨g1, 0, none⟩ = some (.string z32) := pw_cell_below hb c10_15_16
     have c11_15_16_22 : y15_16_22.cell? ⟨g1, 1, none⟩ = some (.int .i64 1) := pw_cell_below hb c11_15_16
     have c12_15_16_22 : y15_16_22.cell? ⟨g1, 2, none⟩ = some (.slice (some ⟨gA, 0, none⟩) 1 cA) := pw_cell_below hb c12_15_16
     have d0_15_16_22 : y15_16_22.cell? ⟨gA, 0, none⟩ = some (.int .i64 1) := pw_cell_below hb d0_15_16
     have d1_15_16_22 : y15_16_22.cell? ⟨gA, 1, none⟩ = some (.int .i64 3) := pw_cell_below hb d1_15_16
     have d2_15_16_22 : y15_16_22.cell? ⟨gA, 2, none⟩ = some (.int .i64 1) := pw_cell_below hb d2_15_16
     have d3_15_16_22 : y15_16_22.cell? ⟨gA, 3, none⟩ = some (.string bA) := pw_cell_below hb d3_15_16
     have d4_15_16_22 : y15_16_22.cell? ⟨gA, 4, none⟩ = some (.int .i64 0) := pw_cell_below hb d4_15_16
     have HC_15_16_22 : Aside0 (Kd.C k64 y15_16_22 (some ⟨gA, 0, none⟩) 1 [(⟨1, 3, 1, bA, 0⟩ : S64)]) := ⟨Kd.C_below HC_15_16.out hb⟩
     have HL_15_16_22 : Aside0 (Below w.heap.size w y15_16_22) := ⟨below_step HL_15_16.out hb⟩
     have HO_15_16_22 : Aside0 (y15_16_22.ownsRow 0 5 1 (.slice (some ⟨gM, 0, none⟩) 32 32) 32 (nums .u8 (List.replicate 32 0))) := ⟨pw_own_below HO_15_16.out hb⟩
     clear hb
     refine hK.out _ _ ⟨c10_15_16_22, c11_15_16_22, c12_15_16_22, d0_15_16_22, d1_15_16_22, d2_15_16_22, d3_15_16_22, d4_15_16_22⟩ (fun hHeld => ?_)
     clear hK K
     refine norm_ (a' := ?_) ?_ ?_
     rotate_left
     ·show Act.put _ (some 31) _ = _
      simp only [Act.put, List.setIfInBounds_toArray, List.set_cons_zero, List.set_cons_succ, i64_w, i32_w]
      rfl
     refine one_ (i := 17) (N := some 26) #[true, true, true, true, true, true, true, true, true, true, true, true, true, true, true, true, true, true, true, true, true, true, true, false, false, false, false] rfl rfl (by kernel_rfl) (by decide) (fun K hK => ?_)
     have hcv : (convert 23 9 (.slice (some ⟨gM, 0, none⟩) 32 32)).run Try.prog y15_16_22 = .ok (.string z32) y15_16_22 := own_string (P := Try.prog) Try.underlying23 Try.underlying5 Try.underlying9 HO_15_16_22.out
     refine value_ (w1 := y15_16_22) (v := .string z32) (by rfl) rfl ?_ ?_
     ·go_simp
     clear hcv
     refine hK.out _ _ ⟨c10_15_16_22, c11_15_16_22, c12_15_16_22, d0_15_16_22, d1_15_16_22, d2_15_16_22, d3_15_16_22, d4_15_16_22⟩ (fun hHeld => ?_)
     clear hK K
     refine norm_ (a' := ?_) ?_ ?_
     rotate_left
     ·show Act.put _ (some 26) _ = _
      simp only [Act.put, List.setIfInBounds_toArray, List.set_cons_zero, List.set_cons_succ, i64_w, i32_w]
      rfl
     exact norm_ (by simp only [putAll, Act.put, List.setIfInBounds_toArray, List.set_cons_zero, List.set_cons_succ]) (hCont gM _ ⟨c10_15_16_22, c11_15_16_22, c12_15_16_22, d0_15_16_22, d1_15_16_22, d2_15_16_22, d3_15_16_22, d4_15_16_22, HL_15_16_22⟩)
   ·skip
    refine goes_ Try.func48 (by kernel_rfl) rfl #[.agg #[.int .i64 1, .int .i64 3, .int .i64 1, .string bA, .int .i64 0]] (by rfl) rfl rfl (by simp only [List.map_toArray, List.map_cons, List.map_nil]; rfl) ?_
    refine (strongroomref13_Bytes.calls 20 1 3 1 bA 0 bb y15 HBB.out).mono ?_
    rintro e y15_22 ⟨rfl, hb⟩
    refine ⟨_, rfl, ?_⟩
    have c10_15_22 : y15_22.cell? ⟨g1, 0, none⟩ = some (.string z32) := pw_cell_below hb c10_15
    have c11_15_22 : y15_22.cell? ⟨g1, 1, none⟩ = some (.int .i64 1) := pw_cell_below hb c11_15
    have c12_15_22 : y15_22.cell? ⟨g1, 2, none⟩ = some (.slice (some ⟨gA, 0, none⟩) 1 cA) := pw_cell_below hb c12_15
    have d0_15_22 : y15_22.cell? ⟨gA, 0, none⟩ = some (.int .i64 1) := pw_cell_below hb d0_15
    have d1_15_22 : y15_22.cell? ⟨gA, 1, none⟩ = some (.int .i64 3) := pw_cell_below hb d1_15
    have d2_15_22 : y15_22.cell? ⟨gA, 2, none⟩ = some (.int .i64 1) := pw_cell_below hb d2_15
    have d3_15_22 : y15_22.cell? ⟨gA, 3, none⟩ = some (.string bA) := pw_cell_below hb d3_15
    have d4_15_22 : y15_22.cell? ⟨gA, 4, none⟩ = some (.int .i64 0) := pw_cell_below hb d4_15
    have HC_15_22 : Aside0 (Kd.C k64 y15_22 (some ⟨gA, 0, none⟩) 1 [(⟨1, 3, 1, bA, 0⟩ : S64)]) := ⟨Kd.C_below HC_15.out hb⟩
    have HL_15_22 : Aside0 (Below w.heap.size w y15_22) := ⟨below_step HL_15.out hb⟩
    clear hb
    refine hK.out _ _ ⟨c10_15_22, c11_15_22, c12_15_22, d0_15_22, d1_15_22, d2_15_22, d3_15_22, d4_15_22⟩ (fun hHeld => ?_)
    clear hK K
    refine norm_ (a' := ?_) ?_ ?_
    rotate_left
    ·show Act.put _ (some 31) _ = _
     simp only [Act.put, List.setIfInBounds_toArray, List.set_cons_zero, List.set_cons_succ, i64_w, i32_w]
     rfl
    refine one_ (i := 16) (N := some 25) #[true, true, true, true, true, true, true, true, true, true, true, true, true, true, true, true, true, false, true, true, true, true, true, false, false, false, false] rfl rfl (by kernel_rfl) (by decide) (fun K hK => ?_)
    obtain ⟨gM, hgM⟩ : ∃ g, y15_22.heap.size = g := ⟨_, rfl⟩
    obtain ⟨y15_22_16, hy⟩ : ∃ y, y15_22.alloc (.cells mc 5) = y := ⟨_, rfl⟩
    have hmk : (Instr.makeSlice 23 (.int .i64 32) (.int .i64 32)).run Try.prog y15_22 = .ok (.slice (some ⟨gM, 0, none⟩) 32 32) y15_22_16 := by rw [← hgM, ← hy]; exact HMK.out _
    have HO_15_22_16 : Aside0 (y15_22_16.ownsRow 0 5 1 (.slice (some ⟨gM, 0, none⟩) 32 32) 32 (nums .u8 (List.replicate 32 0))) := ⟨by rw [← hgM, ← hy]; exact HMO.out _⟩
    have hb : Below y15_22.heap.size y15_22 y15_22_16 := by rw [← hy]; exact below_alloc (Below.refl _ _) _
    refine value_ (w1 := y15_22_16) (v := .slice (some ⟨gM, 0, none⟩) 32 32) (by rfl) rfl ?_ ?_
    ·go_simp
    clear hmk hy hgM
    have c10_15_22_16 : y15_22_16.cell? ⟨g1, 0, none⟩ = some (.string z32) := pw_cell_below hb c10_15_22
    have c11_15_22_16 : y15_22_16.cell? ⟨g1, 1, none⟩ = some (.int .i64 1) := pw_cell_below hb c11_15_22
    have c12_15_22_16 : y15_22_16.cell? ⟨g1, 2, none⟩ = some (.slice (some ⟨gA, 0, none⟩) 1 cA) := pw_cell_below hb c12_15_22
    have d0_15_22_16 : y15_22_16.cell? ⟨gA, 0, none⟩ = some (.int .i64 1) := pw_cell_below hb d0_15_22
    have d1_15_22_16 : y15_22_16.cell? ⟨gA, 1, none⟩ = some (.int .i64 3) := pw_cell_below hb d1_15_22
    have d2_15_22_16 : y15_22_16.cell? ⟨gA, 2, none⟩ = some (.int .i64 1) := pw_cell_below hb d2_15_22
    have d3_15_22_16 : y15_22_16.cell? ⟨gA, 3, none⟩ = some (.string bA) := pw_cell_below hb d3_15_22
    have d4_15_22_16 : y15_22_16.cell? ⟨gA, 4, none⟩ = some (.int .i64 0) := pw_cell_below hb d4_15_22
    have HC_15_22_16 : Aside0 (Kd.C k64 y15_22_16 (some ⟨gA, 0, none⟩) 1 [(⟨1, 3, 1, bA, 0⟩ : S64)]) := ⟨Kd.C_below HC_15_22.out hb⟩
    have HL_15_22_16 : Aside0 (Below w.heap.size w y15_22_16) := ⟨below_step HL_15_22.out hb⟩
    clear hb
    refine hK.out _ _ ⟨c10_15_22_16, c11_15_22_16, c12_15_22_16, d0_15_22_16, d1_15_22_16, d2_15_22_16, d3_15_22_16, d4_15_22_16⟩ (fun hHeld => ?_)
    clear hK K
    refine norm_ (a' := ?_) ?_ ?_
    rotate_left
    ·show Act.put _ (some 25) _ = _
     simp only [Act.put, List.setIfInBounds_toArray, List.set_cons_zero, List.set_cons_succ, i64_w, i32_w]
     rfl
    refine one_ (i := 17) (N := some 26) #[true, true, true, true, true, true, true, true, true, true, true, true, true, true, true, true, true, true, true, true, true, true, true, false, false, false, false] rfl rfl (by kernel_rfl) (by decide) (fun K hK => ?_)
    have hcv : (convert 23 9 (.slice (some ⟨gM, 0, none⟩) 32 32)).run Try.prog y15_22_16 = .ok (.string z32) y15_22_16 := own_string (P := Try.prog) Try.underlying23 Try.underlying5 Try.underlying9 HO_15_22_16.out
    refine value_ (w1 := y15_22_16) (v := .string z32) (by rfl) rfl ?_ ?_
    ·go_simp
    clear hcv
    refine hK.out _ _ ⟨c10_15_22_16, c11_15_22_16, c12_15_22_16, d0_15_22_16, d1_15_22_16, d2_15_22_16, d3_15_22_16, d4_15_22_16⟩ (fun hHeld => ?_)
    clear hK K
    refine norm_ (a' := ?_) ?_ ?_
    rotate_left
    ·show Act.put _ (some 26) _ = _
     simp only [Act.put, List.setIfInBounds_toArray, List.set_cons_zero, List.set_cons_succ, i64_w, i32_w]
     rfl
    exact norm_ (by simp only [putAll, Act.put, List.setIfInBounds_toArray, List.set_cons_zero, List.set_cons_succ]) (hCont gM _ ⟨c10_15_22_16, c11_15_22_16, c12_15_22_16, d0_15_22_16, d1_15_22_16, d2_15_22_16, d3_15_22_16, d4_15_22_16, HL_15_22_16⟩)
  ·skip
   obtain ⟨gM, hgM⟩ : ∃ g, w4.drew.heap.size = g := ⟨_, rfl⟩
   obtain ⟨y16, hy⟩ : ∃ y, w4.drew.alloc (.cells mc 5) = y := ⟨_, rfl⟩
   have hmk : (Instr.makeSlice 23 (.int .i64 32) (.int .i64 32)).run Try.prog w4.drew = .ok (.slice (some ⟨gM, 0, none⟩) 32 32) y16 := by rw [← hgM, ← hy]; exact HMK.out _
   have HO_16 : Aside0 (y16.ownsRow 0 5 1 (.slice (some ⟨gM, 0, none⟩) 32 32) 32 (nums .u8 (List.replicate 32 0))) := ⟨by rw [← hgM, ← hy]; exact HMO.out _⟩
   have hb : Below w4.drew.heap.size w4.drew y16 := by rw [← hy]; exact below_alloc (Below.refl _ _) _
   refine value_ (w1 := y16) (v := .slice (some ⟨gM, 0, none⟩) 32 32) (by rfl) rfl ?_ ?_
   ·go_simp
   clear hmk hy hgM
   have c10_16 : y16.cell? ⟨g1, 0, none⟩ = some (.string z32) := pw_cell_below hb c10
   have c11_16 : y16.cell? ⟨g1, 1, none⟩ = some (.int .i64 1) := pw_cell_below hb c11
   have c12_16 : y16.cell? ⟨g1, 2, none⟩ = some (.slice (some ⟨gA, 0, none⟩) 1 cA) := pw_cell_below hb c12
   have d0_16 : y16.cell? ⟨gA, 0, none⟩ = some (.int .i64 1) := pw_cell_below hb d0
   have d1_16 : y16.cell? ⟨gA, 1, none⟩ = some (.int .i64 3) := pw_cell_below hb d1
   have d2_16 : y16.cell? ⟨gA, 2, none⟩ = some (.int .i64 1) := pw_cell_below hb d2
   have d3_16 : y16.cell? ⟨gA, 3, none⟩ = some (.string bA) := pw_cell_below hb d3
   have d4_16 : y16.cell? ⟨gA, 4, none⟩ = some (.int .i64 0) := pw_cell_below hb d4
   have HC_16 : Aside0 (Kd.C k64 y16 (some ⟨gA, 0, none⟩) 1 [(⟨1, 3, 1, bA, 0⟩ : S64)]) := ⟨Kd.C_below HC.out hb⟩
   have HL_16 : Aside0 (Below w.heap.size w y16) := ⟨below_step HL.out hb⟩
   clear hb
   refine hK.out _ _ ⟨c10_16, c11_16, c12_16, d0_16, d1_16, d2_16, d3_16, d4_16⟩ (fun hHeld => ?_)
   clear hK K
   refine norm_ (a' := ?_) ?_ ?_
   rotate_left
   ·show Act.put _ (some 25) _ = _
    simp only [Act.put, List.setIfInBounds_toArray, List.set_cons_zero, List.set_cons_succ, i64_w, i32_w]
    rfl
   refine two_ (i := 15) (j := 17) (Ni := some 24) (Nj := some 26) #[true, true, true, true, true, true, true, true, true, true, true, true, true, true, true, true, true, false, true, true, true, true, false, false, false, false, false] #[true, true, true, true, true, true, true, true, true, true, true, true, true, true, true, false, true, true, true, true, true, true, false, false, false, false, false] rfl rfl rfl rfl (by kernel_rfl) (by decide) (by decide) (fun K hK => ?_) (fun K hK => ?_)
   ·skip
    refine goes_ Try.func44 (by kernel_rfl) rfl #[.agg #[.string z32, .int .i64 1, .slice (some ⟨gA, 0, none⟩) 1 cA]] (by rfl) rfl rfl (by simp only [List.map_toArray, List.map_cons, List.map_nil]; rfl) ?_
    refine (audit_Digest.calls 20 z32 1 (some ⟨gA, 0, none⟩) cA [(⟨1, 3, 1, bA, 0⟩ : S64)] D y16 HC_16.out HCA.out HDG.out).mono ?_
    rintro e y16_15 ⟨rfl, hb⟩
    refine ⟨_, rfl, ?_⟩
    have c10_16_15 : y16_15.cell? ⟨g1, 0, none⟩ = some (.string z32) := pw_cell_below hb c10_16
    have c11_16_15 : y16_15.cell? ⟨g1, 1, none⟩ = some (.int .i64 1) := pw_cell_below hb c11_16
    have c12_16_15 : y16_15.cell? ⟨g1, 2, none⟩ = some (.slice (some ⟨gA, 0, none⟩) 1 cA) := pw_cell_below hb c12_16
    have d0_16_15 : y16_15.cell? ⟨gA, 0, none⟩ = some (.int .i64 1) := pw_cell_below hb d0_16
    have d1_16_15 : y16_15.cell? ⟨gA, 1, none⟩ = some (.int .i64 3) := pw_cell_below hb d1_16
    have d2_16_15 : y16_15.cell? ⟨gA, 2, none⟩ = some (.int .i64 1) := pw_cell_below hb d2_16
    have d3_16_15 : y16_15.cell? ⟨gA, 3, none⟩ = some (.string bA) := pw_cell_below hb d3_16
    have d4_16_15 : y16_15.cell? ⟨gA, 4, none⟩ = some (.int .i64 0) := pw_cell_below hb d4_16
    have HC_16_15 : Aside0 (Kd.C k64 y16_15 (some ⟨gA, 0, none⟩) 1 [(⟨1, 3, 1, bA, 0⟩ : S64)]) := ⟨Kd.C_below HC_16.out hb⟩
    have HL_16_15 : Aside0 (Below w.heap.size w y16_15) := ⟨below_step HL_16.out hb⟩
    have HO_16_15 : Aside0 (y16_15.ownsRow 0 5 1 (.slice (some ⟨gM, 0, none⟩) 32 32) 32 (nums .u8 (List.replicate 32 0))) := ⟨pw_own_below HO_16.out hb⟩
    clear hb
    refine hK.out _ _ ⟨c10_16_15, c11_16_15, c12_16_15, d0_16_15, d1_16_15, d2_16_15, d3_16_15, d4_16_15⟩ (fun hHeld => ?_)
    clear hK K
    refine norm_ (a' := ?_) ?_ ?_
    rotate_left
    ·show Act.put _ (some 24) _ = _
     simp only [Act.put, List.setIfInBounds_toArray, List.set_cons_zero, List.set_cons_succ, i64_w, i32_w]
     rfl
    refine two_ (i := 17) (j := 22) (Ni := some 26) (Nj := some 31) #[true, true, true, true, true, true, true, true, true, true, true, true, true, true, true, true, true, true, true, true, true, true, false, false, false, false, false] #[true, true, true, true, true, true, true, true, true, true, true, true, true, true, true, true, true, false, true, true, true, true, true, false, false, false, false] rfl rfl rfl rfl (by kernel_rfl) (by decide) (by decide) (fun K hK => ?_) (fun K hK => ?_)
    ·skip
     have hcv : (convert 23 9 (.slice (some ⟨gM, 0, none⟩) 32 32)).run Try.prog y16_15 = .ok (.string z32) y16_15 := own_string (P := Try.prog) Try.underlying23 Try.underlying5 Try.underlying9 HO_16_15.out
     refine value_ (w1 := y16_15) (v := .string z32) (by rfl) rfl ?_ ?_
     ·go_simp
     clear hcv
     refine hK.out _ _ ⟨c10_16_15, c11_16_15, c12_16_15, d0_16_15, d1_16_15, d2_16_15, d3_16_15, d4_16_15⟩ (fun hHeld => ?_)
     clear hK K
     refine norm_ (a' := ?_) ?_ ?_
     rotate_left
     ·show Act.put _ (some 26) _ = _
      simp only [Act.put, List.setIfInBounds_toArray, List.set_cons_zero, List.set_cons_succ, i64_w, i32_w]
      rfl
     refine one_ (i := 22) (N := some 31) #[true, true, true, true, true, true, true, true, true, true, true, true, true, true, true, true, true, true, true, true, true, true, true, false, false, false, false] rfl rfl (by kernel_rfl) (by decide) (fun K hK => ?_)
     refine goes_ Try.func48 (by kernel_rfl) rfl #[.agg #[.int .i64 1, .int .i64 3, .int .i64 1, .string bA, .int .i64 0]] (by rfl) rfl rfl (by simp only [List.map_toArray, List.map_cons, List.map_nil]; rfl) ?_
     refine (strongroomref13_Bytes.calls 20 1 3 1 bA 0 bb y16_15 HBB.out).mono ?_
     rintro e y16_15_22 ⟨rfl, hb⟩
     refine ⟨_, rfl, ?_⟩
     have c10_16_15_22 : y16_15_22.cell? ⟨g1, 0, none⟩ = some (.string z32) := pw_cell_below hb c10_16_15
     have c11_16_15_22 : y16_15_22.cell? ⟨g1, 1, none⟩ = some (.int .i64 1) := pw_cell_below hb c11_16_15
     have c12_16_15_22 : y16_15_22.cell? ⟨g1, 2, none⟩ = some (.slice (some ⟨gA, 0, none⟩) 1 cA) := pw_cell_below hb c12_16_15
     have d0_16_15_22 : y16_15_22.cell? ⟨gA, 0, none⟩ = some (.int .i64 1) := pw_cell_below hb d0_16_15
     have d1_16_15_22 : y16_15_22.cell? ⟨gA, 1, none⟩ = some (.int .i64 3) := pw_cell_below hb d1_16_15
     have d2_16_15_22 : y16_15_22.cell? ⟨gA, 2, none⟩ = some (.int .i64 1) := pw_cell_below hb d2_16_15
     have d3_16_15_22 : y16_15_22.cell? ⟨gA, 3, none⟩ = some (.string bA) := pw_cell_below hb d3_16_15
     have d4_16_15_22 : y16_15_22.cell? ⟨gA, 4, none⟩ = some (.int .i64 0) := pw_cell_below hb d4_16_15
     have HC_16_15_22 : Aside0 (Kd.C k64 y16_15_22 (some ⟨gA, 0, none⟩) 1 [(⟨1, 3, 1, bA, 0⟩ : S64)]) := ⟨Kd.C_below HC_16_15.out hb⟩
     have HL_16_15_22 : Aside0 (Below w.heap.size w y16_15_22) := ⟨below_step HL_16_15.out hb⟩
     have HO_16_15_22 : Aside0 (y16_15_22.ownsRow 0 5 1 (.slice (some ⟨gM, 0, none⟩) 32 32) 32 (nums .u8 (List.replicate 32 0))) := ⟨pw_own_below HO_16_15.out hb⟩
     clear hb
     refine hK.out _ _ ⟨c10_16_15_22, c11_16_15_22, c12_16_15_22, d0_16_15_22, d1_16_15_22, d2_16_15_22, d3_16_15_22, d4_16_15_22⟩ (fun hHeld => ?_)
     clear hK K
     refine norm_ (a' := ?_) ?_ ?_
     rotate_left
     ·show Act.put _ (some 31) _ = _
      simp only [Act.put, List.setIfInBounds_toArray, List.set_cons_zero, List.set_cons_succ, i64_w, i32_w]
      rfl
     exact norm_ (by simp only [putAll, Act.put, List.setIfInBounds_toArray, List.set_cons_zero, List.set_cons_succ]) (hCont gM _ ⟨c10_16_15_22, c11_16_15_22, c12_16_15_22, d0_16_15_22, d1_16_15_22, d2_16_15_22, d3_16_15_22, d4_16_15_22, HL_16_15_22⟩)
    ·skip
     refine goes_ Try.func48 (by kernel_rfl) rfl #[.agg #[.int .i64 1, .int .i64 3, .int .i64 1, .string bA, .int .i64 0]] (by rfl) rfl rfl (by simp only [List.map_toArray, List.map_cons, List.map_nil]; rfl) ?_
     refine (strongroomref13_Bytes.calls 20 1 3 1 bA 0 bb y16_15 HBB.out).mono ?_
     rintro e y16_15_22 ⟨rfl, hb⟩
     refine ⟨_, rfl, ?_⟩
     have c10_16_15_22 : y16_15_22.cell? ⟨g1, 0, none⟩ = some (.string z32) := pw_cell_below hb c10_16_15
     have c11_16_15_22 : y16_15_22.cell? ⟨g1, 1, none⟩ = some (.int .i64 1) := pw_cell_below hb c11_16_15
     have c12_16_15_22 : y16_15_22.cell? ⟨g1, 2, none⟩ = some (.slice (some ⟨gA, 0, none⟩) 1 cA) := pw_cell_below hb c12_16_15
     have d0_16_15_22 : y16_15_22.cell? ⟨gA, 0, none⟩ = some (.int .i64 1) := pw_cell_below hb d0_16_15
     have d1_16_15_22 : y16_15_22.cell? ⟨gA, 1, none⟩ = some (.int .i64 3) := pw_cell_below hb d1_16_15
     have d2_16_15_22 : y16_15_22.cell? ⟨gA, 2, none⟩ = some (.int .i64 1) := pw_cell_below hb d2_16_15
     have d3_16_15_22 : y16_15_22.cell? ⟨gA, 3, none⟩ = some (.string bA) := pw_cell_below hb d3_16_15
     have d4_16_15_22 : y16_15_22.cell? ⟨gA, 4, none⟩ = some (.int .i64 0) := pw_cell_below hb d4_16_15
     have HC_16_15_22 : Aside0 (Kd.C k64 y16_15_22 (some ⟨gA, 0, none⟩) 1 [(⟨1, 3, 1, bA, 0⟩ : S64)]) := ⟨Kd.C_below HC_16_15.out hb⟩
     have HL_16_15_22 : Aside0 (Below w.heap.size w y16_15_22) := ⟨below_step HL_16_15.out hb⟩
     have HO_16_15_22 : Aside0 (y16_15_22.ownsRow 0 5 1 (.slice (some ⟨gM, 0, none⟩) 32 32) 32 (nums .u8 (List.replicate 32 0))) := ⟨pw_own_below HO_16_15.out hb⟩
     clear hb
     refine hK.out _ _ ⟨c10_16_15_22, c11_16_15_22, c12_16_15_22, d0_16_15_22, d1_16_15_22, d2_16_15_22, d3_16_15_22, d4_16_15_22⟩ (fun hHeld => ?_)
     clear hK K
     refine norm_ (a' := ?_) ?_ ?_
     rotate_left
     ·show Act.put _ (some 31) _ = _
      simp only [Act.put, List.setIfInBounds_toArray, List.set_cons_zero, List.set_cons_succ, i64_w, i32_w]
      rfl
     refine one_ (i := 17) (N := some 26) #[true, true, true, true, true, true, true, true, true, true, true, true, true, true, true, true, true, true, true, true, true, true, true, false, false, false, false] rfl rfl (by kernel_rfl) (by decide) (fun K hK => ?_)
     have hcv : (convert 23 9 (.slice (some ⟨gM, 0, none⟩) 32 32)).run Try.prog y16_15_22 = .ok (.string z32) y16_15_22 := own_string (P := Try.prog) Try.underlying23 Try.underlying5 Try.underlying9 HO_16_15_22.out
     refine value_ (w1 := y16_15_22) (v := .string z32) (by rfl) rfl ?_ ?_
     ·go_simp
     clear hcv
     refine hK.out _ _ ⟨c10_16_15_22, c11_16_15_22, c12_16_15_22, d0_16_15_22, d1_16_15_22, d2_16_15_22, d3_16_15_22, d4_16_15_22⟩ (fun hHeld => ?_)
     clear hK K
     refine norm_ (a' := ?_) ?_ ?_
     rotate_left
     ·show Act.put _ (some 26) _ = _
      simp only [Act.put, List.setIfInBounds_toArray, List.set_cons_zero, List.set_cons_succ, i64_w, i32_w]
      rfl
     exact norm_ (by simp only [putAll, Act.put, List.setIfInBounds_toArray, List.set_cons_zero, List.set_cons_succ]) (hCont gM _ ⟨c10_16_15_22, c11_16_15_22, c12_16_15_22, d0_16_15_22, d1_16_15_22, d2_16_15_22, d3_16_15_22, d4_16_15_22, HL_16_15_22⟩)
   ·skip
    have hcv : (convert 23 9 (.slice (some ⟨gM, 0, none⟩) 32 32)).run Try.prog y16 = .ok (.string z32) y16 := own_string (P := Try.prog) Try.underlying23 Try.underlying5 Try.underlying9 HO_16.out
    refine value_ (w1 := y16) (v := .string z32) (by rfl) rfl ?_ ?_
    ·go_simp
    clear hcv
    refine hK.out _ _ ⟨c10_16, c11_16, c12_16, d0_16, d1_16, d2_16, d3_16, d4_16⟩ (fun hHeld => ?_)
    clear hK K
    refine norm_ (a' := ?_) ?_ ?_
    rotate_left
    ·show Act.put _ (some 26) _ = _
     simp only [Act.put, List.setIfInBounds_toArray, List.set_cons_zero, List.set_cons_succ, i64_w, i32_w]
     rfl
    refine one_ (i := 15) (N := some 24) #[true, true, true, true, true, true, true, true, true, true, true, true, true, true, true, true, true, true, true, true, true, true, false, false, false, false, false] rfl rfl (by kernel_rfl) (by decide) (fun K hK => ?_)
    refine goes_ Try.func44 (by kernel_rfl) rfl #[.agg #[.string z32, .int .i64 1, .slice (some ⟨gA, 0, none⟩) 1 cA]] (by rfl) rfl rfl (by simp only [List.map_toArray, List.map_cons, List.map_nil]; rfl) ?_
    refine (audit_Digest.calls 20 z32 1 (some ⟨gA, 0, none⟩) cA [(⟨1, 3, 1, bA, 0⟩ : S64)] D y16 HC_16.out HCA.out HDG.out).mono ?_
    rintro e y16_15 ⟨rfl, hb⟩
    refine ⟨_, rfl, ?_⟩
    have c10_16_15 : y16_15.cell? ⟨g1, 0, none⟩ = some (.string z32) := pw_cell_below hb c10_16
    have c11_16_15 : y16_15.cell? ⟨g1, 1, none⟩ = some (.int .i64 1) := pw_cell_below hb c11_16
    have c12_16_15 : y16_15.cell? ⟨g1, 2, none⟩ = some (.slice (some ⟨gA, 0, none⟩) 1 cA) := pw_cell_below hb c12_16
    have d0_16_15 : y16_15.cell? ⟨gA, 0, none⟩ = some (.int .i64 1) := pw_cell_below hb d0_16
    have d1_16_15 : y16_15.cell? ⟨gA, 1, none⟩ = some (.int .i64 3) := pw_cell_below hb d1_16
    have d2_16_15 : y16_15.cell? ⟨gA, 2, none⟩ = some (.int .i64 1) := pw_cell_below hb d2_16
    have d3_16_15 : y16_15.cell? ⟨gA, 3, none⟩ = some (.string bA) := pw_cell_below hb d3_16
    have d4_16_15 : y16_15.cell? ⟨gA, 4, none⟩ = some (.int .i64 0) := pw_cell_below hb d4_16
    have HC_16_15 : Aside0 (Kd.C k64 y16_15 (some ⟨gA, 0, none⟩) 1 [(⟨1, 3, 1, bA, 0⟩ : S64)]) := ⟨Kd.C_below HC_16.out hb⟩
    have HL_16_15 : Aside0 (Below w.heap.size w y16_15) := ⟨below_step HL_16.out hb⟩
    have HO_16_15 : Aside0 (y16_15.ownsRow 0 5 1 (.slice (some ⟨gM, 0, none⟩) 32 32) 32 (nums .u8 (List.replicate 32 0))) := ⟨pw_own_below HO_16.out hb⟩
    clear hb
    refine hK.out _ _ ⟨c10_16_15, c11_16_15, c12_16_15, d0_16_15, d1_16_15, d2_16_15, d3_16_15, d4_16_15⟩ (fun hHeld => ?_)
    clear hK K
    refine norm_ (a' := ?_) ?_ ?_
    rotate_left
    ·show Act.put _ (some 24) _ = _
     simp only [Act.put, List.setIfInBounds_toArray, List.set_cons_zero, List.set_cons_succ, i64_w, i32_w]
     rfl
    refine one_ (i := 22) (N := some 31) #[true, true, true, true, true, true, true, true, true, true, true, true, true, true, true, true, true, true, true, true, true, true, true, false, false, false, false] rfl rfl (by kernel_rfl) (by decide) (fun K hK => ?_)
    refine goes_ Try.func48 (by kernel_rfl) rfl #[.agg #[.int .i64 1, .int .i64 3, .int .i64 1, .string bA, .int .i64 0]] (by rfl) rfl rfl (by simp only [List.map_toArray, List.map_cons, List.map_nil]; rfl) ?_
    refine (strongroomref13_Bytes.calls 20 1 3 1 bA 0 bb y16_15 HBB.out).mono ?_
    rintro e y16_15_22 ⟨rfl, hb⟩
    refine ⟨_, rfl, ?_⟩
    have c10_16_15_22 : y16_15_22.cell? ⟨g1, 0, none⟩ = some (.string z32) := pw_cell_below hb c10_16_15
    have c11_16_15_22 : y16_15_22.cell? ⟨g1, 1, none⟩ = some (.int .i64 1) := pw_cell_below hb c11_16_15
    have c12_16_15_22 : y16_15_22.cell? ⟨g1, 2, none⟩ = some (.slice (some ⟨gA, 0, none⟩) 1 cA) := pw_cell_below hb c12_16_15
    have d0_16_15_22 : y16_15_22.cell? ⟨gA, 0, none⟩ = some (.int .i64 1) := pw_cell_below hb d0_16_15
    have d1_16_15_22 : y16_15_22.cell? ⟨gA, 1, none⟩ = some (.int .i64 3) := pw_cell_below hb d1_16_15
    have d2_16_15_22 : y16_15_22.cell? ⟨gA, 2, none⟩ = some (.int .i64 1) := pw_cell_below hb d2_16_15
    have d3_16_15_22 : y16_15_22.cell? ⟨gA, 3, none⟩ = some (.string bA) := pw_cell_below hb d3_16_15
    have d4_16_15_22 : y16_15_22.cell? ⟨gA, 4, none⟩ = some (.int .i64 0) := pw_cell_below hb d4_16_15
    have HC_16_15_22 : Aside0 (Kd.C k64 y16_15_22 (some ⟨gA, 0, none⟩) 1 [(⟨1, 3, 1, bA, 0⟩ : S64)]) := ⟨Kd.C_below HC_16_15.out hb⟩
    have HL_16_15_22 : Aside0 (Below w.heap.size w y16_15_22) := ⟨below_step HL_16_15.out hb⟩
    have HO_16_15_22 : Aside0 (y16_15_22.ownsRow 0 5 1 (.slice (some ⟨gM, 0, none⟩) 32 32) 32 (nums .u8 (List.replicate 32 0))) := ⟨pw_own_below HO_16_15.out hb⟩
    clear hb
    refine hK.out _ _ ⟨c10_16_15_22, c11_16_15_22, c12_16_15_22, d0_16_15_22, d1_16_15_22, d2_16_15_22, d3_16_15_22, d4_16_15_22⟩ (fun hHeld => ?_)
    clear hK K
    refine norm_ (a' := ?_) ?_ ?_
    rotate_left
    ·show Act.put _ (some 31) _ = _
     simp only [Act.put, List.setIfInBounds_toArray, List.set_cons_zero, List.set_cons_succ, i64_w, i32_w]
     rfl
    exact norm_ (by simp only [putAll, Act.put, List.setIfInBounds_toArray, List.set_cons_zero, List.set_cons_succ]) (hCont gM _ ⟨c10_16_15_22, c11_16_15_22, c12_16_15_22, d0_16_15_22, d1_16_15_22, d2_16_15_22, d3_16_15_22, d4_16_15_22, HL_16_15_22⟩)
 rintro gM w5 ⟨c10z, c11z, c12z, d0z, d1z, d2z, d3z, d4z, HLz⟩
 have hHeld := (⟨c10z, c11z, c12z, d0z, d1z, d2z, d3z, d4z⟩ : w5.cell? ⟨g1, 0, none⟩ = some (.string z32) ∧ w5.cell? ⟨g1, 1, none⟩ = some (.int .i64 1) ∧ w5.cell? ⟨g1, 2, none⟩ = some (.slice (some ⟨gA, 0, none⟩) 1 cA) ∧ w5.cell? ⟨gA, 0, none⟩ = some (.int .i64 1) ∧ w5.cell? ⟨gA, 1, none⟩ = some (.int .i64 3) ∧ w5.cell? ⟨gA, 2, none⟩ = some (.int .i64 1) ∧ w5.cell? ⟨gA, 3, none⟩ = some (.string bA) ∧ w5.cell? ⟨gA, 4, none⟩ = some (.int .i64 0))
 refine norm_ (a' := ?_) ?_ ?_
 rotate_left
 ·simp only [putAll, Act.put, List.setIfInBounds_toArray, List.set_cons_zero, List.set_cons_succ]
  rfl
 refine one_ (i := 23) (N := some 32) #[true, true, true, true, true, true, true, true, true, true, true, true, true, true, true, true, true, true, true, true, true, true, true, true, false, false, false] rfl rfl (by kernel_rfl) (by decide) (fun K hK => ?_)
 refine goes_ Try.func47 (by kernel_rfl) rfl #[.string z32, .string bb] (by rfl) rfl rfl (by simp only [List.map_toArray, List.map_cons, List.map_nil]; rfl) ?_
 refine (mac_Seal.calls z32 bb D _ HSL.out).mono ?_
 rintro e w6 ⟨rfl, hb⟩
 refine ⟨_, rfl, ?_⟩
 have c10y : w6.cell? ⟨g1, 0, none⟩ = some (.string z32) := pw_cell_below hb c10z
 have c11y : w6.cell? ⟨g1, 1, none⟩ = some (.int .i64 1) := pw_cell_below hb c11z
 have c12y : w6.cell? ⟨g1, 2, none⟩ = some (.slice (some ⟨gA, 0, none⟩) 1 cA) := pw_cell_below hb c12z
 have d0y : w6.cell? ⟨gA, 0, none⟩ = some (.int .i64 1) := pw_cell_below hb d0z
 have d1y : w6.cell? ⟨gA, 1, none⟩ = some (.int .i64 3) := pw_cell_below hb d1z
 have d2y : w6.cell? ⟨gA, 2, none⟩ = some (.int .i64 1) := pw_cell_below hb d2z
 have d3y : w6.cell? ⟨gA, 3, none⟩ = some (.string bA) := pw_cell_below hb d3z
 have d4y : w6.cell? ⟨gA, 4, none⟩ = some (.int .i64 0) := pw_cell_below hb d4z
 have HLy := Aside0.mk (below_step HLz.out hb)
 clear hb
 refine hK.out _ _ ⟨c10y, c11y, c12y, d0y, d1y, d2y, d3y, d4y⟩ (fun hHeld => ?_)
 clear hK K
 refine norm_ (a' := ?_) ?_ ?_
 rotate_left
 ·show Act.put _ (some 32) _ = _
  simp only [Act.put, List.setIfInBounds_toArray, List.set_cons_zero, List.set_cons_succ, i64_w, i32_w]
  rfl
 refine pure_ (i := 24) (N := some 33) (v := ?_) (a' := ?_) #[true, true, true, true, true, true, true, true, true, true, true, true, true, true, true, true, true, true, true, true, true, true, true, true, true, false, false] rfl rfl (by kernel_rfl) (fun _ _ _ h => h) (Or.inl ⟨by rfl, ?_⟩) ?_ ?_
 rotate_left
 ·intro w'
  go_simp
  with_reducible rfl
 rotate_left
 ·simp only [Act.put, List.setIfInBounds_toArray, List.set_cons_zero, List.set_cons_succ, i64_w, i32_w]
  rfl
 refine pure_ (i := 25) (N := some 34) (v := ?_) (a' := ?_) #[true, true, true, true, true, true, true, true, true, true, true, true, true, true, true, true, true, true, true, true, true, true, true, true, true, true, false] rfl rfl (by kernel_rfl) (fun _ _ _ h => h) (Or.inl ⟨by rfl, ?_⟩) ?_ ?_
 rotate_left
 ·intro w'
  go_simp
  with_reducible rfl
 rotate_left
 ·simp only [Act.put, List.setIfInBounds_toArray, List.set_cons_zero, List.set_cons_succ, i64_w, i32_w]
  rfl
 refine pure_ (i := 26) (N := some 0) (v := ?_) (a' := ?_) #[true, true, true, true, true, true, true, true, true, true, true, true, true, true, true, true, true, true, true, true, true, true, true, true, true, true, true] rfl rfl (by kernel_rfl) (fun _ _ _ h => h) (Or.inl ⟨by rfl, ?_⟩) ?_ ?_
 rotate_left
 ·intro w'
  go_simp
  with_reducible rfl
 rotate_left
 ·simp only [Act.put, List.setIfInBounds_toArray, List.set_cons_zero, List.set_cons_succ, i64_w, i32_w]
  rfl
 refine done_ (by kernel_rfl) ?_
 go_wp2
 go_ret
 exact ⟨rfl, HLy.out⟩
def strongroomlaw13_lives.f : Option Bool := some true
theorem strongroomlaw13_lives.calls (r : Bool) (w : World) (h : strongroomlaw13_lives.f = some r) : Calls Try.prog 34 #[] w fun e w' => e = .returned (.bool r) ∧ Below w.heap.size w w' := by
 obtain rfl := Option.some.inj h
 exact lives13_walk w
end Go.Proofs.Ytcdnmlfnfhoieaa.A

namespace Go.Proofs.Ytcdnmlfnfhoieaa.A
open Go.RowKit Go.Proofs.YtcdnmlfnfhoieaaW.PrintWords Go.Proofs.YtcdnmlfnfhoieaaW.PrintLast Go.Proofs.YtcdnmlfnfhoieaaW.PrintMore
attribute [local go_sem] max2_int min2_int max_two min_two max_three min_three max_four min_four
set_option linter.unusedVariables false
set_option linter.unusedSimpArgs false
/-! ### strongroomlaw13_AuditFollows: function 11 -/
def strongroomlaw13_AuditFollows.j0 : Nat → Bool → ByteArray → Int → List (S64) → ByteArray → Int → List (S64) → Option (Bool)
 | 0, _, _, _, _, _, _, _ => none
 | k + 1, x12, x514000, x514001, x514002, x515000, x515001, x515002 => if x12 = true then ((strongroomlaw13_lives.f).bind fun t517 => (some t517)) else ((strongroomlaw13_mine.f x514000 x514001 x514002).bind fun bt518 => ((strongroomlaw13_mine.f x515000 x515001 x515002).bind fun bt523 => ((audit_Follows.f k bt518.1 bt518.2.1 bt518.2.2 bt523.1 bt523.2.1 bt523.2.2).bind fun t528 => ((strongroomref13_Follows.f k x514000 x514001 x514002 x515000 x515001 x515002).bind fun t529 => (if (t528 == t529) = true then ((strongroomlaw13_mine.f x514000 x514001 x514002).bind fun bt530 => ((strongroomlaw13_mine.f x514000 x514001 x514002).bind fun bt535 => ((audit_Follows.f k bt530.1 bt530.2.1 bt530.2.2 bt535.1 bt535.2.1 bt535.2.2).bind fun t540 => ((strongroomref13_May.f k x514000 x514001 x514002).bind fun t541 => (if (t540 == t541) = true then ((strongroomlaw13_lives.f).bind fun t542 => (some t542)) else (none)))))) else (none))))))
def strongroomlaw13_AuditFollows.f (k : Nat) (a0_0 : ByteArray) (a0_1 : Int) (l0_2 : List (S64)) (a1_0 : ByteArray) (a1_1 : Int) (l1_2 : List (S64)) : Option (Bool) := (strongroomlaw13_small.f k a0_0 a0_1 l0_2).bind fun t515 => (if t515 = true then ((strongroomlaw13_small.f k a1_0 a1_1 l1_2).bind fun t516 => (strongroomlaw13_AuditFollows.j0 k (!t516) a0_0 a0_1 l0_2 a1_0 a1_1 l1_2)) else (strongroomlaw13_AuditFollows.j0 k true a0_0 a0_1 l0_2 a1_0 a1_1 l1_2))
theorem strongroomlaw13_AuditFollows.mono_l : ∀ k, (∀ y0 y1 y2 y3 y4 y5 y6, LeO (strongroomlaw13_AuditFollows.j0 k y0 y1 y2 y3 y4 y5 y6) (strongroomlaw13_AuditFollows.j0 (k + 1) y0 y1 y2 y3 y4 y5 y6))
 | 0 => fun _ _ _ _ _ _ _ r h => by simp [strongroomlaw13_AuditFollows.j0] at h
 | k + 1 => by
  have ih0 := strongroomlaw13_AuditFollows.mono_l k
  ·intro y0 y1 y2 y3 y4 y5 y6
   unfold strongroomlaw13_AuditFollows.j0
   repeat' first
   | (with_reducible exact ih0 _ _ _ _ _ _ _)
   | (with_reducible exact audit_Follows.mono _ _ _ _ _ _ _)
   | (with_reducible exact strongroomlaw13_small.mono _ _ _ _)
   | (with_reducible exact strongroomref13_Follows.mono _ _ _ _ _ _ _)
   | (with_reducible exact strongroomref13_May.mono _ _ _ _)
   | (with_reducible exact LeO.refl _)
   | (with_reducible exact LeO.none _)
   | (with_reducible refine LeO.ite ?_ ?_)
   | (with_reducible refine LeO.bind ?_ (fun _ => ?_))
   | exact ih0 _ _ _ _ _ _ _
   | exact audit_Follows.mono _ _ _ _ _ _ _
   | exact strongroomlaw13_small.mono _ _ _ _
   | exact strongroomref13_Follows.mono _ _ _ _ _ _ _
   | exact strongroomref13_May.mono _ _ _ _
   | exact LeO.none _
   | refine LeO.ite ?_ ?_
   | refine LeO.bind ?_ (fun _ => ?_)
theorem strongroomlaw13_AuditFollows.mono : ∀ a0 a1 a2 a3 a4 a5 k, LeO (strongroomlaw13_AuditFollows.f k a0 a1 a2 a3 a4 a5) (strongroomlaw13_AuditFollows.f (k + 1) a0 a1 a2 a3 a4 a5) := by
 intro a0 a1 a2 a3 a4 a5 k
 have ih0 := strongroomlaw13_AuditFollows.mono_l k
 unfold strongroomlaw13_AuditFollows.f
 repeat' first
   | (with_reducible exact ih0 _ _ _ _ _ _ _)
   | (with_reducible exact audit_Follows.mono _ _ _ _ _ _ _)
   | (with_reducible exact strongroomlaw13_small.mono _ _ _ _)
   | (with_reducible exact strongroomref13_Follows.mono _ _ _ _ _ _ _)
   | (with_reducible exact strongroomref13_May.mono _ _ _ _)
   | (with_reducible exact LeO.refl _)
   | (with_reducible exact LeO.none _)
   | (with_reducible refine LeO.ite ?_ ?_)
   | (with_reducible refine LeO.bind ?_ (fun _ => ?_))
   | exact ih0 _ _ _ _ _ _ _
   | exact audit_Follows.mono _ _ _ _ _ _ _
   | exact strongroomlaw13_small.mono _ _ _ _
   | exact strongroomref13_Follows.mono _ _ _ _ _ _ _
   | exact strongroomref13_May.mono _ _ _ _
   | exact LeO.none _
   | refine LeO.ite ?_ ?_
   | refine LeO.bind ?_ (fun _ => ?_)
def strongroomlaw13_AuditFollows.T3 : Bool × List (List Nat × List Nat) := (true, [([], []), ([0], [0]), ([], []), ([2, 1], [2]), ([1, 3, 3], [1, 3]), ([], []), ([], []), ([5, 6, 4], [5, 6]), ([4, 7], [4, 7]), ([8, 7], [8]), ([9], [9]), ([10, 9, 9], [9, 10]), ([9], [9]), ([12, 11, 9], [9, 12]), ([11, 13, 13, 9], [9, 11, 13]), ([9], [9]), ([15, 14, 9], [9, 15]), ([14, 16, 9], [9, 14, 16]), ([9, 17], [9, 17]), ([18, 16], [18]), ([19, 19], [19]), ([19, 20], [19, 20]), ([21, 20, 0, 1, 2, 3, 4, 5, 6, 7, 8, 9, 10, 11, 12, 13, 14, 15, 16, 17, 18, 19, 20, 21], [21])])
def strongroomlaw13_AuditFollows.B3 : List Nat := [0, 1, 0, 7, 15, 0, 0, 127, 255, 511, 1023, 2047, 1023, 8191, 16383, 1023, 65535, 131071, 262143, 524287, 1048575, 2097151, 4194303]
theorem strongroomlaw13_AuditFollows.tab3 : rtab .any (opsOf Try.f11 3) = strongroomlaw13_AuditFollows.T3 := by kernel_rfl
theorem strongroomlaw13_AuditFollows.bits3 : waitsOk strongroomlaw13_AuditFollows.T3.2 strongroomlaw13_AuditFollows.B3 = true := by kernel_rfl
set_option maxHeartbeats 8000000 in
set_option maxRecDepth 100000 in
theorem strongroomlaw13_AuditFollows.calls (k : Nat) (a0_0 : ByteArray) (a0_1 : Int) (A0_2 : Option Addr) (c0_2 : Nat) (l0_2 : List (S64)) (a1_0 : ByteArray) (a1_1 : Int) (A1_2 : Option Addr) (c1_2 : Nat) (l1_2 : List (S64)) (r : Bool) (w : World) (hr0_2 : Kd.C k64 w A0_2 l0_2.length l0_2) (hc0_2 : l0_2.length ≤ c0_2) (hr1_2 : Kd.C k64 w A1_2 l1_2.length l1_2) (hc1_2 : l1_2.length ≤ c1_2) (h : strongroomlaw13_AuditFollows.f k a0_0 a0_1 l0_2 a1_0 a1_1 l1_2 = some r) :
  Calls Try.prog 11 #[.agg #[.string a0_0, .int .i64 a0_1, .slice A0_2 l0_2.length c0_2], .agg #[.string a1_0, .int .i64 a1_1, .slice A1_2 l1_2.length c1_2]] w fun e w' => e = .returned (.bool r) ∧ Below w.heap.size w w' := by
 have hu54 := Try.underlying54
 have HR0_2 := Aside0.mk hr0_2
 have HC0_2 := Aside0.mk hc0_2
 clear hr0_2 hc0_2
 have HR1_2 := Aside0.mk hr1_2
 have HC1_2 := Aside0.mk hc1_2
 clear hr1_2 hc1_2
 have HB := Aside0.mk (Below.refl w.heap.size w)
 have H : ((strongroomlaw13_small.f k a0_0 a0_1 l0_2).bind fun t515 => (if t515 = true then ((strongroomlaw13_small.f k a1_0 a1_1 l1_2).bind fun t516 => (strongroomlaw13_AuditFollows.j0 k (!t516) a0_0 a0_1 l0_2 a1_0 a1_1 l1_2)) else (strongroomlaw13_AuditFollows.j0 k true a0_0 a0_1 l0_2 a1_0 a1_1 l1_2))) = some r := h
 clear h
 have HC3 := Aside0.mk H
 clear H
 go_enter Try.func11, Try.ntmps11
 go_upto_region 1 with (first | ((with_reducible refine gate_dst (N := 2) rfl ?_); refine box_event ?hg (N := 2) ?hd (cs := #[.string a0_0, .int .i64 a0_1, .slice A0_2 l0_2.length c0_2]) (t := 54) ?hr ?_; (case hd => rfl); (case hg => rfl); (case hr => first | (go_simp; done) | (go_simp; rfl)); intro gb513 hg w4 hbox hb; have n0_ := Aside0.mk (below_step (by repeat (first | (with_reducible first | exact HB.out | apply below_alloc | apply pw_below_drewN | apply below_drew1) | exact HB.out)) hb); have n1_ := Aside0.mk (hbox); have n2_ := Aside0.mk ((by rw [hg]; exact (below_size (by repeat (first | (with_reducible first | exact HB.out | apply below_alloc | apply pw_below_drewN | apply below_drew1) | exact HB.out))) : w.heap.size ≤ gb513)); have n3_ := Aside0.mk ((by rw [hg]; exact (below_size (by repeat (first | (with_reducible first | exact HB.out | apply below_alloc | apply pw_below_drewN | apply below_drew1) | exact HB.out))) : w.heap.size ≤ gb513)); clear HB; have HB := n0_; have BK513 := n1_; have GW513 := n2_; have GE513 := n3_; clear n0_ n1_ n2_ n3_; clear hb hbox hg) | ((with_reducible refine gate_dst (N := 3) rfl ?_); refine box_event ?hg (N := 3) ?hd (cs := #[.string a1_0, .int .i64 a1_1, .slice A1_2 l1_2.length c1_2]) (t := 54) ?hr ?_; (case hd => rfl); (case hg => rfl); (case hr => first | (go_simp; done) | (go_simp; rfl)); intro gb514 hg w5 hbox hb; have n0_ := Aside0.mk (blk_below (g := gb513) (o := .cells #[.string a0_0, .int .i64 a0_1, .slice A0_2 l0_2.length c0_2] 54 (0, 0)) (by (with_reducible repeat (first | refine blk_drewN ?_ _ | refine blk_drew ?_ | refine blk_alloc ?_ _)); exact BK513.out) hb); have n1_ := Aside0.mk (below_step (by repeat (first | (with_reducible first | exact HB.out | apply below_alloc | apply pw_below_drewN | apply below_drew1 | refine below_set ?_ GE513.out) | exact HB.out)) hb); have n2_ := Aside0.mk (hbox); have n3_ := Aside0.mk ((by rw [hg]; exact (below_size (by repeat (first | (with_reducible first | exact HB.out | apply below_alloc | apply pw_below_drewN | apply below_drew1 | refine below_set ?_ GE513.out) | exact HB.out))) : w.heap.size ≤ gb514)); have n4_ := Aside0.mk ((by rw [hg]; exact (below_size (by repeat (first | (with_reducible first | exact HB.out | apply below_alloc | apply pw_below_drewN | apply below_drew1 | refine below_set ?_ GE513.out) | exact HB.out))) : w.heap.size ≤ gb514)); have n5_ := Aside0.mk ((by rw [hg]; exact Nat.ne_of_lt (blk_lt (g := gb513) (o := .cells #[.string a0_0, .int .i64 a0_1, .slice A0_2 l0_2.length c0_2] 54 (0, 0)) (by (with_reducible repeat (first | refine blk_drewN ?_ _ | refine blk_drew ?_ | refine blk_alloc ?_ _)); exact BK513.out)) : gb513 ≠ gb514)); have n6_ := Aside0.mk ((by rw [hg]; exact Nat.ne_of_gt (blk_lt (g := gb513) (o := .cells #[.string a0_0, .int .i64 a0_1, .slice A0_2 l0_2.length c0_2] 54 (0, 0)) (by (with_reducible repeat (first | refine blk_drewN ?_ _ | refine blk_drew ?_ | refine blk_alloc ?_ _)); exact BK513.out)) : gb514 ≠ gb513)); clear BK513; clear HB; have BK513 := n0_; have HB := n1_; have BK514 := n2_; have GW514 := n3_; have GE514 := n4_; have NB513_514 := n5_; have NB514_513 := n6_; clear n0_ n1_ n2_ n3_ n4_ n5_ n6_; clear hb hbox hg))
 (try simp only [Act.put, List.setIfInBounds_toArray, List.set_cons_zero, List.set_cons_succ])
 go_cut [12] (fun v12 wc => ∃ (kq : Nat) (x12_2 : Bool), v12 = .bool x12_2 ∧ Aside0 (strongroomlaw13_AuditFollows.j0 kq x12_2 a0_0 a0_1 l0_2 a1_0 a1_1 l1_2 = some r) ∧ Aside0 (kq ≤ k) ∧ Aside0 (wc.heap[gb513]? = some (.cells #[.string a0_0, .int .i64 a0_1, (.slice A0_2 l0_2.length c0_2)] 54 (0, 0))) ∧ Aside0 (wc.heap[gb514]? = some (.cells #[.string a1_0, .int .i64 a1_1, (.slice A1_2 l1_2.length c1_2)] 54 (0, 0))) ∧ Aside0 (Below w.heap.size w wc))
 case first =>
  have H := HC3.out
  clear HC3
  replace H := Option.bind_eq_some_iff.mp H
  obtain ⟨t515, A60, H⟩ := H
  replace H : (if t515 = true then ((strongroomlaw13_small.f k a1_0 a1_1 l1_2).bind fun t516 => (strongroomlaw13_AuditFollows.j0 k (!t516) a0_0 a0_1 l0_2 a1_0 a1_1 l1_2)) else (strongroomlaw13_AuditFollows.j0 k true a0_0 a0_1 l0_2 a1_0 a1_1 l1_2)) = some r := H
  have A6 := Aside0.mk A60
  clear A60
  by_cases c7 : t515 = true
  ·subst c7
   have H1 : ((strongroomlaw13_small.f k a1_0 a1_1 l1_2).bind fun t516 => (strongroomlaw13_AuditFollows.j0 k (!t516) a0_0 a0_1 l0_2 a1_0 a1_1 l1_2)) = some r := by rw [if_pos rfl] at H; exact H
   clear H
   have H := H1
   clear H1
   replace H := Option.bind_eq_some_iff.mp H
   obtain ⟨t516, A80, H⟩ := H
   replace H : (strongroomlaw13_AuditFollows.j0 k (!t516) a0_0 a0_1 l0_2 a1_0 a1_1 l1_2) = some r := H
   have A8 := Aside0.mk A80
   clear A80
   have H' := Aside0.mk H
   clear H
   have hnb9 := NB513_514.out
   have hnc9 := NB514_513.out
   have hcz10_0 : w5.cell? ⟨gb513, 0, none⟩ = some (.string a0_0) := (blk_cell BK513.out 0).trans rfl
   have hcz10_1 : w5.cell? ⟨gb513, 1, none⟩ = some (.int .i64 a0_1) := (blk_cell BK513.out 1).trans rfl
   have hcz10_2 : w5.cell? ⟨gb513, 2, none⟩ = some (.slice A0_2 l0_2.length c0_2) := (blk_cell BK513.out 2).trans rfl
   have hfz10_0 := blk_frozen BK513.out 0
   have hfz10_1 := blk_frozen BK513.out 1
   have hfz10_2 := blk_frozen BK513.out 2
   go_wp2_with (first | ((with_reducible refine gate_callee (f := 33) rfl ?_); refine goesL_ (some 6) rfl rfl Try.func33 (by kernel_rfl) rfl #[.agg #[.string a0_0, .int .i64 a0_1, .slice A0_2 l0_2.length c0_2]] rfl (by (try simp only [List.map_toArray, List.map_cons, List.map_nil]); first | done | rfl | (simp only [List.length_drop, List.length_take]; rfl)) ?_; (with_reducible refine (strongroomlaw13_small.calls k a0_0 a0_1 _ _ l0_2 true _ ?side1 ?side2 A6.out).mono ?_); (case side1 => repeat (first | exact (Kd.C_below HR0_2.out HB.out) | (with_reducible refine Kd.C_alloc ?_ _) | (with_reducible refine Kd.C_drewN ?_ _) | (with_reducible refine Kd.C_drew ?_))); (case side2 => exact HC0_2.out); rintro e w11 ⟨rfl, hb⟩; refine ⟨_, rfl, ?_⟩; have n0_ := Aside0.mk (blk_below (g := gb513) (o := .cells #[.string a0_0, .int .i64 a0_1, .slice A0_2 l0_2.length c0_2] 54 (0, 0)) (by (with_reducible repeat (first | refine blk_drewN ?_ _ | refine blk_drew ?_ | refine blk_alloc ?_ _)); exact BK513.out) hb); have n1_ := Aside0.mk (blk_below (g := gb514) (o := .cells #[.string a1_0, .int .i64 a1_1, .slice A1_2 l1_2.length c1_2] 54 (0, 0)) (by (with_reducible repeat (first | refine blk_drewN ?_ _ | refine blk_drew ?_ | refine blk_alloc ?_ _)); exact BK514.out) hb); have n2_ := Aside0.mk (below_step (by repeat (first | (with_reducible first | exact HB.out | apply below_alloc | apply pw_below_drewN | apply below_drew1 | refine below_set ?_ GE513.out | refine below_set ?_ GE514.out) | exact HB.out)) hb); clear BK513; clear BK514; clear HB; have BK513 := n0_; have BK514 := n1_; have HB := n2_; clear n0_ n1_ n2_; (try clear hb); (try clear hb2); (try clear hk); (try clear hi); have hcz12_0 : w11.cell? ⟨gb514, 0, none⟩ = some (.string a1_0) := (blk_cell BK514.out 0).trans rfl; have hcz12_1 : w11.cell? ⟨gb514, 1, none⟩ = some (.int .i64 a1_1) := (blk_cell BK514.out 1).trans rfl; have hcz12_2 : w11.cell? ⟨gb514, 2, none⟩ = some (.slice A1_2 l1_2.length c1_2) := (blk_cell BK514.out 2).trans rfl; have hfz12_0 := blk_frozen BK514.out 0; have hfz12_1 := blk_frozen BK514.out 1; have hfz12_2 := blk_frozen BK514.out 2) | (go_at_call 33; (with_reducible refine (strongroomlaw13_small.calls k a1_0 a1_1 _ _ l1_2 t516 _ ?side1 ?side2 A8.out).mono ?_); (case side1 => repeat (first | exact (Kd.C_below HR1_2.out HB.out) | (with_reducible refine Kd.C_alloc ?_ _) | (with_reducible refine Kd.C_drewN ?_ _) | (with_reducible refine Kd.C_drew ?_))); (case side2 => exact HC1_2.out); rintro e w13 ⟨rfl, hb⟩; have n0_ := Aside0.mk (blk_below (g := gb513) (o := .cells #[.string a0_0, .int .i64 a0_1, .slice A0_2 l0_2.length c0_2] 54 (0, 0)) (by (with_reducible repeat (first | refine blk_drewN ?_ _ | refine blk_drew ?_ | refine blk_alloc ?_ _)); exact BK513.out) hb); have n1_ := Aside0.mk (blk_below (g := gb514) (o := .cells #[.string a1_0, .int .i64 a1_1, .slice A1_2 l1_2.length c1_2] 54 (0, 0)) (by (with_reducible repeat (first | refine blk_drewN ?_ _ | refine blk_drew ?_ | refine blk_alloc ?_ _)); exact BK514.out) hb); have n2_ := Aside0.mk (below_step (by repeat (first | (with_reducible first | exact HB.out | apply below_alloc | apply pw_below_drewN | apply below_drew1 | refine below_set ?_ GE513.out | refine below_set ?_ GE514.out) | exact HB.out)) hb); clear BK513; clear BK514; clear HB; have BK513 := n0_; have BK514 := n1_; have HB := n2_; clear n0_ n1_ n2_; (try clear hb); (try clear hb2); (try clear hk); (try clear hi)))
   go_meet
   case rel => exact ⟨_, (!t516), (by first | rfl | (simp; done) | (simp [*]; done)), H', ⟨by first | omega | exact Nat.le_refl _⟩, ⟨by (with_reducible repeat (first | refine blk_drewN ?_ _ | refine blk_drew ?_ | refine blk_alloc ?_ _)); exact BK513.out⟩, ⟨by (with_reducible repeat (first | refine blk_drewN ?_ _ | refine blk_drew ?_ | refine blk_alloc ?_ _)); exact BK514.out⟩, ⟨by repeat (first | (with_reducible first | exact HB.out | apply below_alloc | apply pw_below_drewN | apply below_drew1 | refine below_set ?_ GE513.out | refine below_set ?_ GE514.out) | exact HB.out)⟩⟩
  ·replace c7 := Bool.eq_false_iff.mpr c7
   subst c7
   have H1 : (strongroomlaw13_AuditFollows.j0 k true a0_0 a0_1 l0_2 a1_0 a1_1 l1_2) = some r := by rw [if_neg (show ¬ (false = true) by decide)] at H; exact H
   clear H
   have H := H1
   clear H1
   have H' := Aside0.mk H
   clear H
   have hnb14 := NB513_514.out
   have hnc14 := NB514_513.out
   have hcz15_0 : w5.cell? ⟨gb513, 0, none⟩ = some (.string a0_0) := (blk_cell BK513.out 0).trans rfl
   have hcz15_1 : w5.cell? ⟨gb513, 1, none⟩ = some (.int .i64 a0_1) := (blk_cell BK513.out 1).trans rfl
   have hcz15_2 : w5.cell? ⟨gb513, 2, none⟩ = some (.slice A0_2 l0_2.length c0_2) := (blk_cell BK513.out 2).trans rfl
   have hfz15_0 := blk_frozen BK513.out 0
   have hfz15_1 := blk_frozen BK513.out 1
   have hfz15_2 := blk_frozen BK513.out 2
   go_wp2_with (first | ((with_reducible refine gate_callee (f := 33) rfl ?_); refine goesL_ (some 6) rfl rfl Try.func33 (by kernel_rfl) rfl #[.agg #[.string a0_0, .int .i64 a0_1, .slice A0_2 l0_2.length c0_2]] rfl (by (try simp only [List.map_toArray, List.map_cons, List.map_nil]); first | done | rfl | (simp only [List.length_drop, List.length_take]; rfl)) ?_; (with_reducible refine (strongroomlaw13_small.calls k a0_0 a0_1 _ _ l0_2 false _ ?side1 ?side2 A6.out).mono ?_); (case side1 => repeat (first | exact (Kd.C_below HR0_2.out HB.out) | (with_reducible refine Kd.C_alloc ?_ _) | (with_reducible refine Kd.C_drewN ?_ _) | (with_reducible refine Kd.C_drew ?_))); (case side2 => exact HC0_2.out); rintro e w16 ⟨rfl, hb⟩; refine ⟨_, rfl, ?_⟩; have n0_ := Aside0.mk (blk_below (g := gb513) (o := .cells #[.string a0_0, .int .i64 a0_1, .slice A0_2 l0_2.length c0_2] 54 (0, 0)) (by (with_reducible repeat (first | refine blk_drewN ?_ _ | refine blk_drew ?_ | refine blk_alloc ?_ _)); exact BK513.out) hb); have n1_ := Aside0.mk (blk_below (g := gb514) (o := .cells #[.string a1_0, .int .i64 a1_1, .slice A1_2 l1_2.length c1_2] 54 (0, 0)) (by (with_reducible repeat (first | refine blk_drewN ?_ _ | refine blk_drew ?_ | refine blk_alloc ?_ _)); exact BK514.out) hb); have n2_ := Aside0.mk (below_step (by repeat (first | (with_reducible first | exact HB.out | apply below_alloc | apply pw_below_drewN | apply below_drew1 | refine below_set ?_ GE513.out | refine below_set ?_ GE514.out) | exact HB.out)) hb); clear BK513; clear BK514; clear HB; have BK513 := n0_; have BK514 := n1_; have HB := n2_; clear n0_ n1_ n2_; (try clear hb); (try clear hb2); (try clear hk); (try clear hi)))
   go_meet
   case rel => exact ⟨_, (true), (by first | rfl | (simp; done) | (simp [*]; done)), H', ⟨by first | omega | exact Nat.le_refl _⟩, ⟨by (with_reducible repeat (first | refine blk_drewN ?_ _ | refine blk_drew ?_ | refine blk_alloc ?_ _)); exact BK513.out⟩, ⟨by (with_reducible repeat (first | refine blk_drewN ?_ _ | refine blk_drew ?_ | refine blk_alloc ?_ _)); exact BK514.out⟩, ⟨by repeat (first | (with_reducible first | exact HB.out | apply below_alloc | apply pw_below_drewN | apply below_drew1 | refine below_set ?_ GE513.out | refine below_set ?_ GE514.out) | exact HB.out)⟩⟩
 case rest =>
  clear HC3
  try clear c1
  try clear p2
  try clear c3
  try clear c7
  try clear c9
  try clear c11
  try clear c14
  try clear hcz10_0
  try clear hcz10_1
  try clear hcz10_2
  try clear hcz12_0
  try clear hcz12_1
  try clear hcz12_2
  try clear hcz15_0
  try clear hcz15_1
  try clear hcz15_2
  try clear hfz10_0
  try clear hfz10_1
  try clear hfz10_2
  try clear hfz12_0
  try clear hfz12_1
  try clear hfz12_2
  try clear hfz15_0
  try clear hfz15_1
  try clear hfz15_2
  obtain ⟨kq, x12_2, rfl, HA, HJ2, BK513, BK514, HB⟩ := hcut
  cases kq with
  | zero => exact absurd HA.out (by simp [strongroomlaw13_AuditFollows.j0])
  | succ kj2 =>
   have H := HA.out
   clear HA
   simp only [strongroomlaw13_AuditFollows.j0] at H
   by_cases c17 : x12_2 = true
   ·subst c17
    have H1 : ((strongroomlaw13_lives.f).bind fun t517 => (some t517)) = some r := by rw [if_pos rfl] at H; exact H
    clear H
    have H := H1
    clear H1
    replace H := Option.bind_eq_some_iff.mp H
    obtain ⟨t517, A180, H⟩ := H
    replace H : (some t517) = some r := H
    have A18 := Aside0.mk A180
    clear A180
    obtain rfl := Option.some.inj H
    go_wp2_with (first | ((with_reducible refine gate_callee (f := 34) rfl ?_); refine goesL_ (some 13) rfl rfl Try.func34 (by kernel_rfl) rfl #[] rfl (by (try simp only [List.map_toArray, List.map_cons, List.map_nil]); first | done | rfl | (simp only [List.length_drop, List.length_take]; rfl)) ?_; (with_reducible refine (strongroomlaw13_lives.calls  t517 _ A18.out).mono ?_); rintro e w19 ⟨rfl, hb⟩; refine ⟨_, rfl, ?_⟩; have n0_ := Aside0.mk (blk_below (g := gb513) (o := .cells #[.string a0_0, .int .i64 a0_1, .slice A0_2 l0_2.length c0_2] 54 (0, 0)) (by (with_reducible repeat (first | refine blk_drewN ?_ _ | refine blk_drew ?_ | refine blk_alloc ?_ _)); exact BK513.out) hb); have n1_ := Aside0.mk (blk_below (g := gb514) (o := .cells #[.string a1_0, .int .i64 a1_1, .slice A1_2 l1_2.length c1_2] 54 (0, 0)) (by (with_reducible repeat (first | refine blk_drewN ?_ _ | refine blk_drew ?_ | refine blk_alloc ?_ _)); exact BK514.out) hb); have n2_ := Aside0.mk (below_step (by repeat (first | (with_reducible first | exact HB.out | apply below_alloc | apply pw_below_drewN | apply below_drew1 | refine below_set ?_ GE513.out | refine below_set ?_ GE514.out) | exact HB.out)) hb); clear BK513; clear BK514; clear HB; have BK513 := n0_; have BK514 := n1_; have HB := n2_; clear n0_ n1_ n2_; (try clear hb); (try clear hb2); (try clear hk); (try clear hi)))
    go_ret
    exact ⟨by first | rfl | (simp [errW_none, errW_some] <;> rfl) | (simp [*, errW_none, errW_some] <;> rfl), by repeat (first | (with_reducible first | exact HB.out | apply below_alloc | apply pw_below_drewN | apply below_drew1 | refine below_set ?_ GE513.out | refine below_set ?_ GE514.out) | exact HB.out)⟩
   ·replace c17 := Bool.eq_false_iff.mpr c17
    subst c17
    have H1 : ((strongroomlaw13_mine.f a0_0 a0_1 l0_2).bind fun bt518 => ((strongroomlaw13_mine.f a1_0 a1_1 l1_2).bind fun bt523 => ((audit_Follows.f kj2 bt518.1 bt518.2.1 bt518.2.2 bt523.1 bt523.2.1 bt523.2.2).bind fun t528 => ((strongroomref13_Follows.f kj2 a0_0 a0_1 l0_2 a1_0 a1_1 l1_2).bind fun t529 => (if (t528 == t529) = true then ((strongroomlaw13_mine.f a0_0 a0_1 l0_2).bind fun bt530 => ((strongroomlaw13_mine.f a0_0 a0_1 l0_2).bind fun bt535 => ((audit_Follows.f kj2 bt530.1 bt530.2.1 bt530.2.2 bt535.1 bt535.2.1 bt535.2.2).bind fun t540 => ((strongroomref13_May.f kj2 a0_0 a0_1 l0_2).bind fun t541 => (if (t540 == t541) = true then ((strongroomlaw13_lives.f).bind fun t542 => (some t542)) else (none)))))) else (none)))))) = some r := by rw [if_neg (show ¬ (false = true) by decide)] at H; exact H
    clear H
    have H := H1
    clear H1
    replace H := Option.bind_eq_some_iff.mp H
    obtain ⟨⟨t518, t519, t520⟩, A200, H⟩ := H
    replace H : ((strongroomlaw13_mine.f a1_0 a1_1 l1_2).bind fun bt523 => ((audit_Follows.f kj2 t518 t519 t520 bt523.1 bt523.2.1 bt523.2.2).bind fun t528 => ((strongroomref13_Follows.f kj2 a0_0 a0_1 l0_2 a1_0 a1_1 l1_2).bind fun t529 => (if (t528 == t529) = true then ((strongroomlaw13_mine.f a0_0 a0_1 l0_2).bind fun bt530 => ((strongroomlaw13_mine.f a0_0 a0_1 l0_2).bind fun bt535 => ((audit_Follows.f kj2 bt530.1 bt530.2.1 bt530.2.2 bt535.1 bt535.2.1 bt535.2.2).bind fun t540 => ((strongroomref13_May.f kj2 a0_0 a0_1 l0_2).bind fun t541 => (if (t540 == t541) = true then ((strongroomlaw13_lives.f).bind fun t542 => (some t542)) else (none)))))) else (none))))) = some r := H
    have A20 := Aside0.mk A200
    clear A200
    replace H := Option.bind_eq_some_iff.mp H
    obtain ⟨⟨t523, t524, t525⟩, A210, H⟩ := H
    replace H : ((audit_Follows.f kj2 t518 t519 t520 t523 t524 t525).bind fun t528 => ((strongroomref13_Follows.f kj2 a0_0 a0_1 l0_2 a1_0 a1_1 l1_2).bind fun t529 => (if (t528 == t529) = true then ((strongroomlaw13_mine.f a0_0 a0_1 l0_2).bind fun bt530 => ((strongroomlaw13_mine.f a0_0 a0_1 l0_2).bind fun bt535 => ((audit_Follows.f kj2 bt530.1 bt530.2.1 bt530.2.2 bt535.1 bt535.2.1 bt535.2.2).bind fun t540 => ((strongroomref13_May.f kj2 a0_0 a0_1 l0_2).bind fun t541 => (if (t540 == t541) = true then ((strongroomlaw13_lives.f).bind fun t542 => (some t542)) else (none)))))) else (none)))) = some r := H
    have A21 := Aside0.mk A210
    clear A210
    replace H := Option.bind_eq_some_iff.mp H
    obtain ⟨t528, A220, H⟩ := H
    replace H : ((strongroomref13_Follows.f kj2 a0_0 a0_1 l0_2 a1_0 a1_1 l1_2).bind fun t529 => (if (t528 == t529) = true then ((strongroomlaw13_mine.f a0_0 a0_1 l0_2).bind fun bt530 => ((strongroomlaw13_mine.f a0_0 a0_1 l0_2).bind fun bt535 => ((audit_Follows.f kj2 bt530.1 bt530.2.1 bt530.2.2 bt535.1 bt535.2.1 bt535.2.2).bind fun t540 => ((strongroomref13_May.f kj2 a0_0 a0_1 l0_2).bind fun t541 => (if (t540 == t541) = true then ((strongroomlaw13_lives.f).bind fun t542 => (some t542)) else (none)))))) else (none))) = some r := H
    have A22 := Aside0.mk A220
    clear A220
    replace H := Option.bind_eq_some_iff.mp H
    obtain ⟨t529, A230, H⟩ := H
    replace H : (if (t528 == t529) = true then ((strongroomlaw13_mine.f a0_0 a0_1 l0_2).bind fun bt530 => ((strongroomlaw13_mine.f a0_0 a0_1 l0_2).bind fun bt535 => ((audit_Follows.f kj2 bt530.1 bt530.2.1 bt530.2.2 bt535.1 bt535.2.1 bt535.2.2).bind fun t540 => ((strongroomref13_May.f kj2 a0_0 a0_1 l0_2).bind fun t541 => (if (t540 == t541) = true then ((strongroomlaw13_lives.f).bind fun t542 => (some t542)) else (none)))))) else (none)) = some r := H
    have A23 := Aside0.mk A230
    clear A230
    by_cases c24 : (t528 == t529) = true
    ·rw [if_pos c24] at H
     have c24b0 : (t528 == t529) = true := c24
     (try (have c24b1 : decide (t528 = t529) = true := by simpa using c24))
     (try (have c24b2 : (t528 == t529) = true := by simpa using c24))
     clear c24
     replace H := Option.bind_eq_some_iff.mp H
     obtain ⟨⟨t530, t531, t532⟩, A250, H⟩ := H
     replace H : ((strongroomlaw13_mine.f a0_0 a0_1 l0_2).bind fun bt535 => ((audit_Follows.f kj2 t530 t531 t532 bt535.1 bt535.2.1 bt535.2.2).bind fun t540 => ((strongroomref13_May.f kj2 a0_0 a0_1 l0_2).bind fun t541 => (if (t540 == t541) = true then ((strongroomlaw13_lives.f).bind fun t542 => (some t542)) else (none))))) = some r := H
     have A25 := Aside0.mk A250
     clear A250
     replace H := Option.bind_eq_some_iff.mp H
     obtain ⟨⟨t535, t536, t537⟩, A260, H⟩ := H
     replace H : ((audit_Follows.f kj2 t530 t531 t532 t535 t536 t537).bind fun t540 => ((strongroomref13_May.f kj2 a0_0 a0_1 l0_2).bind fun t541 => (if (t540 == t541) = true then ((strongroomlaw13_lives.f).bind fun t542 => (some t542)) else (none)))) = some r := H
     have A26 := Aside0.mk A260
     clear A260
     replace H := Option.bind_eq_some_iff.mp H
     obtain ⟨t540, A270, H⟩ := H
     replace H : ((strongroomref13_May.f kj2 a0_0 a0_1 l0_2).bind fun t541 => (if (t540 == t541) = true then ((strongroomlaw13_lives.f).bind fun t542 => (some t542)) else (none))) = some r := H
     have A27 := Aside0.mk A270
     clear A270
     replace H := Option.bind_eq_some_iff.mp H
     obtain ⟨t541, A280, H⟩ := H
     replace H : (if (t540 == t541) = true then ((strongroomlaw13_lives.f).bind fun t542 => (some t542)) else (none)) = some r := H
     have A28 := Aside0.mk A280
     clear A280
     by_cases c29 : (t540 == t541) = true
     ·rw [if_pos c29] at H
      have c29b0 : (t540 == t541) = true := c29
      (try (have c29b1 : decide (t540 = t541) = true := by simpa using c29))
      (try (have c29b2 : (t540 == t541) = true := by simpa using c29))
      clear c29
      replace H := Option.bind_eq_some_iff.mp H
      obtain ⟨t542, A300, H⟩ := H
      replace H : (some t542) = some r := H
      have A30 := Aside0.mk A300
      clear A300
      obtain rfl := Option.some.inj H
      try go_wp2
      have n0_ := Aside0.mk (blk_drew BK513.out)
      have n1_ := Aside0.mk (blk_drew BK514.out)
      have n2_ := Aside0.mk (below_drew1 HB.out)
      clear BK513
      clear BK514
      clear HB
      have BK513 := n0_
      have BK514 := n1_
      have HB := n2_
      clear n0_ n1_ n2_
      refine start_ (n := 23) (S := fun w' => w'.cell? ⟨gb513, 0, none⟩ = some (.string a0_0) ∧ w'.cell? ⟨gb513, 1, none⟩ = some (.int .i64 a0_1) ∧ w'.cell? ⟨gb513, 2, none⟩ = some (.slice A0_2 l0_2.length c0_2) ∧ w'.cell? ⟨gb514, 0, none⟩ = some (.string a1_0) ∧ w'.cell? ⟨gb514, 1, none⟩ = some (.int .i64 a1_1) ∧ w'.cell? ⟨gb514, 2, none⟩ = some (.slice A1_2 l1_2.length c1_2)) (ds := []) #[false, false, false, false, false, false, false, false, false, false, false, false, false, false, false, false, false, false, false, false, false, false, false] (by kernel_rfl) rfl rfl ⟨(blk_cell BK513.out 0).trans rfl, (blk_cell BK513.out 1).trans rfl, (blk_cell BK513.out 2).trans rfl, (blk_cell BK514.out 0).trans rfl, (blk_cell BK514.out 1).trans rfl, (blk_cell BK514.out 2).trans rfl⟩ (fun hHeld => ?_); refine with_tabW strongroomlaw13_AuditFollows.tab3 strongroomlaw13_AuditFollows.bits3 (fun HT_ HW_ => ?_)
      generalize wc.drew = w31 at BK513 BK514 HB hHeld ⊢
      refine take_ (i := 0) (N := some 14) (v := ?_) (a' := ?_) #[true, false, false, false, false, false, false, false, false, false, false, false, false, false, false, false, false, false, false, false, false, false, false] rfl rfl (take_ofW HT_.out HW_.out (by kernel_rfl)) (fun _ _ _ h => h) (Or.inl ⟨by rfl, ?_⟩) hHeld ?_ ?_
      rotate_left
      ·rintro w' ⟨s0, s1, s2, s3, s4, s5⟩
       go_simp
       with_reducible rfl
      rotate_left
      ·simp only [Act.put, List.setIfInBounds_toArray, List.set_cons_zero, List.set_cons_succ, i64_w, i32_w]
       rfl
      refine take_ (i := 2) (N := some 16) (v := ?_) (a' := ?_) #[true, false, true, false, false, false, false, false, false, false, false, false, false, false, false, false, false, false, false, false, false, false, false] rfl rfl (take_ofW HT_.out HW_.out (by kernel_rfl)) (fun _ _ _ h => h) (Or.inl ⟨by rfl, ?_⟩) hHeld ?_ ?_
      rotate_left
      ·rintro w' ⟨s0, s1, s2, s3, s4, s5⟩
       go_simp
       with_reducible rfl
      rotate_left
      ·simp only [Act.put, List.setIfInBounds_toArray, List.set_cons_zero, List.set_cons_succ, i64_w, i32_w]
       rfl
      refine take_ (i := 5) (N := some 19) (v := ?_) (a' := ?_) #[true, false, true, false, false, true, false, false, false, false, false, false, false, false, false, false, false, false, false, false, false, false, false] rfl rfl (take_ofW HT_.out HW_.out (by kernel_rfl)) (fun _ _ _ h => h) (Or.inl ⟨by rfl, ?_⟩) hHeld ?_ ?_
      rotate_left
      ·rintro w' ⟨s0, s1, s2, s3, s4, s5⟩
       go_simp
       with_reducible rfl
      rotate_left
      ·simp only [Act.put, List.setIfInBounds_toArray, List.set_cons_zero, List.set_cons_succ, i64_w, i32_w]
       rfl
      refine take_ (i := 6) (N := some 20) (v := ?_) (a' := ?_) #[true, false, true, false, false, true, true, false, false, false, false, false, false, false, false, false, false, false, false, false, false, false, false] rfl rfl (take_ofW HT_.out HW_.out (by kernel_rfl)) (fun _ _ _ h => h) (Or.inl ⟨by rfl, ?_⟩) hHeld ?_ ?_
      rotate_left
      ·rintro w' ⟨s0, s1, s2, s3, s4, s5⟩
       go_simp
       with_reducible rfl
      rotate_left
      ·simp only [Act.put, List.setIfInBounds_toArray, List.set_cons_zero, List.set_cons_succ, i64_w, i32_w]
       rfl
      refine one_ (i := 1) (N := some 15) #[true, true, true, false, false, true, true, false, false, false, false, false, false, false, false, false, false, false, false, false, false, false, false] rfl rfl (one_of HT_.out (by kernel_rfl)) (by decide) (fun K hK => ?_)
      refine goes_ Try.func40 (by kernel_rfl) rfl #[.agg #[.string a0_0, .int .i64 a0_1, .slice A0_2 l0_2.length c0_2]] (by rfl) rfl rfl (by (try simp only [List.map_toArray, List.map_cons, List.map_nil]); first | done | rfl | (simp only [List.length_drop, List.length_take]; rfl)) ?_
      with_reducible refine (strongroomlaw13_mine.calls a0_0 a0_1 _ _ l0_2 t518 t519 t520 _ ?side1 ?side2 A20.out).mono ?_
      (case side1 => repeat (first | exact (Kd.C_below HR0_2.out HB.out) | (with_reducible refine Kd.C_alloc ?_ _) | (with_reducible refine Kd.C_drewN ?_ _) | (with_reducible refine Kd.C_drew ?_)))
      (case side2 => exact HC0_2.out)
      rintro e w32 ⟨v521, rfl, ho0, hb⟩
      refine ⟨_, rfl, ?_⟩
      have n0_ := Aside0.mk (Kd.R_lower ho0 (below_size (by repeat (first | (with_reducible first | exact HB.out | apply below_alloc | apply pw_below_drewN | apply below_drew1 | refine below_set ?_ GE513.out | refine below_set ?_ GE514.out) | exact HB.out))))
      have n1_ := Aside0.mk (blk_below (g := gb513) (o := .cells #[.string a0_0, .int .i64 a0_1, .slice A0_2 l0_2.length c0_2] 54 (0, 0)) (by (with_reducible repeat (first | refine blk_drewN ?_ _ | refine blk_drew ?_ | refine blk_alloc ?_ _)); exact BK513.out) hb)
      have n2_ := Aside0.mk (blk_below (g := gb514) (o := .cells #[.string a1_0, .int .i64 a1_1, .slice A1_2 l1_2.length c1_2] 54 (0, 0)) (by (with_reducible repeat (first | refine blk_drewN ?_ _ | refine blk_drew ?_ | refine blk_alloc ?_ _)); exact BK514.out) hb)
      have n3_ := Aside0.mk (below_step (by repeat (first | (with_reducible first | exact HB.out | apply below_alloc | apply pw_below_drewN | apply below_drew1 | refine below_set ?_ GE513.out | refine below_set ?_ GE514.out) | exact HB.out)) hb)
      clear BK513
      clear BK514
      clear HB
      have HO522 := n0_
      have BK513 := n1_
      have BK514 := n2_
      have HB := n3_
      clear n0_ n1_ n2_ n3_
      (try clear hb)
      (try clear hb2)
      (try clear hk)
      (try clear hi)
      (try clear ho0)
      refine hK.out _ _ ⟨(blk_cell BK513.out 0).trans rfl, (blk_cell BK513.out 1).trans rfl, (blk_cell BK513.out 2).trans rfl, (blk_cell BK514.out 0).trans rfl, (blk_cell BK514.out 1).trans rfl, (blk_cell BK514.out 2).trans rfl⟩ (fun hHeld => ?_)
      clear hK K
      refine norm_ (a' := ?_) ?_ ?_
      rotate_left
      ·show Act.put _ (some 15) _ = _
       simp only [Act.put, List.setIfInBounds_toArray, List.set_cons_zero, List.set_cons_succ, i64_w, i32_w]
       rfl
      refine one_ (i := 3) (N := some 17) #[true, true, true, true, false, true, true, false, false, false, false, false, false, false, false, false, false, false, false, false, false, false, false] rfl rfl (one_of HT_.out (by kernel_rfl)) (by decide) (fun K hK => ?_)
      refine goes_ Try.func40 (by kernel_rfl) rfl #[.agg #[.string a1_0, .int .i64 a1_1, .slice A1_2 l1_2.length c1_2]] (by rfl) rfl rfl (by (try simp only [List.map_toArray, List.map_cons, List.map_nil]); first | done | rfl | (simp only [List.length_drop, List.length_take]; rfl)) ?_
      with_reducible refine (strongroomlaw13_mine.calls a1_0 a1_1 _ _ l1_2 t523 t524 t525 _ ?side1 ?side2 A21.out).mono ?_
      (case side1 => repeat (first | exact (Kd.C_below HR1_2.out HB.out) | (with_reducible refine Kd.C_alloc ?_ _) | (with_reducible refine Kd.C_drewN ?_ _) | (with_reducible refine Kd.C_drew ?_)))
      (case side2 => exact HC1_2.out)
      rintro e w33 ⟨v526, rfl, ho0, hb⟩
      refine ⟨_, rfl, ?_⟩
      have n0_ := Aside0.mk (Kd.R_elder' (by (with_reducible repeat (first | apply Kd.R_alloc | apply Kd.R_drewN | apply Kd.R_drew)); exact HO522.out) (Kd.R_base ho0) hb)
      have n1_ := Aside0.mk (Kd.R_lower (Kd.R_new' ho0 (Kd.R_lt (by (with_reducible repeat (first | apply Kd.R_alloc | apply Kd.R_drewN | apply Kd.R_drew)); exact HO522.out))) (below_size (by repeat (first | (with_reducible first | exact HB.out | apply below_alloc | apply pw_below_drewN | apply below_drew1 | refine below_set ?_ GE513.out | refine below_set ?_ GE514.out) | exact HB.out))))
      have n2_ := Aside0.mk (blk_below (g := gb513) (o := .cells #[.string a0_0, .int .i64 a0_1, .slice A0_2 l0_2.length c0_2] 54 (0, 0)) (by (with_reducible repeat (first | refine blk_drewN ?_ _ | refine blk_drew ?_ | refine blk_alloc ?_ _)); exact BK513.out) hb)
      have n3_ := Aside0.mk (blk_below (g := gb514) (o := .cells #[.string a1_0, .int .i64 a1_1, .slice A1_2 l1_2.length c1_2] 54 (0, 0)) (by (with_reducible repeat (first | refine blk_drewN ?_ _ | refine blk_drew ?_ | refine blk_alloc ?_ _)); exact BK514.out) hb)
      have n4_ := Aside0.mk (below_step (by repeat (first | (with_reducible first | exact HB.out | apply below_alloc | apply pw_below_drewN | apply below_drew1 | refine below_set ?_ GE513.out | refine below_set ?_ GE514.out) | exact HB.out)) hb)
      clear HO522
      clear BK513
      clear BK514
      clear HB
      have HO522 := n0_
      have HO527 := n1_
      have BK513 := n2_
      have BK514 := n3_
      have HB := n4_
      clear n0_ n1_ n2_ n3_ n4_
      (try clear hb)
      (try clear hb2)
      (try clear hk)
      (try clear hi)
      (try clear ho0)
      obtain ⟨Ao34, co34, eo34⟩ := Kd.R_slice HO522.out
      (first | subst eo34 | (injection eo34 with f1_ f2_ f3_; have f4_ := f1_.symm; have f5_ := f3_.symm; clear f1_ f2_ f3_; subst f4_; subst f5_))
      obtain ⟨Ao35, co35, eo35⟩ := Kd.R_slice HO527.out
      (first | subst eo35 | (injection eo35 with f1_ f2_ f3_; have f4_ := f1_.symm; have f5_ := f3_.symm; clear f1_ f2_ f3_; subst f4_; subst f5_))
      refine hK.out _ _ ⟨(blk_cell BK513.out 0).trans rfl, (blk_cell BK513.out 1).trans rfl, (blk_cell BK513.out 2).trans rfl, (blk_cell BK514.out 0).trans rfl, (blk_cell BK514.out 1).trans rfl, (blk_cell BK514.out 2).trans rfl⟩ (fun hHeld => ?_)
      clear hK K
      refine norm_ (a' := ?_) ?_ ?_
      rotate_left
      ·show Act.put _ (some 17) _ = _
       simp only [Act.put, List.setIfInBounds_toArray, List.set_cons_zero, List.set_cons_succ, i64_w, i32_w]
       rfl
      refine one_ (i := 4) (N := some 18) #[true, true, true, true, true, true, true, false, false, false, false, false, false, false, false, false, false, false, false, false, false, false, false] rfl rfl (one_of HT_.out (by kernel_rfl)) (by decide) (fun K hK => ?_)
      refine goes_ Try.func49 (by kernel_rfl) rfl #[.agg #[.string t518, .int .i64 t519, .slice Ao34 t520.length co34], .agg #[.string t523, .int .i64 t524, .slice Ao35 t525.length co35]] (by rfl) rfl rfl (by (try simp only [List.map_toArray, List.map_cons, List.map_nil]); first | done | rfl | (simp only [List.length_drop, List.length_take]; rfl)) ?_
      with_reducible refine (audit_Follows.calls kj2 t518 t519 _ _ t520 t523 t524 _ _ t525 t528 _ ?side1 ?side2 ?side3 ?side4 A22.out).mono ?_
      (case side1 => repeat (first | exact (Kd.R_reads' HO522.out).2.2 | (with_reducible refine Kd.C_alloc ?_ _) | (with_reducible refine Kd.C_drewN ?_ _) | (with_reducible refine Kd.C_drew ?_)))
      (case side2 => exact (Kd.R_reads' HO522.out).2.1)
      (case side3 => repeat (first | exact (Kd.R_reads' HO527.out).2.2 | (with_reducible refine Kd.C_alloc ?_ _) | (with_reducible refine Kd.C_drewN ?_ _) | (with_reducible refine Kd.C_drew ?_)))
      (case side4 => exact (Kd.R_reads' HO527.out).2.1)
      rintro e w36 ⟨rfl, hb⟩
      refine ⟨_, rfl, ?_⟩
      have n0_ := Aside0.mk (Kd.R_below (by (with_reducible repeat (first | apply Kd.R_alloc | apply Kd.R_drewN | apply Kd.R_drew)); exact HO522.out) hb)
      have n1_ := Aside0.mk (Kd.R_below (by (with_reducible repeat (first | apply Kd.R_alloc | apply Kd.R_drewN | apply Kd.R_drew)); exact HO527.out) hb)
      have n2_ := Aside0.mk (blk_below (g := gb513) (o := .cells #[.string a0_0, .int .i64 a0_1, .slice A0_2 l0_2.length c0_2] 54 (0, 0)) (by (with_reducible repeat (first | refine blk_drewN ?_ _ | refine blk_drew ?_ | refine blk_alloc ?_ _)); exact BK513.out) hb)
      have n3_ := Aside0.mk (blk_below (g := gb514) (o := .cells #[.string a1_0, .int .i64 a1_1, .slice A1_2 l1_2.length c1_2] 54 (0, 0)) (by (with_reducible repeat (first | refine blk_drewN ?_ _ | refine blk_drew ?_ | refine blk_alloc ?_ _)); exact BK514.out) hb)
      have n4_ := Aside0.mk (below_step (by repeat (first | (with_reducible first | exact HB.out | apply below_alloc | apply pw_below_drewN | apply below_drew1 | refine below_set ?_ GE513.out | refine below_set ?_ GE514.out) | exact HB.out)) hb)
      clear HO522
      clear HO527
      clear BK513
      clear BK514
      clear HB
      have HO522 := n0_
      have HO527 := n1_
      have BK513 := n2_
      have BK514 := n3_
      have HB := n4_
      clear n0_ n1_ n2_ n3_ n4_
      (try clear hb)
      (try clear hb2)
      (try clear hk)
      (try clear hi)
      refine hK.out _ _ ⟨(blk_cell BK513.out 0).trans rfl, (blk_cell BK513.out 1).trans rfl, (blk_cell BK513.out 2).trans rfl, (blk_cell BK514.out 0).trans rfl, (blk_cell BK514.out 1).trans rfl, (blk_cell BK514.out 2).trans rfl⟩ (fun hHeld => ?_)
      clear hK K
      refine norm_ (a' := ?_) ?_ ?_
      rotate_left
      ·show Act.put _ (some 18) _ = _
       simp only [Act.put, List.setIfInBounds_toArray, List.set_cons_zero, List.set_cons_succ, i64_w, i32_w]
       rfl
      refine one_ (i := 7) (N := some 21) #[true, true, true, true, true, true, true, true, false, false, false, false, false, false, false, false, false, false, false, false, false, false, false] rfl rfl (one_of HT_.out (by kernel_rfl)) (by decide) (fun K hK => ?_)
      refine goes_ Try.func50 (by kernel_rfl) rfl #[.agg #[.string a0_0, .int .i64 a0_1, .slice A0_2 l0_2.length c0_2], .agg #[.string a1_0, .int .i64 a1_1, .slice A1_2 l1_2.length c1_2]] (by rfl) rfl rfl (by (try simp only [List.map_toArray, List.map_cons, List.map_nil]); first | done | rfl | (simp only [List.length_drop, List.length_take]; rfl)) ?_
      with_reducible refine (strongroomref13_Follows.calls kj2 a0_0 a0_1 _ _ l0_2 a1_0 a1_1 _ _ l1_2 t529 _ ?side1 ?side2 ?side3 ?side4 A23.out).mono ?_
      (case side1 => repeat (first | exact (Kd.C_below HR0_2.out HB.out) | (with_reducible refine Kd.C_alloc ?_ _) | (with_reducible refine Kd.C_drewN ?_ _) | (with_reducible refine Kd.C_drew ?_)))
      (case side2 => exact HC0_2.out)
      (case side3 => repeat (first | exact (Kd.C_below HR1_2.out HB.out) | (with_reducible refine Kd.C_alloc ?_ _) | (with_reducible refine Kd.C_drewN ?_ _) | (with_reducible refine Kd.C_drew ?_)))
      (case side4 => exact HC1_2.out)
      rintro e w37 ⟨rfl, hb⟩
      refine ⟨_, rfl, ?_⟩
      have n0_ := Aside0.mk (Kd.R_below (by (with_reducible repeat (first | apply Kd.R_alloc | apply Kd.R_drewN | apply Kd.R_drew)); exact HO522.out) hb)
      have n1_ := Aside0.mk (Kd.R_below (by (with_reducible repeat (first | apply Kd.R_alloc | apply Kd.R_drewN | apply Kd.R_drew)); exact HO527.out) hb)
      have n2_ := Aside0.mk (blk_below (g := gb513) (o := .cells #[.string a0_0, .int .i64 a0_1, .slice A0_2 l0_2.length c0_2] 54 (0, 0)) (by (with_reducible repeat (first | refine blk_drewN ?_ _ | refine blk_drew ?_ | refine blk_alloc ?_ _)); exact BK513.out) hb)
      have n3_ := Aside0.mk (blk_below (g := gb514) (o := .cells #[.string a1_0, .int .i64 a1_1, .slice A1_2 l1_2.length c1_2] 54 (0, 0)) (by (with_reducible repeat (first | refine blk_drewN ?_ _ | refine blk_drew ?_ | refine blk_alloc ?_ _)); exact BK514.out) hb)
      have n4_ := Aside0.mk (below_step (by repeat (first | (with_reducible first | exact HB.out | apply below_alloc | apply pw_below_drewN | apply below_drew1 | refine below_set ?_ GE513.out | refine below_set ?_ GE514.out) | exact HB.out)) hb)
      clear HO522
      clear HO527
      clear BK513
      clear BK514
      clear HB
      have HO522 := n0_
      have HO527 := n1_
      have BK513 := n2_
      have BK514 := n3_
      have HB := n4_
      clear n0_ n1_ n2_ n3_ n4_
      (try clear hb)
      (try clear hb2)
      (try clear hk)
      (try clear hi)
      refine hK.out _ _ ⟨(blk_cell BK513.out 0).trans rfl, (blk_cell BK513.out 1).trans rfl, (blk_cell BK513.out 2).trans rfl, (blk_cell BK514.out 0).trans rfl, (blk_cell BK514.out 1).trans rfl, (blk_cell BK514.out 2).trans rfl⟩ (fun hHeld => ?_)
      clear hK K
      refine norm_ (a' := ?_) ?_ ?_
      rotate_left
      ·show Act.put _ (some 21) _ = _
       simp only [Act.put, List.setIfInBounds_toArray, List.set_cons_zero, List.set_cons_succ, i64_w, i32_w]
       rfl
      refine pure_ (i := 8) (N := some 22) (v := ?_) (a' := ?_) #[true, true, true, true, true, true, true, true, true, false, false, false, false, false, false, false, false, false, false, false, false, false, false] rfl rfl (any_of HT_.out (by kernel_rfl)) (fun _ _ _ h => h) (Or.inl ⟨by rfl, ?_⟩) ?_ ?_
      rotate_left
      ·intro w'
       go_simp
       with_reducible rfl
      rotate_left
      ·simp only [Act.put, List.setIfInBounds_toArray, List.set_cons_zero, List.set_cons_succ, i64_w, i32_w]
       rfl
      refine pure_ (i := 9) (N := some 23) (v := ?_) (a' := ?_) #[true, true, true, true, true, true, true, true, true, true, false, false, false, false, false, false, false, false, false, false, false, false, false] rfl rfl (any_of HT_.out (by kernel_rfl)) (fun _ _ _ h => h) (Or.inl ⟨by rfl, ?_⟩) ?_ ?_
      rotate_left
      ·intro w'
       go_simp
       with_reducible rfl
      rotate_left
      ·simp only [Act.put, List.setIfInBounds_toArray, List.set_cons_zero, List.set_cons_succ, i64_w, i32_w]
       rfl
      refine take_ (i := 10) (N := some 24) (v := ?_) (a' := ?_) #[true, true, true, true, true, true, true, true, true, true, true, false, false, false, false, false, false, false, false, false, false, false, false] rfl rfl (take_ofW HT_.out HW_.out (by kernel_rfl)) (fun _ _ _ h => h) (Or.inl ⟨by rfl, ?_⟩) hHeld ?_ ?_
      rotate_left
      ·rintro w' ⟨s0, s1, s2, s3, s4, s5⟩
       go_simp
       with_reducible rfl
      rotate_left
      ·simp only [Act.put, List.setIfInBounds_toArray, List.set_cons_zero, List.set_cons_succ, i64_w, i32_w]
       rfl
      refine take_ (i := 12) (N := some 26) (v := ?_) (a' := ?_) #[true, true, true, true, true, true, true, true, true, true, true, false, true, false, false, false, false, false, false, false, false, false, false] rfl rfl (take_ofW HT_.out HW_.out (by kernel_rfl)) (fun _ _ _ h => h) (Or.inl ⟨by rfl, ?_⟩) hHeld ?_ ?_
      rotate_left
      ·rintro w' ⟨s0, s1, s2, s3, s4, s5⟩
       go_simp
       with_reducible rfl
      rotate_left
      ·simp only [Act.put, List.setIfInBounds_toArray, List.set_cons_zero, List.set_cons_succ, i64_w, i32_w]
       rfl
      refine take_ (i := 15) (N := some 29) (v := ?_) (a' := ?_) #[true, true, true, true, true, true, true, true, true, true, true, false, true, false, false, true, false, false, false, false, false, false, false] rfl rfl (take_ofW HT_.out HW_.out (by kernel_rfl)) (fun _ _ _ h => h) (Or.inl ⟨by rfl, ?_⟩) hHeld ?_ ?_
      rotate_left
      ·rintro w' ⟨s0, s1, s2, s3, s4, s5⟩
       go_simp
       with_reducible rfl
      rotate_left
      ·simp only [Act.put, List.setIfInBounds_toArray, List.set_cons_zero, List.set_cons_succ, i64_w, i32_w]
       rfl
      refine one_ (i := 11) (N := some 25) #[true, true, true, true, true, true, true, true, true, true, true, true, true, false, false, true, false, false, false, false, false, false, false] rfl rfl (one_of HT_.out (by kernel_rfl)) (by decide) (fun K hK => ?_)
      refine goes_ Try.func40 (by kernel_rfl) rfl #[.agg #[.string a0_0, .int .i64 a0_1, .slice A0_2 l0_2.length c0_2]] (by rfl) rfl rfl (by (try simp only [List.map_toArray, List.map_cons, List.map_nil]); first | done | rfl | (simp only [List.length_drop, List.length_take]; rfl)) ?_
      with_reducible refine (strongroomlaw13_mine.calls a0_0 a0_1 _ _ l0_2 t530 t531 t532 _ ?side1 ?side2 A25.out).mono ?_
      (case side1 => repeat (first | exact (Kd.C_below HR0_2.out HB.out) | (with_reducible refine Kd.C_alloc ?_ _) | (with_reducible refine Kd.C_drewN ?_ _) | (with_reducible refine Kd.C_drew ?_)))
      (case side2 => exact HC0_2.out)
      rintro e w38 ⟨v533, rfl, ho0, hb⟩
      refine ⟨_, rfl, ?_⟩
      have n0_ := Aside0.mk (Kd.R_elder' (by (with_reducible repeat (first | apply Kd.R_alloc | apply Kd.R_drewN | apply Kd.R_drew)); exact HO522.out) (Kd.R_base ho0) hb)
      have n1_ := Aside0.mk (Kd.R_elder' (by (with_reducible repeat (first | apply Kd.R_alloc | apply Kd.R_drewN | apply Kd.R_drew)); exact HO527.out) (Kd.R_base ho0) hb)
      have n2_ := Aside0.mk (Kd.R_lower (Kd.R_new' (Kd.R_new' ho0 (Kd.R_lt (by (with_reducible repeat (first | apply Kd.R_alloc | apply Kd.R_drewN | apply Kd.R_drew)); exact HO522.out))) (Kd.R_lt (by (with_reducible repeat (first | apply Kd.R_alloc | apply Kd.R_drewN | apply Kd.R_drew)); exact HO527.out))) (below_size (by repeat (first | (with_reducible first | exact HB.out | apply below_alloc | apply pw_below_drewN | apply below_drew1 | refine below_set ?_ GE513.out | refine below_set ?_ GE514.out) | exact HB.out))))
      have n3_ := Aside0.mk (blk_below (g := gb513) (o := .cells #[.string a0_0, .int .i64 a0_1, .slice A0_2 l0_2.length c0_2] 54 (0, 0)) (by (with_reducible repeat (first | refine blk_drewN ?_ _ | refine blk_drew ?_ | refine blk_alloc ?_ _)); exact BK513.out) hb)
      have n4_ := Aside0.mk (blk_below (g := gb514) (o := .cells #[.string a1_0, .int .i64 a1_1, .slice A1_2 l1_2.length c1_2] 54 (0, 0)) (by (with_reducible repeat (first | refine blk_drewN ?_ _ | refine blk_drew ?_ | refine blk_alloc ?_ _)); exact BK514.out) hb)
      have n5_ := Aside0.mk (below_step (by repeat (first | (with_reducible first | exact HB.out | apply below_alloc | apply pw_below_drewN | apply below_drew1 | refine below_set ?_ GE513.out | refine below_set ?_ GE514.out) | exact HB.out)) hb)
      clear HO522
      clear HO527
      clear BK513
      clear BK514
      clear HB
      have HO522 := n0_
      have HO527 := n1_
      have HO534 := n2_
      have BK513 := n3_
      have BK514 := n4_
      have HB := n5_
      clear n0_ n1_ n2_ n3_ n4_ n5_
      (try clear hb)
      (try clear hb2)
      (try clear hk)
      (try clear hi)
      (try clear ho0)
      refine hK.out _ _ ⟨(blk_cell BK513.out 0).trans rfl, (blk_cell BK513.out 1).trans rfl, (blk_cell BK513.out 2).trans rfl, (blk_cell BK514.out 0).trans rfl, (blk_cell BK514.out 1).trans rfl, (blk_cell BK514.out 2).trans rfl⟩ (fun hHeld => ?_)
      clear hK K
      refine norm_ (a' := ?_) ?_ ?_
      rotate_left
      ·show Act.put _ (some 25) _ = _
       simp only [Act.put, List.setIfInBounds_toArray, List.set_cons_zero, List.set_cons_succ, i64_w, i32_w]
       rfl
      refine one_ (i := 13) (N := some 27) #[true, true, true, true, true, true, true, true, true, true, true, true, true, true, false, true, false, false, false, false, false, false, false] rfl rfl (one_of HT_.out (by kernel_rfl)) (by decide) (fun K hK => ?_)
      refine goes_ Try.func40 (by kernel_rfl) rfl #[.agg #[.string a0_0, .int .i64 a0_1, .slice A0_2 l0_2.length c0_2]] (by rfl) rfl rfl (by (try simp only [List.map_toArray, List.map_cons, List.map_nil]); first | done | rfl | (simp only [List.length_drop, List.length_take]; rfl)) ?_
      with_reducible refine (strongroomlaw13_mine.calls a0_0 a0_1 _ _ l0_2 t535 t536 t537 _ ?side1 ?side2 A26.out).mono ?_
      (case side1 => repeat (first | exact (Kd.C_below HR0_2.out HB.out) | (with_reducible refine Kd.C_alloc ?_ _) | (with_reducible refine Kd.C_drewN ?_ _) | (with_reducible refine Kd.C_drew ?_)))
      (case side2 => exact HC0_2.out)
      rintro e w39 ⟨v538, rfl, ho0, hb⟩
      refine ⟨_, rfl, ?_⟩
      have n0_ := Aside0.mk (Kd.R_elder' (by (with_reducible repeat (first | apply Kd.R_alloc | apply Kd.R_drewN | apply Kd.R_drew)); exact HO522.out) (Kd.R_base ho0) hb)
      have n1_ := Aside0.mk (Kd.R_elder' (by (with_reducible repeat (first | apply Kd.R_alloc | apply Kd.R_drewN | apply Kd.R_drew)); exact HO527.out) (Kd.R_base ho0) hb)
      have n2_ := Aside0.mk (Kd.R_elder' (by (with_reducible repeat (first | apply Kd.R_alloc | apply Kd.R_drewN | apply Kd.R_drew)); exact HO534.out) (Kd.R_base ho0) hb)
      have n3_ := Aside0.mk (Kd.R_lower (Kd.R_new' (Kd.R_new' (Kd.R_new' ho0 (Kd.R_lt (by (with_reducible repeat (first | apply Kd.R_alloc | apply Kd.R_drewN | apply Kd.R_drew)); exact HO522.out))) (Kd.R_lt (by (with_reducible repeat (first | apply Kd.R_alloc | apply Kd.R_drewN | apply Kd.R_drew)); exact HO527.out))) (Kd.R_lt (by (with_reducible repeat (first | apply Kd.R_alloc | apply Kd.R_drewN | apply Kd.R_drew)); exact HO534.out))) (below_size (by repeat (first | (with_reducible first | exact HB.out | apply below_alloc | apply pw_below_drewN | apply below_drew1 | refine below_set ?_ GE513.out | refine below_set ?_ GE514.out) | exact HB.out))))
      have n4_ := Aside0.mk (blk_below (g := gb513) (o := .cells #[.string a0_0, .int .i64 a0_1, .slice A0_2 l0_2.length c0_2] 54 (0, 0)) (by (with_reducible repeat (first | refine blk_drewN ?_ _ | refine blk_drew ?_ | refine blk_alloc ?_ _)); exact BK513.out) hb)
      have n5_ := Aside0.mk (blk_below (g := gb514) (o := .cells #[.string a1_0, .int .i64 a1_1, .slice A1_2 l1_2.length c1_2] 54 (0, 0)) (by (with_reducible repeat (first | refine blk_drewN ?_ _ | refine blk_drew ?_ | refine blk_alloc ?_ _)); exact BK514.out) hb)
      have n6_ := Aside0.mk (below_step (by repeat (first | (with_reducible first | exact HB.out | apply below_alloc | apply pw_below_drewN | apply below_drew1 | refine below_set ?_ GE513.out | refine below_set ?_ GE514.out) | exact HB.out)) hb)
      clear HO522
      clear HO527
      clear HO534
      clear BK513
      clear BK514
      clear HB
      have HO522 := n0_
      have HO527 := n1_
      have HO534 := n2_
      have HO539 := n3_
      have BK513 := n4_
      have BK514 := n5_
      have HB := n6_
      clear n0_ n1_ n2_ n3_ n4_ n5_ n6_
      (try clear hb)
      (try clear hb2)
      (try clear hk)
      (try clear hi)
      (try clear ho0)
      obtain ⟨Ao40, co40, eo40⟩ := Kd.R_slice HO534.out
      (first | subst eo40 | (injection eo40 with f1_ f2_ f3_; have f4_ := f1_.symm; have f5_ := f3_.symm; clear f1_ f2_ f3_; subst f4_; subst f5_))
      obtain ⟨Ao41, co41, eo41⟩ := Kd.R_slice HO539.out
      (first | subst eo41 | (injection eo41 with f1_ f2_ f3_; have f4_ := f1_.symm; have f5_ := f3_.symm; clear f1_ f2_ f3_; subst f4_; subst f5_))
      refine hK.out _ _ ⟨(blk_cell BK513.out 0).trans rfl, (blk_cell BK513.out 1).trans rfl, (blk_cell BK513.out 2).trans rfl, (blk_cell BK514.out 0).trans rfl, (blk_cell BK514.out 1).trans rfl, (blk_cell BK514.out 2).trans rfl⟩ (fun hHeld => ?_)
      clear hK K
      refine norm_ (a' := ?_) ?_ ?_
      rotate_left
      ·show Act.put _ (some 27) _ = _
       simp only [Act.put, List.setIfInBounds_toArray, List.set_cons_zero, List.set_cons_succ, i64_w, i32_w]
       rfl
      refine one_ (i := 14) (N := some 28) #[true, true, true, true, true, true, true, true, true, true, true, true, true, true, true, true, false, false, false, false, false, false, false] rfl rfl (one_of HT_.out (by kernel_rfl)) (by decide) (fun K hK => ?_)
      refine goes_ Try.func49 (by kernel_rfl) rfl #[.agg #[.string t530, .int .i64 t531, .slice Ao40 t532.length co40], .agg #[.string t535, .int .i64 t536, .slice Ao41 t537.length co41]] (by rfl) rfl rfl (by (try simp only [List.map_toArray, List.map_cons, List.map_nil]); first | done | rfl | (simp only [List.length_drop, List.length_take]; rfl)) ?_
      with_reducible refine (audit_Follows.calls kj2 t530 t531 _ _ t532 t535 t536 _ _ t537 t540 _ ?side1 ?side2 ?side3 ?side4 A27.out).mono ?_
      (case side1 => repeat (first | exact (Kd.R_reads' HO534.out).2.2 | (with_reducible refine Kd.C_alloc ?_ _) | (with_reducible refine Kd.C_drewN ?_ _) | (with_reducible refine Kd.C_drew ?_)))
      (case side2 => exact (Kd.R_reads' HO534.out).2.1)
      (case side3 => repeat (first | exact (Kd.R_reads' HO539.out).2.2 | (with_reducible refine Kd.C_alloc ?_ _) | (with_reducible refine Kd.C_drewN ?_ _) | (with_reducible refine Kd.C_drew ?_)))
      (case side4 => exact (Kd.R_reads' HO539.out).2.1)
      rintro e w42 ⟨rfl, hb⟩
      refine ⟨_, rfl, ?_⟩
      have n0_ := Aside0.mk (Kd.R_below (by (with_reducible repeat (first | apply Kd.R_alloc | apply Kd.R_drewN | apply Kd.R_drew)); exact HO522.out) hb)
      have n1_ := Aside0.mk (Kd.R_below (by (with_reducible repeat (first | apply Kd.R_alloc | apply Kd.R_drewN | apply Kd.R_drew)); exact HO527.out) hb)
      have n2_ := Aside0.mk (Kd.R_below (by (with_reducible repeat (first | apply Kd.R_alloc | apply Kd.R_drewN | apply Kd.R_drew)); exact HO534.out) hb)
      have n3_ := Aside0.mk (Kd.R_below (by (with_reducible repeat (first | apply Kd.R_alloc | apply Kd.R_drewN | apply Kd.R_drew)); exact HO539.out) hb)
      have n4_ := Aside0.mk (blk_below (g := gb513) (o := .cells #[.string a0_0, .int .i64 a0_1, .slice A0_2 l0_2.length c0_2] 54 (0, 0)) (by (with_reducible repeat (first | refine blk_drewN ?_ _ | refine blk_drew ?_ | refine blk_alloc ?_ _)); exact BK513.out) hb)
      have n5_ := Aside0.mk (blk_below (g := gb514) (o := .cells #[.string a1_0, .int .i64 a1_1, .slice A1_2 l1_2.length c1_2] 54 (0, 0)) (by (with_reducible repeat (first | refine blk_drewN ?_ _ | refine blk_drew ?_ | refine blk_alloc ?_ _)); exact BK514.out) hb)
      have n6_ := Aside0.mk (below_step (by repeat (first | (with_reducible first | exact HB.out | apply below_alloc | apply pw_below_drewN | apply below_drew1 | refine below_set ?_ GE513.out | refine below_set ?_ GE514.out) | exact HB.out)) hb)
      clear HO522
      clear HO527
      clear HO534
      clear HO539
      clear BK513
      clear BK514
      clear HB
      have HO522 := n0_
      have HO527 := n1_
      have HO534 := n2_
      have HO539 := n3_
      have BK513 := n4_
      have BK514 := n5_
      have HB := n6_
      clear n0_ n1_ n2_ n3_ n4_ n5_ n6_
      (try clear hb)
      (try clear hb2)
      (try clear hk)
      (try clear hi)
      refine hK.out _ _ ⟨(blk_cell BK513.out 0).trans rfl, (blk_cell BK513.out 1).trans rfl, (blk_cell BK513.out 2).trans rfl, (blk_cell BK514.out 0).trans rfl, (blk_cell BK514.out 1).trans rfl, (blk_cell BK514.out 2).trans rfl⟩ (fun hHeld => ?_)
      clear hK K
      refine norm_ (a' := ?_) ?_ ?_
      rotate_left
      ·show Act.put _ (some 28) _ = _
       simp only [Act.put, List.setIfInBounds_toArray, List.set_cons_zero, List.set_cons_succ, i64_w, i32_w]
       rfl
      refine one_ (i := 16) (N := some 30) #[true, true, true, true, true, true, true, true, true, true, true, true, true, true, true, true, true, false, false, false, false, false, false] rfl rfl (one_of HT_.out (by kernel_rfl)) (by decide) (fun K hK => ?_)
      refine goes_ Try.func41 (by kernel_rfl) rfl #[.agg #[.string a0_0, .int .i64 a0_1, .slice A0_2 l0_2.length c0_2]] (by rfl) rfl rfl (by (try simp only [List.map_toArray, List.map_cons, List.map_nil]); first | done | rfl | (simp only [List.length_drop, List.length_take]; rfl)) ?_
      with_reducible refine (strongroomref13_May.calls kj2 a0_0 a0_1 _ _ l0_2 t541 _ ?side1 ?side2 A28.out).mono ?_
      (case side1 => repeat (first | exact (Kd.C_below HR0_2.out HB.out) | (with_reducible refine Kd.C_alloc ?_ _) | (with_reducible refine Kd.C_drewN ?_ _) | (with_reducible refine Kd.C_drew ?_)))
      (case side2 => exact HC0_2.out)
      rintro e w43 ⟨rfl, hb⟩
      refine ⟨_, rfl, ?_⟩
      have n0_ := Aside0.mk (Kd.R_below (by (with_reducible repeat (first | apply Kd.R_alloc | apply Kd.R_drewN | apply Kd.R_drew)); exact HO522.out) hb)
      have n1_ := Aside0.mk (Kd.R_below (by (with_reducible repeat (first | apply Kd.R_alloc | apply Kd.R_drewN | apply Kd.R_drew)); exact HO527.out) hb)
      have n2_ := Aside0.mk (Kd.R_below (by (with_reducible repeat (first | apply Kd.R_alloc | apply Kd.R_drewN | apply Kd.R_drew)); exact HO534.out) hb)
      have n3_ := Aside0.mk (Kd.R_below (by (with_reducible repeat (first | apply Kd.R_alloc | apply Kd.R_drewN | apply Kd.R_drew)); exact HO539.out) hb)
      have n4_ := Aside0.mk (blk_below (g := gb513) (o := .cells #[.string a0_0, .int .i64 a0_1, .slice A0_2 l0_2.length c0_2] 54 (0, 0)) (by (with_reducible repeat (first | refine blk_drewN ?_ _ | refine blk_drew ?_ | refine blk_alloc ?_ _)); exact BK513.out) hb)
      have n5_ := Aside0.mk (blk_below (g := gb514) (o := .cells #[.string a1_0, .int .i64 a1_1, .slice A1_2 l1_2.length c1_2] 54 (0, 0)) (by (with_reducible repeat (first | refine blk_drewN ?_ _ | refine blk_drew ?_ | refine blk_alloc ?_ _)); exact BK514.out) hb)
      have n6_ := Aside0.mk (below_step (by repeat (first | (with_reducible first | exact HB.out | apply below_alloc | apply pw_below_drewN | apply below_drew1 | refine below_set ?_ GE513.out | refine below_set ?_ GE514.out) | exact HB.out)) hb)
      clear HO522
      clear HO527
      clear HO534
      clear HO539
      clear BK513
      clear BK514
      clear HB
      have HO522 := n0_
      have HO527 := n1_
      have HO534 := n2_
      have HO539 := n3_
      have BK513 := n4_
      have BK514 := n5_
      have HB := n6_
      clear n0_ n1_ n2_ n3_ n4_ n5_ n6_
      (try clear hb)
      (try clear hb2)
      (try clear hk)
      (try clear hi)
      refine hK.out _ _ ⟨(blk_cell BK513.out 0).trans rfl, (blk_cell BK513.out 1).trans rfl, (blk_cell BK513.out 2).trans rfl, (blk_cell BK514.out 0).trans rfl, (blk_cell BK514.out 1).trans rfl, (blk_cell BK514.out 2).trans rfl⟩ (fun hHeld => ?_)
      clear hK K
      refine norm_ (a' := ?_) ?_ ?_
      rotate_left
      ·show Act.put _ (some 30) _ = _
       simp only [Act.put, List.setIfInBounds_toArray, List.set_cons_zero, List.set_cons_succ, i64_w, i32_w]
       rfl
      refine pure_ (i := 17) (N := some 31) (v := ?_) (a' := ?_) #[true, true, true, true, true, true, true, true, true, true, true, true, true, true, true, true, true, true, false, false, false, false, false] rfl rfl (any_of HT_.out (by kernel_rfl)) (fun _ _ _ h => h) (Or.inl ⟨by rfl, ?_⟩) ?_ ?_
      rotate_left
      ·intro w'
       go_simp
       with_reducible rfl
      rotate_left
      ·simp only [Act.put, List.setIfInBounds_toArray, List.set_cons_zero, List.set_cons_succ, i64_w, i32_w]
       rfl
      refine pure_ (i := 18) (N := some 32) (v := ?_) (a' := ?_) #[true, true, true, true, true, true, true, true, true, true, true, true, true, true, true, true, true, true, true, false, false, false, false] rfl rfl (any_of HT_.out (by kernel_rfl)) (fun _ _ _ h => h) (Or.inl ⟨by rfl, ?_⟩) ?_ ?_
      rotate_left
      ·intro w'
       go_simp
       with_reducible rfl
      rotate_left
      ·simp only [Act.put, List.setIfInBounds_toArray, List.set_cons_zero, List.set_cons_succ, i64_w, i32_w]
       rfl
      refine pure_ (i := 19) (N := some 33) (v := ?_) (a' := ?_) #[true, true, true, true, true, true, true, true, true, true, true, true, true, true, true, true, true, true, true, true, false, false, false] rfl rfl (any_of HT_.out (by kernel_rfl)) (fun _ _ _ h => h) (Or.inl ⟨by rfl, ?_⟩) ?_ ?_
      rotate_left
      ·intro w'
       go_simp
       with_reducible rfl
      rotate_left
      ·simp only [Act.put, List.setIfInBounds_toArray, List.set_cons_zero, List.set_cons_succ, i64_w, i32_w]
       rfl
      refine one_ (i := 20) (N := some 34) #[true, true, true, true, true, true, true, true, true, true, true, true, true, true, true, true, true, true, true, true, true, false, false] rfl rfl (one_of HT_.out (by kernel_rfl)) (by decide) (fun K hK => ?_)
      refine goes_ Try.func34 (by kernel_rfl) rfl #[] (by rfl) rfl rfl (by (try simp only [List.map_toArray, List.map_cons, List.map_nil]); first | done | rfl | (simp only [List.length_drop, List.length_take]; rfl)) ?_
      with_reducible refine (strongroomlaw13_lives.calls  t542 _ A30.out).mono ?_
      rintro e w44 ⟨rfl, hb⟩
      refine ⟨_, rfl, ?_⟩
      have n0_ := Aside0.mk (Kd.R_below (by (with_reducible repeat (first | apply Kd.R_alloc | apply Kd.R_drewN | apply Kd.R_drew)); exact HO522.out) hb)
      have n1_ := Aside0.mk (Kd.R_below (by (with_reducible repeat (first | apply Kd.R_alloc | apply Kd.R_drewN | apply Kd.R_drew)); exact HO527.out) hb)
      have n2_ := Aside0.mk (Kd.R_below (by (with_reducible repeat (first | apply Kd.R_alloc | apply Kd.R_drewN | apply Kd.R_drew)); exact HO534.out) hb)
      have n3_ := Aside0.mk (Kd.R_below (by (with_reducible repeat (first | apply Kd.R_alloc | apply Kd.R_drewN | apply Kd.R_drew)); exact HO539.out) hb)
      have n4_ := Aside0.mk (blk_below (g := gb513) (o := .cells #[.string a0_0, .int .i64 a0_1, .slice A0_2 l0_2.length c0_2] 54 (0, 0)) (by (with_reducible repeat (first | refine blk_drewN ?_ _ | refine blk_drew ?_ | refine blk_alloc ?_ _)); exact BK513.out) hb)
      have n5_ := Aside0.mk (blk_below (g := gb514) (o := .cells #[.string a1_0, .int .i64 a1_1, .slice A1_2 l1_2.length c1_2] 54 (0, 0)) (by (with_reducible repeat (first | refine blk_drewN ?_ _ | refine blk_drew ?_ | refine blk_alloc ?_ _)); exact BK514.out) hb)
      have n6_ := Aside0.mk (below_step (by repeat (first | (with_reducible first | exact HB.out | apply below_alloc | apply pw_below_drewN | apply below_drew1 | refine below_set ?_ GE513.out | refine below_set ?_ GE514.out) | exact HB.out)) hb)
      clear HO522
      clear HO527
      clear HO534
      clear HO539
      clear BK513
      clear BK514
      clear HB
      have HO522 := n0_
      have HO527 := n1_
      have HO534 := n2_
      have HO539 := n3_
      have BK513 := n4_
      have BK514 := n5_
      have HB := n6_
      clear n0_ n1_ n2_ n3_ n4_ n5_ n6_
      (try clear hb)
      (try clear hb2)
      (try clear hk)
      (try clear hi)
      refine hK.out _ _ ⟨(blk_cell BK513.out 0).trans rfl, (blk_cell BK513.out 1).trans rfl, (blk_cell BK513.out 2).trans rfl, (blk_cell BK514.out 0).trans rfl, (blk_cell BK514.out 1).trans rfl, (blk_cell BK514.out 2).trans rfl⟩ (fun hHeld => ?_)
      clear hK K
      refine norm_ (a' := ?_) ?_ ?_
      rotate_left
      ·show Act.put _ (some 34) _ = _
       simp only [Act.put, List.setIfInBounds_toArray, List.set_cons_zero, List.set_cons_succ, i64_w, i32_w]
       rfl
      refine pure_ (i := 21) (N := some 35) (v := ?_) (a' := ?_) #[true, true, true, true, true, true, true, true, true, true, true, true, true, true, true, true, true, true, true, true, true, true, false] rfl rfl (any_of HT_.out (by kernel_rfl)) (fun _ _ _ h => h) (Or.inl ⟨by rfl, ?_⟩) ?_ ?_
      rotate_left
      ·intro w'
       go_simp
       with_reducible rfl
      rotate_left
      ·simp only [Act.put, List.setIfInBounds_toArray, List.set_cons_zero, List.set_cons_succ, i64_w, i32_w]
       rfl
      refine pure_ (i := 22) (N := some 4) (v := ?_) (a' := ?_) #[true, true, true, true, true, true, true, true, true, true, true, true, true, true, true, true, true, true, true, true, true, true, true] rfl rfl (any_of HT_.out (by kernel_rfl)) (fun _ _ _ h => h) (Or.inl ⟨by rfl, ?_⟩) ?_ ?_
      rotate_left
      ·intro w'
       go_simp
       with_reducible rfl
      rotate_left
      ·simp only [Act.put, List.setIfInBounds_toArray, List.set_cons_zero, List.set_cons_succ, i64_w, i32_w]
       rfl
      refine done_ (done_of HT_.out (by kernel_rfl)) ?_
      try go_wp2
      go_ret
      exact ⟨by first | rfl | (simp [errW_none, errW_some] <;> rfl) | (simp [*, errW_none, errW_some] <;> rfl), by repeat (first | (with_reducible first | exact HB.out | apply below_alloc | apply pw_below_drewN | apply below_drew1 | refine below_set ?_ GE513.out | refine below_set ?_ GE514.out) | exact HB.out)⟩
     ·rw [if_neg c29] at H
      have c29b0 : (t540 == t541) = false := by simpa using c29
      (try (have c29b1 : decide (t540 = t541) = false := by simpa using c29))
      (try (have c29b2 : (t540 == t541) = false := by simpa using c29))
      (try (have c29b3 : ¬ (t540 = t541) := by simpa using c29))
      clear c29
      exact absurd H (by simp)
    ·rw [if_neg c24] at H
     have c24b0 : (t528 == t529) = false := by simpa using c24
     (try (have c24b1 : decide (t528 = t529) = false := by simpa using c24))
     (try (have c24b2 : (t528 == t529) = false := by simpa using c24))
     (try (have c24b3 : ¬ (t528 = t529) := by simpa using c24))
     clear c24
     exact absurd H (by simp)
end Go.Proofs.Ytcdnmlfnfhoieaa.A

/- Plain facts on a number's bytes (sevens of bits): lengths, ranges, and that two numbers' bytes that begin one text are one number's. No condition. -/
namespace Go.Proofs.Ytcdnmlfnfhoieaa.Bs
open Go.RowKit Go.Proofs.YtcdnmlfnfhoieaaW.PrintWords Go.Proofs.YtcdnmlfnfhoieaaW.PrintLast Go.Proofs.YtcdnmlfnfhoieaaW.PrintMore
/-- A number's bytes. -/
def putB (n : Nat) : List Int := if n < 128 then [(n : Int)] else ((n % 128 + 128 : Nat) : Int) :: putB (n / 128)
termination_by n
decreasing_by omega
theorem putB_small {n : Nat} (h : n < 128) : putB n = [(n : Int)] := by rw [putB, if_pos h]
theorem putB_big {n : Nat} (h : 128 ≤ n) : putB n = ((n % 128 + 128 : Nat) : Int) :: putB (n / 128) := by rw [putB, if_neg (by omega)]
theorem putB_len : ∀ (j n : Nat), n < 128 ^ (j + 1) → (putB n).length ≤ j + 1
 | 0, n, h => by rw [putB_small (by omega)]; simp
 | j + 1, n, h => by
  by_cases hn : n < 128
  ·rw [putB_small hn]; simp
  ·rw [putB_big (by omega), List.length_cons]
   have := putB_len j (n / 128) (by rw [Nat.pow_succ] at h; omega)
   omega
theorem putB_len10 {n : Nat} (h : n < 18446744073709551616) : (putB n).length ≤ 10 := putB_len 9 n (by omega)
set_option maxRecDepth 20000 in
theorem or128 (x : Nat) (h : x < 256) : Go.bits .or .u8 (x : Int) 128 = ((x % 128 + 128 : Nat) : Int) := by
 have h1 : ∀ a : Fin 256, ((a.val ||| 128 : Nat) = a.val % 128 + 128) := by decide
 have h2 := u8_or_nat x 128 h (by decide)
 rw [show ((128 : Nat) : Int) = 128 from rfl] at h2
 rw [h2, h1 ⟨x, h⟩]
end Go.Proofs.Ytcdnmlfnfhoieaa.Bs

/- What the program's num package writes (lay, own, Put, PutText), by the bytes of numbers, and bytes and strings there and back. Conditions: the lengths that its callers keep. -/
set_option linter.unusedVariables false
namespace Go.Proofs.Ytcdnmlfnfhoieaa.A
open Go.RowKit Go.Proofs.YtcdnmlfnfhoieaaW.PrintWords Go.Proofs.YtcdnmlfnfhoieaaW.PrintLast Go.Proofs.YtcdnmlfnfhoieaaW.PrintMore Go.Proofs.Ytcdnmlfnfhoieaa.Bs
theorem str_bytesOf (s : ByteArray) : strOfNums (bytesOf s) = s := by
 unfold strOfNums bytesOf
 rw [List.map_map]
 have : (s.data.toList.map ((fun n : Int => UInt8.ofNat n.toNat) ∘ fun b : UInt8 => (b.toNat : Int))) = s.data.toList := by
  apply List.ext_getElem
  ·simp
  ·intro i h1 h2
   simp
 rw [this]
theorem bytesOf_length (s : ByteArray) : (bytesOf s).length = s.size := by
 show (s.data.toList.map _).length = s.data.size
 rw [List.length_map, Array.length_toList]
theorem lay_ev (d : Nat) : ∀ (k n : Nat) (acc : List Int), n < 128 ^ (d + 1) → n < 18446744073709551616 → d < k → acc.length + d < 140737488355328 → num_lay.l0 k acc (n : Int) = some (acc ++ putB n) := by
 induction d with
 | zero =>
  intro k n acc h1 _ hk hl
  obtain ⟨k, rfl⟩ : ∃ m, k = m + 1 := ⟨k - 1, by omega⟩
  simp only [num_lay.l0]
  rw [if_neg (by omega), if_pos (by omega), putB_small (by omega)]
  rw [show (n : Int) % 256 = (n : Int) by omega]
 | succ d ih =>
  intro k n acc h1 h2 hk hl
  obtain ⟨k, rfl⟩ : ∃ m, k = m + 1 := ⟨k - 1, by omega⟩
  simp only [num_lay.l0]
  by_cases hn : n < 128
  ·rw [if_neg (by omega), if_pos (by omega), putB_small hn]
   rw [show (n : Int) % 256 = (n : Int) by omega]
  ·rw [if_pos (by omega), if_pos (by omega), putB_big (by omega)]
   have e : (n : Int) % 256 = ((n % 256 : Nat) : Int) := by omega
   have e2 : (n : Int) / 128 = ((n / 128 : Nat) : Int) := by omega
   rw [e, or128 _ (by omega), e2, ih k (n / 128) _ (by rw [Nat.pow_succ] at h1; omega) (by omega) (by omega) (by rw [List.length_append, List.length_singleton]; omega)]
   rw [List.append_assoc, show (n % 256 % 128 + 128) = n % 128 + 128 by omega]
   rfl
theorem lay_some (n : Nat) (acc : List Int) (h : n < 18446744073709551616) (hl : acc.length < 140737488355000) : num_lay.f 10 acc (n : Int) = some (acc ++ putB n) := by
 unfold num_lay.f
 exact lay_ev 9 10 n acc (by omega) h (by omega) (by omega)
theorem own_some (l : List Int) (hl : l.length < 140737488355328) : num_own.f l = some l := by
 unfold num_own.f
 simp only [Option.bind_some, List.length_nil, List.nil_append]
 rw [if_pos (by omega)]
theorem put_some (n : Nat) (l : List Int) (h : n < 18446744073709551616) (hl : l.length < 140737488355000) : num_Put.f 10 l (n : Int) = some (l ++ putB n) := by
 unfold num_Put.f
 rw [own_some l (by omega), Option.bind_some, lay_some n l h hl]
 rfl
theorem puttext_some (l : List Int) (s : ByteArray) (hl : l.length + s.size < 140737488355000) : num_PutText.f 10 l s = some (l ++ putB s.size ++ bytesOf s) := by
 unfold num_PutText.f
 rw [own_some l (by omega), Option.bind_some, wrap_u64 _ (by omega) (by omega), lay_some s.size l (by omega) (by omega), Option.bind_some]
 rw [if_pos (by rw [List.length_append]; have := putB_len10 (n := s.size) (by omega); omega)]
theorem strOfNums_append (a b : List Int) : strOfNums (a ++ b) = strOfNums a ++ strOfNums b := by
 apply ByteArray.ext
 simp [strOfNums]
theorem refput_ev (d : Nat) : ∀ (k n : Nat), n < 128 ^ (d + 1) → n < 18446744073709551616 → d < k → d < 20 → strongroomref01_Put.f k (n : Int) = some (strOfNums (putB n)) := by
 induction d with
 | zero =>
  intro k n h1 _ hk _
  obtain ⟨k, rfl⟩ : ∃ m, k = m + 1 := ⟨k - 1, by omega⟩
  simp only [strongroomref01_Put.f]
  rw [if_pos (by omega), putB_small (by omega), show (n : Int) % 256 = (n : Int) by omega]
 | succ d ih =>
  intro k n h1 h2 hk hd
  obtain ⟨k, rfl⟩ : ∃ m, k = m + 1 := ⟨k - 1, by omega⟩
  simp only [strongroomref01_Put.f]
  by_cases hn : n < 128
  ·rw [if_pos (by omega), putB_small hn, show (n : Int) % 256 = (n : Int) by omega]
  ·rw [if_neg (by omega), Option.bind_some]
   have e1 : IntKind.u64.wrap (Int.tmod (n : Int) 128 + 128) % 256 = ((n % 128 + 128 : Nat) : Int) := by
    rw [Int.tmod_eq_emod_of_nonneg (by omega), wrap_u64 _ (by omega) (by omega)]
    omega
   have e2 : IntKind.u64.wrap (Int.tdiv (n : Int) 128) = ((n / 128 : Nat) : Int) := by
    rw [Int.tdiv_eq_ediv_of_nonneg (by omega), wrap_u64 _ (by omega) (by omega)]
    omega
   rw [e1, e2, ih k (n / 128) (by rw [Nat.pow_succ] at h1; omega) (by omega) (by omega) (by omega), Option.bind_some]
   have := putB_len10 (n := n / 128) (by omega)
   rw [if_pos (by rw [strOfNums_size, strOfNums_size, List.length_singleton]; omega), ← strOfNums_append, putB_big (n := n) (by omega)]
   rfl
theorem refput_some (n : Nat) (h : n < 18446744073709551616) : strongroomref01_Put.f 10 (n : Int) = some (strOfNums (putB n)) := refput_ev 9 10 n (by omega) h (by omega) (by omega)
theorem reftext_some (s : ByteArray) (h : s.size < 140737488355328) : strongroomref01_Text.f 10 s = some (strOfNums (putB s.size) ++ s) := by
 unfold strongroomref01_Text.f
 rw [wrap_u64 _ (by omega) (by omega), refput_some s.size (by omega), Option.bind_some]
 have := putB_len10 (n := s.size) (by omega)
 rw [if_pos (by rw [strOfNums_size]; omega)]
end Go.Proofs.Ytcdnmlfnfhoieaa.A

/- Plain facts on audits: which entries and audits may be, an entry's bytes, the chain's digest. Conditions: at most 1000 entries, an anchor of at most 1000 bytes. -/
namespace Go.Proofs.Ytcdnmlfnfhoieaa.A
open Go.RowKit Go.Proofs.YtcdnmlfnfhoieaaW.PrintWords Go.Proofs.YtcdnmlfnfhoieaaW.PrintLast Go.Proofs.YtcdnmlfnfhoieaaW.PrintMore Go.Proofs.Ytcdnmlfnfhoieaa.Bs
set_option linter.unusedVariables false
set_option linter.unusedSimpArgs false
def goodB (e : S64) : Bool := decide (1 ≤ e.f0 ∧ e.f0 ≤ 2147483648 ∧ 0 ≤ e.f1 ∧ e.f1 ≤ 1099511627776 ∧ 0 ≤ e.f2 ∧ e.f2 ≤ 100 ∧ (e.f3.size : Int) ≤ 32 ∧ 0 ≤ e.f4 ∧ e.f4 ≤ 100)
theorem goodB_iff (e : S64) : goodB e = true ↔ (1 ≤ e.f0 ∧ e.f0 ≤ 2147483648 ∧ 0 ≤ e.f1 ∧ e.f1 ≤ 1099511627776 ∧ 0 ≤ e.f2 ∧ e.f2 ≤ 100 ∧ (e.f3.size : Int) ≤ 32 ∧ 0 ≤ e.f4 ∧ e.f4 ≤ 100) := by
 unfold goodB
 exact decide_eq_true_iff
theorem goodB_not (e : S64) (h : ¬ (1 ≤ e.f0 ∧ e.f0 ≤ 2147483648 ∧ 0 ≤ e.f1 ∧ e.f1 ≤ 1099511627776 ∧ 0 ≤ e.f2 ∧ e.f2 ≤ 100 ∧ (e.f3.size : Int) ≤ 32 ∧ 0 ≤ e.f4 ∧ e.f4 ≤ 100)) : goodB e = false := decide_eq_false h
theorem good_some (e : S64) : audit_good.f e.f0 e.f1 e.f2 e.f3 e.f4 = some (goodB e) := by
 unfold audit_good.f
 by_cases h1 : e.f0 ≥ 1
 ·by_cases h2 : e.f0 ≤ 2147483648
  ·by_cases h3 : e.f1 ≥ 0
   ·by_cases h4 : e.f1 ≤ 1099511627776
    ·by_cases h5 : e.f2 ≥ 0
     ·by_cases h6 : e.f2 ≤ 100
      ·by_cases h7 : (e.f3.size : Int) ≤ 32
       ·by_cases h8 : e.f4 ≥ 0
        ·rw [if_pos h1, if_pos h2, if_pos h3, if_pos h4, if_pos h5, if_pos h6, if_pos h7, if_pos h8]
         by_cases h9 : e.f4 ≤ 100
         ·rw [decide_eq_true h9, (goodB_iff e).2 ⟨h1, h2, h3, h4, h5, h6, h7, h8, h9⟩]
         ·rw [decide_eq_false h9, goodB_not e (fun h => h9 h.2.2.2.2.2.2.2.2)]
        ·rw [if_pos h1, if_pos h2, if_pos h3, if_pos h4, if_pos h5, if_pos h6, if_pos h7, if_neg h8, goodB_not e (fun h => h8 h.2.2.2.2.2.2.2.1)]
       ·rw [if_pos h1, if_pos h2, if_pos h3, if_pos h4, if_pos h5, if_pos h6, if_neg h7, goodB_not e (fun h => h7 h.2.2.2.2.2.2.1)]
      ·rw [if_pos h1, if_pos h2, if_pos h3, if_pos h4, if_pos h5, if_neg h6, goodB_not e (fun h => h6 h.2.2.2.2.2.1)]
     ·rw [if_pos h1, if_pos h2, if_pos h3, if_pos h4, if_neg h5, goodB_not e (fun h => h5 h.2.2.2.2.1)]
    ·rw [if_pos h1, if_pos h2, if_pos h3, if_neg h4, goodB_not e (fun h => h4 h.2.2.2.1)]
   ·rw [if_pos h1, if_pos h2, if_neg h3, goodB_not e (fun h => h3 h.2.2.1)]
  ·rw [if_pos h1, if_neg h2, goodB_not e (fun h => h2 h.2.1)]
 ·rw [if_neg h1, goodB_not e (fun h => h1 h.1)]
theorem rd_nat (l : List S64) (i : Nat) : rd_T64 l (i : Int) = l.getD i z64 := by
 unfold rd_T64
 rw [Int.toNat_natCast]
theorem inc_nat (i : Nat) (h : i < 1000000) : wrap64 ((i : Int) + 1) = ((i + 1 : Nat) : Int) := by
 rw [wrap64_id _ (by omega) (by omega)]
 rfl
def seqB (n : Int) (l : List S64) (i : Nat) : Bool := goodB (l.getD i z64) && decide ((l.getD i z64).f0 = n - l.length + i + 1)
def mayB (a : ByteArray) (n : Int) (l : List S64) : Bool := decide (a.size = 32 ∧ 0 ≤ n ∧ n ≤ 2147483648 ∧ (l.length : Int) = mn n 8) && (List.range' 0 l.length).all (seqB n l)
theorem may_l0 (a : ByteArray) (n : Int) (l : List S64) (hl : l.length ≤ 1000) (hn0 : 0 ≤ n) (hn : n ≤ 2147483648) : ∀ (d k i : Nat), i + d = l.length → d < k → audit_May.l0 k l (l.length : Int) (i : Int) a n l = some ((List.range' i d).all (seqB n l)) := by
 intro d
 induction d with
 | zero =>
  intro k i hi hk
  obtain ⟨k, rfl⟩ : ∃ m, k = m + 1 := ⟨k - 1, by omega⟩
  rw [audit_May.l0, if_neg (by omega)]
  rfl
 | succ d ih =>
  intro k i hi hk
  obtain ⟨k, rfl⟩ : ∃ m, k = m + 1 := ⟨k - 1, by omega⟩
  rw [audit_May.l0, if_pos (by omega), if_pos (by omega), if_pos (by omega), rd_nat, good_some, Option.bind_some, List.range'_succ, List.all_cons]
  have e1 : wrap64 (n - (l.length : Int)) = n - l.length := wrap64_id _ (by omega) (by omega)
  have e2 : wrap64 (n - (l.length : Int) + i) = n - l.length + i := wrap64_id _ (by omega) (by omega)
  have e3 : wrap64 (n - (l.length : Int) + i + 1) = n - l.length + i + 1 := wrap64_id _ (by omega) (by omega)
  rw [e1, e2, e3, inc_nat i (by omega)]
  cases hg : goodB (l.getD i z64) with
  | false => rw [if_neg (by decide), seqB, hg]; rfl
  | true =>
   rw [if_pos rfl]
   by_cases hs : (l.getD i z64).f0 = n - l.length + i + 1
   ·rw [if_pos hs, ih k (i + 1) (by omega) (by omega), seqB, hg, decide_eq_true hs]
    rfl
   ·rw [if_neg hs, seqB, hg, decide_eq_false hs]
    rfl
theorem may_some (a : ByteArray) (n : Int) (l : List S64) (hl : l.length ≤ 1000) (k : Nat) (hk : l.length + 2 ≤ k) : audit_May.f k a n l = some (mayB a n l) := by
 obtain ⟨k, rfl⟩ : ∃ m, k = m + 1 := ⟨k - 1, by omega⟩
 have hf : ∀ p : Prop, [Decidable p] → ¬ p → (decide p && (List.range' 0 l.length).all (seqB n l)) = false := fun p _ hp => by rw [decide_eq_false hp]; rfl
 unfold audit_May.f mayB
 by_cases h1 : (a.size : Int) = 32
 ·rw [if_pos h1]
  by_cases h2 : n < 0
  ·rw [if_pos h2, audit_May.j0, if_pos rfl, hf _ (by omega)]
  ·rw [if_neg h2]
   by_cases h3 : n > 2147483648
   ·rw [if_pos h3, audit_May.j0, if_pos rfl, hf _ (by omega)]
   ·rw [if_neg h3]
    by_cases h4 : (l.length : Int) = mn n 8
    ·have e : ((l.length : Int) != mn n 8) = false := by simp [h4]
     rw [e, audit_May.j0, if_neg (by decide)]
     have := may_l0 a n l hl (by omega) (by omega) l.length k 0 (by omega) (by omega)
     rw [show ((0 : Nat) : Int) = 0 from rfl] at this
     rw [this, decide_eq_true ⟨by omega, by omega, by omega, h4⟩, Bool.true_and]
    ·have e : ((l.length : Int) != mn n 8) = true := by simp [h4]
     rw [e, audit_May.j0, if_pos rfl, hf _ (fun h => h4 h.2.2.2)]
 ·rw [if_neg h1, audit_May.j0, if_pos rfl, hf _ (by omega)]
theorem mayB_iff (a : ByteArray) (n : Int) (l : List S64) : mayB a n l = true ↔ (a.size = 32 ∧ 0 ≤ n ∧ n ≤ 2147483648 ∧ (l.length : Int) = mn n 8) ∧ ∀ i, i < l.length → goodB (l.getD i z64) = true ∧ (l.getD i z64).f0 = n - l.length + i + 1 := by
 unfold mayB
 rw [Bool.and_eq_true, decide_eq_true_iff, List.all_eq_true]
 refine and_congr Iff.rfl ⟨fun h i hi => ?_, fun h i hi => ?_⟩
 ·have := h i (List.mem_range'_1.2 ⟨by omega, by omega⟩)
  rw [seqB, Bool.and_eq_true, decide_eq_true_iff] at this
  exact this
 ·have hi := List.mem_range'_1.1 hi
  rw [seqB, Bool.and_eq_true, decide_eq_true_iff]
  exact h i (by omega)
theorem mn8 (n : Int) : mn n 8 = if n < 8 then n else 8 := by
 unfold mn
 split <;> split <;> omega
/-- An entry's bytes. -/
def entL (e : S64) : List Int := putB e.f0.toNat ++ putB e.f1.toNat ++ putB e.f2.toNat ++ putB e.f3.size ++ bytesOf e.f3 ++ putB e.f4.toNat
def entB (e : S64) : ByteArray := strOfNums (entL e)
theorem entL_len (e : S64) (h : goodB e = true) : (entL e).length ≤ 100 := by
 have hg := (goodB_iff e).1 h
 have h0 := putB_len10 (n := e.f0.toNat) (by omega)
 have h1 := putB_len10 (n := e.f1.toNat) (by omega)
 have h2 := putB_len10 (n := e.f2.toNat) (by omega)
 have h3 := putB_len10 (n := e.f3.size) (by omega)
 have h4 := putB_len10 (n := e.f4.toNat) (by omega)
 simp only [entL, List.length_append, bytesOf_length]
 omega
theorem entB_size (e : S64) (h : goodB e = true) : (entB e).size ≤ 100 := by
 rw [entB, strOfNums_size]
 exact entL_len e h
theorem u64_id (n : Int) (h0 : 0 ≤ n) (h1 : n < 18446744073709551616) : IntKind.u64.wrap n = ((n.toNat : Nat) : Int) := by
 rw [wrap_u64 n h0 h1]
 omega
theorem bytes_some (e : S64) (h : goodB e = true) (k : Nat) (hk : 10 ≤ k) : audit_bytes.f k e.f0 e.f1 e.f2 e.f3 e.f4 = some (entB e) := by
 have hg := (goodB_iff e).1 h
 have hp : ∀ (n : Nat) (l : List Int), n < 18446744073709551616 → l.length < 1000 → num_Put.f k l (n : Int) = some (l ++ putB n) := fun n l hn hl => at_rounds (num_Put.mono _ _) hk (put_some n l hn (by omega))
 have h0 := putB_len10 (n := e.f0.toNat) (by omega)
 have h1 := putB_len10 (n := e.f1.toNat) (by omega)
 have h2 := putB_len10 (n := e.f2.toNat) (by omega)
 have h3 := putB_len10 (n := e.f3.size) (by omega)
 unfold audit_bytes.f
 rw [u64_id e.f0 (by omega) (by omega), hp _ _ (by omega) (by simp), Option.bind_some, u64_id e.f1 (by omega) (by omega), hp _ _ (by omega) (by simp; omega), Option.bind_some, u64_id e.f2 (by omega) (by omega), hp _ _ (by omega) (by simp; omega), Option.bind_some]
 rw [at_rounds (num_PutText.mono _ _) hk (puttext_some _ e.f3 (by simp; omega)), Option.bind_some, u64_id e.f4 (by omega) (by omega), hp _ _ (by omega) (by simp only [List.length_append, List.length_nil, bytesOf_length]; omega), Option.bind_some]
 rfl
theorem refbytes_some (e : S64) (h : goodB e = true) (k : Nat) (hk : 10 ≤ k) : strongroomref13_Bytes.f k e.f0 e.f1 e.f2 e.f3 e.f4 = some (entB e) := by
 have hg := (goodB_iff e).1 h
 have hp : ∀ (n : Nat), n < 18446744073709551616 → strongroomref01_Put.f k (n : Int) = some (strOfNums (putB n)) := fun n hn => at_rounds (strongroomref01_Put.mono _) hk (refput_some n hn)
 have h0 := putB_len10 (n := e.f0.toNat) (by omega)
 have h1 := putB_len10 (n := e.f1.toNat) (by omega)
 have h2 := putB_len10 (n := e.f2.toNat) (by omega)
 have h3 := putB_len10 (n := e.f3.size) (by omega)
 have h4 := putB_len10 (n := e.f4.toNat) (by omega)
 unfold strongroomref13_Bytes.f
 rw [u64_id e.f0 (by omega) (by omega), hp _ (by omega), Option.bind_some, u64_id e.f1 (by omega) (by omega), hp _ (by omega), Option.bind_some, if_pos (by simp only [strOfNums_size]; omega), u64_id e.f2 (by omega) (by omega), hp _ (by omega), Option.bind_some, if_pos (by simp only [strOfNums_size, ByteArray.size_append]; omega)]
 rw [at_rounds (strongroomref01_Text.mono _) hk (reftext_some e.f3 (by omega)), Option.bind_some, if_pos (by simp only [strOfNums_size, ByteArray.size_append]; omega), u64_id e.f4 (by omega) (by omega), hp _ (by omega), Option.bind_some, if_pos (by simp only [strOfNums_size, ByteArray.size_append]; omega)]
 congr 1
 rw [entB, entL]
 simp only [strOfNums_append, str_bytesOf]
 simp only [ByteArray.append_assoc]
/-- The digest of entries behind an anchor. -/
def chainP (d : ByteArray) : List S64 → ByteArray
 | [] => d
 | e :: l => chainP (sealP d (entB e)) l
theorem drop_getD (l : List S64) (i : Nat) (h : i < l.length) : l.drop i = l.getD i z64 :: l.drop (i + 1) := by
 rw [List.drop_eq_getElem_cons h, List.getD_eq_getElem?_getD, List.getElem?_eq_getElem h]
 rfl
theorem chain_l0 (l : List S64) (hl : l.length ≤ 1000) (hg : ∀ e ∈ l, goodB e = true) : ∀ (j k i : Nat) (d : ByteArray), i + j = l.length → j + 10 < k → d.size ≤ 1000000 → audit_chain.l0 k d l (l.length : Int) (i : Int) = some (chainP d (l.drop i)) := by
 intro j
 induction j with
 | zero =>
  intro k i d hi hk hd
  obtain ⟨k, rfl⟩ : ∃ m, k = m + 1 := ⟨k - 1, by omega⟩
  rw [audit_chain.l0, if_neg (by omega), List.drop_eq_nil_of_le (by omega)]
  rfl
 | succ j ih =>
  intro k i d hi hk hd
  obtain ⟨k, rfl⟩ : ∃ m, k = m + 1 := ⟨k - 1, by omega⟩
  have hgi : goodB (l.getD i z64) = true := by
   rw [List.getD_eq_getElem?_getD, List.getElem?_eq_getElem (by omega)]
   exact hg _ (List.getElem_mem _)
  have hs := entB_size _ hgi
  rw [audit_chain.l0, if_pos (by omega), if_pos (by omega), if_pos (by omega), rd_nat, bytes_some _ hgi k (by omega), Option.bind_some, mac_Seal.some_ _ _ (by omega) (by omega), Option.bind_some, inc_nat i (by omega), ih k (i + 1) _ (by omega) (by omega) (by rw [sealP_size]; decide), drop_getD l i (by omega)]
  rfl
theorem chain_some (d : ByteArray) (l : List S64) (hl : l.length ≤ 1000) (hg : ∀ e ∈ l, goodB e = true) (hd : d.size ≤ 1000000) (k : Nat) (hk : l.length + 11 ≤ k) : audit_chain.f k d l = some (chainP d l) := by
 have := chain_l0 l hl hg l.length k 0 d (by omega) (by omega) hd
 rw [show ((0 : Nat) : Int) = 0 from rfl, List.drop_zero] at this
 exact this
theorem may_good {a : ByteArray} {n : Int} {l : List S64} (h : mayB a n l = true) : ∀ e ∈ l, goodB e = true := by
 intro e he
 obtain ⟨i, hi, rfl⟩ := List.mem_iff_getElem.1 he
 have := (((mayB_iff a n l).1 h).2 i hi).1
 rwa [List.getD_eq_getElem?_getD, List.getElem?_eq_getElem hi] at this
def digestA (a : ByteArray) (n : Int) (l : List S64) : ByteArray := if mayB a n l = true then chainP a l else ⟨#[]⟩
theorem digest_some (a : ByteArray) (n : Int) (l : List S64) (hl : l.length ≤ 1000) (k : Nat) (hk : l.length + 11 ≤ k) : audit_Digest.f k a n l = some (digestA a n l) := by
 unfold audit_Digest.f digestA
 rw [may_some a n l hl k (by omega), Option.bind_some]
 by_cases h : mayB a n l = true
 ·rw [if_pos h, if_pos h, chain_some a l hl (may_good h) (by have := ((mayB_iff a n l).1 h).1.1; omega) k hk]
  rfl
 ·rw [if_neg h, if_neg h]
/-- Do two entries differ? -/
def neS (x y : S64) : Bool := !(x.f0 == y.f0) || (!(x.f1 == y.f1) || (!(x.f2 == y.f2) || (!(x.f3.toList == y.f3.toList) || !(x.f4 == y.f4))))
theorem bytes_toList_inj {s t : ByteArray} (h : s.toList = t.toList) : s = t := by
 rw [ByteArray.toList_eq, ByteArray.toList_eq] at h
 exact ByteArray.ext (Array.toList_inj.mp h)
theorem neS_iff (x y : S64) : neS x y = false ↔ x = y := by
 unfold neS
 constructor
 ·intro h
  simp only [Bool.or_eq_false_iff, Bool.not_eq_false', beq_iff_eq] at h
  obtain ⟨h0, h1, h2, h3, h4⟩ := h
  cases x
  cases y
  simp only at h0 h1 h2 h3 h4
  rw [h0, h1, h2, h4, bytes_toList_inj h3]
 ·rintro rfl
  simp
/-- small answers; what it lets in. -/
theorem small_l0 (a : ByteArray) (n : Int) (l : List S64) (hl : l.length ≤ 1000) : ∀ (d k i : Nat), i + d = l.length → d < k → ∃ b, strongroomlaw13_small.l0 k (i : Int) a n l = some b ∧ (b = true → ∀ j, i ≤ j → j < l.length → (l.getD j z64).f3.size ≤ 1000) := by
 intro d
 induction d with
 | zero =>
  intro k i hi hk
  obtain ⟨k, rfl⟩ : ∃ m, k = m + 1 := ⟨k - 1, by omega⟩
  rw [strongroomlaw13_small.l0, if_neg (by omega)]
  exact ⟨true, rfl, fun _ j h1 h2 => by omega⟩
 | succ d ih =>
  intro k i hi hk
  obtain ⟨k, rfl⟩ : ∃ m, k = m + 1 := ⟨k - 1, by omega⟩
  rw [strongroomlaw13_small.l0, if_pos (by omega), if_pos (by omega), rd_nat, inc_nat i (by omega)]
  by_cases hs : ((l.getD i z64).f3.size : Int) > 1000
  ·rw [if_pos hs]
   exact ⟨false, rfl, fun h => by cases h⟩
  ·rw [if_neg hs]
   obtain ⟨b, hb, h⟩ := ih k (i + 1) (by omega) (by omega)
   refine ⟨b, hb, fun ht j h1 h2 => ?_⟩
   by_cases e : j = i
   ·subst e; omega
   ·exact h ht j (by omega) h2
theorem small_some (a : ByteArray) (n : Int) (l : List S64) (k : Nat) (hk : 60 ≤ k) : ∃ b, strongroomlaw13_small.f k a n l = some b ∧ (b = true → l.length ≤ 40 ∧ a.size ≤ 1000 ∧ ∀ j, j < l.length → (l.getD j z64).f3.size ≤ 1000) := by
 obtain ⟨k, rfl⟩ : ∃ m, k = m + 1 := ⟨k - 1, by omega⟩
 unfold strongroomlaw13_small.f
 by_cases h1 : (l.length : Int) > 40
 ·rw [if_pos h1, strongroomlaw13_small.j0, if_pos rfl]
  exact ⟨false, rfl, fun h => by cases h⟩
 ·rw [if_neg h1, strongroomlaw13_small.j0]
  by_cases h2 : (a.size : Int) > 1000
  ·rw [decide_eq_true h2, if_pos rfl]
   exact ⟨false, rfl, fun h => by cases h⟩
  ·rw [decide_eq_false h2, if_neg (by decide)]
   obtain ⟨b, hb, h⟩ := small_l0 a n l (by omega) l.length k 0 (by omega) (by omega)
   exact ⟨b, hb, fun ht => ⟨by omega, by omega, fun j hj => h ht j (by omega) hj⟩⟩
end Go.Proofs.Ytcdnmlfnfhoieaa.A

/- audit.Follows, plainly. Conditions: at most 1000 entries each. -/
namespace Go.Proofs.Ytcdnmlfnfhoieaa.A
open Go.RowKit Go.Proofs.YtcdnmlfnfhoieaaW.PrintWords Go.Proofs.YtcdnmlfnfhoieaaW.PrintLast Go.Proofs.YtcdnmlfnfhoieaaW.PrintMore Go.Proofs.Ytcdnmlfnfhoieaa.Bs
set_option linter.unusedVariables false
set_option linter.unusedSimpArgs false
def stayB (first : Int) (l m : List S64) (i : Nat) : Bool := decide ((l.getD i z64).f0 < first) || !neS (m.getD ((l.getD i z64).f0 - first).toNat z64) (l.getD i z64)
def followsB (a : ByteArray) (n : Int) (l : List S64) (b : ByteArray) (p : Int) (m : List S64) : Bool :=
 decide (mayB a n l = true ∧ mayB b p m = true ∧ n ≤ p) && ((List.range' 0 l.length).all (stayB (p - m.length + 1) l m) && (decide (n < p - m.length) || ((chainP a l).toList == (chainP b (m.take (n - (p - m.length)).toNat)).toList)))
theorem follows_l0 {a b : ByteArray} {n p : Int} {l m : List S64} (ha : mayB a n l = true) (hb : mayB b p m = true) (hnp : n ≤ p) : ∀ (d k i : Nat), i + d = l.length → d + 25 < k →
  audit_Follows.l0 k (p - m.length + 1) l (l.length : Int) (i : Int) a n l b p m = some ((List.range' i d).all (stayB (p - m.length + 1) l m) && (decide (n < p - m.length) || ((chainP a l).toList == (chainP b (m.take (n - (p - m.length)).toNat)).toList))) := by
 have hA := (mayB_iff a n l).1 ha
 have hB := (mayB_iff b p m).1 hb
 have hA4 := hA.1.2.2.2
 have hB4 := hB.1.2.2.2
 rw [mn8] at hA4 hB4
 have hl8 : l.length ≤ 8 := by split at hA4 <;> omega
 have hm8 : m.length ≤ 8 ∧ (m.length : Int) ≤ p := by split at hB4 <;> omega
 intro d
 induction d with
 | zero =>
  intro k i hi hk
  obtain ⟨k, rfl⟩ : ∃ m, k = m + 1 := ⟨k - 1, by omega⟩
  have e1 : wrap64 (p - m.length + 1 - 1) = p - m.length := by rw [wrap64_id _ (by omega) (by omega)]; omega
  have e2 : wrap64 (wrap64 (n - (p - m.length + 1)) + 1) = n - (p - m.length) := by rw [wrap64_id (n - (p - m.length + 1)) (by omega) (by omega), wrap64_id _ (by omega) (by omega)]; omega
  rw [audit_Follows.l0, if_neg (by omega), e1, e2]
  rw [show List.range' i 0 = [] from rfl, List.all_nil, Bool.true_and]
  by_cases hlt : n < p - m.length
  ·rw [if_pos hlt, decide_eq_true hlt, Bool.true_or]
  ·rw [if_neg hlt, decide_eq_false hlt, Bool.false_or, digest_some a n l (by omega) k (by omega), Option.bind_some, if_pos (by omega), if_pos (by omega), chain_some b _ (by rw [List.length_take]; omega) (fun e he => may_good hb e (List.mem_of_mem_take he)) (by omega) k (by rw [List.length_take]; omega), Option.bind_some, digestA, if_pos ha]
 | succ d ih =>
  intro k i hi hk
  obtain ⟨k, rfl⟩ : ∃ m, k = m + 1 := ⟨k - 1, by omega⟩
  have hs := (hA.2 i (by omega)).2
  rw [audit_Follows.l0, if_pos (by omega), if_pos (by omega), if_pos (by omega), rd_nat, inc_nat i (by omega), ih k (i + 1) (by omega) (by omega), List.range'_succ, List.all_cons]
  obtain ⟨e, he⟩ : ∃ e, l.getD i z64 = e := ⟨_, rfl⟩
  have hst : stayB (p - m.length + 1) l m i = (decide (e.f0 < p - m.length + 1) || !neS (m.getD (e.f0 - (p - m.length + 1)).toNat z64) e) := by rw [stayB, he]
  rw [hst, he]
  rw [he] at hs
  by_cases hf : e.f0 ≥ p - m.length + 1
  ·have ew : wrap64 (e.f0 - (p - m.length + 1)) = (((e.f0 - (p - m.length + 1)).toNat : Nat) : Int) := by rw [wrap64_id _ (by omega) (by omega)]; omega
   rw [if_pos hf, ew, if_pos (by omega), if_pos (by omega), rd_nat, decide_eq_false (show ¬ e.f0 < p - m.length + 1 by omega), Bool.false_or]
   obtain ⟨x, hx⟩ : ∃ x, m.getD (e.f0 - (p - m.length + 1)).toNat z64 = x := ⟨_, rfl⟩
   rw [hx]
   have en : (!(x.f0 == e.f0) || (!(x.f1 == e.f1) || (!(x.f2 == e.f2) || (!(x.f3.toList == e.f3.toList) || !(x.f4 == e.f4))))) = neS x e := rfl
   rw [en]
   cases hne : neS x e with
   | true => rw [if_pos rfl]; rfl
   | false => rw [if_neg (by decide)]; rfl
  ·rw [if_neg hf, decide_eq_true (show e.f0 < p - m.length + 1 by omega)]
   rfl
theorem follows_some (a b : ByteArray) (n p : Int) (l m : List S64) (hl : l.length ≤ 1000) (hm : m.length ≤ 1000) (k : Nat) (hk : 1100 ≤ k) : audit_Follows.f k a n l b p m = some (followsB a n l b p m) := by
 obtain ⟨k, rfl⟩ : ∃ m, k = m + 1 := ⟨k - 1, by omega⟩
 have hf : ¬ (mayB a n l = true ∧ mayB b p m = true ∧ n ≤ p) → followsB a n l b p m = false := fun h => by rw [followsB, decide_eq_false h]; rfl
 unfold audit_Follows.f
 rw [may_some a n l hl _ (by omega), Option.bind_some]
 by_cases ha : mayB a n l = true
 ·rw [if_pos ha, may_some b p m hm _ (by omega), Option.bind_some]
  by_cases hb : mayB b p m = true
  ·rw [if_pos hb]
   by_cases hnp : n > p
   ·rw [decide_eq_true hnp, audit_Follows.j0, if_pos rfl, hf (fun h => by omega)]
   ·have hB := (mayB_iff b p m).1 hb
    have e1 : wrap64 (wrap64 (p - (m.length : Int)) + 1) = p - m.length + 1 := by rw [wrap64_id (p - (m.length : Int)) (by omega) (by omega), wrap64_id _ (by omega) (by omega)]
    rw [decide_eq_false hnp, audit_Follows.j0, if_neg (by decide), e1]
    have hA4 := ((mayB_iff a n l).1 ha).1.2.2.2
    rw [mn8] at hA4
    have := follows_l0 ha hb (by omega) l.length k 0 (by omega) (by split at hA4 <;> omega)
    rw [show ((0 : Nat) : Int) = 0 from rfl] at this
    rw [this, followsB, decide_eq_true (show mayB a n l = true ∧ mayB b p m = true ∧ n ≤ p from ⟨ha, hb, by omega⟩), Bool.true_and]
  ·rw [if_neg hb, audit_Follows.j0, if_pos rfl, hf (fun h => hb h.2.1)]
 ·rw [if_neg ha, audit_Follows.j0, if_pos rfl, hf (fun h => ha h.1)]
end Go.Proofs.Ytcdnmlfnfhoieaa.A

namespace Go.Proofs.Ytcdnmlfnfhoieaa.A
open Go.RowKit Go.Proofs.YtcdnmlfnfhoieaaW.PrintWords Go.Proofs.YtcdnmlfnfhoieaaW.PrintLast Go.Proofs.YtcdnmlfnfhoieaaW.PrintMore
attribute [local go_sem] max2_int min2_int max_two min_two max_three min_three max_four min_four
set_option linter.unusedVariables false
set_option linter.unusedSimpArgs false
attribute [local go_sem high] eqA64
/-! ### strongroomref13_Same: function 36 -/
end Go.Proofs.Ytcdnmlfnfhoieaa.A

/- strongroomref13's May and Same, plainly. Conditions: at most 1000 entries. -/
namespace Go.Proofs.Ytcdnmlfnfhoieaa.A
open Go.RowKit Go.Proofs.YtcdnmlfnfhoieaaW.PrintWords Go.Proofs.YtcdnmlfnfhoieaaW.PrintLast Go.Proofs.YtcdnmlfnfhoieaaW.PrintMore Go.Proofs.Ytcdnmlfnfhoieaa.Bs
set_option linter.unusedVariables false
set_option linter.unusedSimpArgs false
theorem refgood_some (e : S64) : strongroomref13_Good.f e.f0 e.f1 e.f2 e.f3 e.f4 = some (goodB e) := by
 rw [← good_some]
 unfold strongroomref13_Good.f audit_good.f
 by_cases h1 : e.f0 < 1
 ·rw [if_pos h1, if_neg (by omega)]
 ·rw [if_neg h1, if_pos (by omega : e.f0 ≥ 1)]
  by_cases h2 : e.f0 > 2147483648
  ·rw [if_pos h2, if_neg (by omega)]
  ·rw [if_neg h2, if_pos (by omega : e.f0 ≤ 2147483648)]
   by_cases h3 : e.f1 < 0
   ·rw [if_pos h3, if_neg (by omega)]
   ·rw [if_neg h3, if_pos (by omega : e.f1 ≥ 0)]
    by_cases h4 : e.f1 > 1099511627776
    ·rw [if_pos h4, if_neg (by omega)]
    ·rw [if_neg h4, if_pos (by omega : e.f1 ≤ 1099511627776)]
theorem refmay_l0 (a : ByteArray) (n : Int) (l : List S64) (hl : l.length ≤ 1000) (hn0 : 0 ≤ n) (hn : n ≤ 2147483648) : ∀ (d k i : Nat), i + d = l.length → d < k → strongroomref13_May.l0 k (l.length : Int) (i : Int) a n l = some ((List.range' i d).all (seqB n l)) := by
 intro d
 induction d with
 | zero =>
  intro k i hi hk
  obtain ⟨k, rfl⟩ : ∃ m, k = m + 1 := ⟨k - 1, by omega⟩
  rw [strongroomref13_May.l0, if_neg (by omega)]
  rfl
 | succ d ih =>
  intro k i hi hk
  obtain ⟨k, rfl⟩ : ∃ m, k = m + 1 := ⟨k - 1, by omega⟩
  rw [strongroomref13_May.l0, if_pos (by omega), if_pos (by omega), if_pos (by omega), rd_nat, refgood_some, Option.bind_some, List.range'_succ, List.all_cons]
  have e1 : wrap64 (n - (l.length : Int)) = n - l.length := wrap64_id _ (by omega) (by omega)
  have e2 : wrap64 (n - (l.length : Int) + 1) = n - l.length + 1 := wrap64_id _ (by omega) (by omega)
  have e3 : wrap64 (n - (l.length : Int) + 1 + i) = n - l.length + i + 1 := by rw [wrap64_id _ (by omega) (by omega)]; omega
  rw [e1, e2, e3, inc_nat i (by omega)]
  cases hg : goodB (l.getD i z64) with
  | false => rw [if_neg (by decide), seqB, hg]; rfl
  | true =>
   rw [if_pos rfl]
   by_cases hs : (l.getD i z64).f0 = n - l.length + i + 1
   ·rw [if_pos hs, ih k (i + 1) (by omega) (by omega), seqB, hg, decide_eq_true hs]
    rfl
   ·rw [if_neg hs, seqB, hg, decide_eq_false hs]
    rfl
theorem refmay_some (a : ByteArray) (n : Int) (l : List S64) (hl : l.length ≤ 1000) (k : Nat) (hk : l.length + 4 ≤ k) : strongroomref13_May.f k a n l = some (mayB a n l) := by
 obtain ⟨k, rfl⟩ : ∃ m, k = m + 1 := ⟨k - 1, by omega⟩
 have hf : ∀ p : Prop, [Decidable p] → ¬ p → (decide p && (List.range' 0 l.length).all (seqB n l)) = false := fun p _ hp => by rw [decide_eq_false hp]; rfl
 have hj1 : ∀ x : Int, x = mn n 8 → 0 ≤ n → n ≤ 2147483648 → a.size = 32 → strongroomref13_May.j1 k x a n l = some (decide (a.size = 32 ∧ 0 ≤ n ∧ n ≤ 2147483648 ∧ (l.length : Int) = mn n 8) && (List.range' 0 l.length).all (seqB n l)) := by
  intro x hx h0 h1 h2
  obtain ⟨k, rfl⟩ : ∃ m, k = m + 1 := ⟨k - 1, by omega⟩
  subst hx
  rw [strongroomref13_May.j1]
  by_cases h4 : (l.length : Int) = mn n 8
  ·rw [if_pos h4, ← h4]
   have := refmay_l0 a n l hl h0 h1 l.length k 0 (by omega) (by omega)
   rw [show ((0 : Nat) : Int) = 0 from rfl] at this
   rw [this, decide_eq_true ⟨h2, h0, h1, rfl⟩, Bool.true_and]
  ·rw [if_neg h4, hf _ (fun h => h4 h.2.2.2)]
 unfold strongroomref13_May.f mayB
 by_cases h1 : (a.size : Int) = 32
 ·rw [if_pos h1]
  by_cases h2 : n < 0
  ·rw [if_pos h2, strongroomref13_May.j0, if_pos rfl, hf _ (by omega)]
  ·rw [if_neg h2]
   by_cases h3 : n > 2147483648
   ·rw [decide_eq_true h3, strongroomref13_May.j0, if_pos rfl, hf _ (by omega)]
   ·rw [decide_eq_false h3, strongroomref13_May.j0, if_neg (by decide)]
    by_cases h5 : n > 8
    ·rw [if_pos h5, hj1 8 (by rw [mn8, if_neg (by omega)]) (by omega) (by omega) (by omega)]
    ·rw [if_neg h5, hj1 n (by rw [mn8]; split <;> omega) (by omega) (by omega) (by omega)]
 ·rw [if_neg h1, strongroomref13_May.j0, if_pos rfl, hf _ (by omega)]
instance : DecidableEq S64 := fun x y => if h : neS x y = false then isTrue ((neS_iff x y).1 h) else isFalse (fun e => h ((neS_iff x y).2 e))
end Go.Proofs.Ytcdnmlfnfhoieaa.A

/- strongroomref13's Chain and Follows, plainly. Conditions: at most 1000 entries each. -/
namespace Go.Proofs.Ytcdnmlfnfhoieaa.A
open Go.RowKit Go.Proofs.YtcdnmlfnfhoieaaW.PrintWords Go.Proofs.YtcdnmlfnfhoieaaW.PrintLast Go.Proofs.YtcdnmlfnfhoieaaW.PrintMore Go.Proofs.Ytcdnmlfnfhoieaa.Bs
set_option linter.unusedVariables false
set_option linter.unusedSimpArgs false
theorem rdOf_nat (l : List ByteArray) (i : Nat) : rdOf ByteArray.empty l (i : Int) = l.getD i ByteArray.empty := by
 unfold rdOf
 rw [Int.toNat_natCast]
theorem chain3_some (d : ByteArray) (hd : d.size ≤ 1000) : ∀ (m : Nat) (P : List ByteArray), P.length = m → m ≤ 1000 → (∀ x ∈ P, x.size ≤ 1000) → ∀ k, m < k → strongroomref03_Chain.f k d P = some (P.foldl sealP d) := by
 intro m
 induction m with
 | zero =>
  intro P hP _ _ k hk
  obtain ⟨k, rfl⟩ : ∃ m, k = m + 1 := ⟨k - 1, by omega⟩
  have : P = [] := List.eq_nil_of_length_eq_zero hP
  subst this
  rfl
 | succ m ih =>
  intro P hP hm hx k hk
  obtain ⟨k, rfl⟩ : ∃ m, k = m + 1 := ⟨k - 1, by omega⟩
  have e1 : wrap64 ((P.length : Int) - 1) = (m : Int) := by rw [wrap64_id _ (by omega) (by omega)]; omega
  have hs : P = P.take m ++ [P.getD m ByteArray.empty] := by
   have h := List.take_succ_eq_append_getElem (l := P) (i := m) (by omega)
   rw [List.take_of_length_le (by omega)] at h
   rw [List.getD_eq_getElem?_getD, List.getElem?_eq_getElem (by omega)]
   exact h
  have hsz : ((P.take m).foldl sealP d).size ≤ 1000 := by
   have : ∀ (Q : List ByteArray) (d : ByteArray), d.size ≤ 1000 → (Q.foldl sealP d).size ≤ 1000 := by
    intro Q
    induction Q with
    | nil => intro d h; exact h
    | cons q Q ih => intro d _; exact ih _ (by rw [sealP_size]; decide)
   exact this _ _ hd
  have hl : (P.getD m ByteArray.empty).size ≤ 1000 := hx _ (by rw [List.getD_eq_getElem?_getD, List.getElem?_eq_getElem (by omega)]; exact List.getElem_mem _)
  rw [strongroomref03_Chain.f, if_neg (by omega), e1, if_pos (by omega), if_pos (by omega), Int.toNat_natCast, ih _ (by rw [List.length_take]; omega) (by omega) (fun x h => hx x (List.mem_of_mem_take h)) k (by omega), Option.bind_some, if_pos (by omega), rdOf_nat, strongroomref03_Seal.some_ _ _ (by omega) (by omega), Option.bind_some]
  conv => rhs; rw [hs]
  rw [List.foldl_append]
  rfl
theorem chainP_fold : ∀ (l : List S64) (d : ByteArray), (l.map entB).foldl sealP d = chainP d l
 | [], _ => rfl
 | e :: l, d => chainP_fold l (sealP d (entB e))
theorem refchain_l0 (d : ByteArray) (hd : d.size ≤ 1000) (l : List S64) (hg : ∀ e ∈ l, goodB e = true) (hl : l.length ≤ 1000) : ∀ (m i k : Nat), i + m = l.length → m + l.length + 20 < k → strongroomref13_Chain.l0 k d l ((l.take i).map entB) (i : Int) = some (chainP d l) := by
 intro m
 induction m with
 | zero =>
  intro i k hi hk
  obtain ⟨k, rfl⟩ : ∃ m, k = m + 1 := ⟨k - 1, by omega⟩
  rw [strongroomref13_Chain.l0, if_neg (by omega), List.take_of_length_le (by omega), chain3_some d hd l.length _ (by rw [List.length_map]) hl (fun x hx => by
   obtain ⟨e, he, rfl⟩ := List.mem_map.1 hx
   have := entB_size e (hg e he)
   omega) k (by omega), Option.bind_some, chainP_fold]
 | succ m ih =>
  intro i k hi hk
  obtain ⟨k, rfl⟩ : ∃ m, k = m + 1 := ⟨k - 1, by omega⟩
  have hs : l.take (i + 1) = l.take i ++ [l.getD i z64] := by
   have h := List.take_succ_eq_append_getElem (l := l) (i := i) (by omega)
   rw [List.getD_eq_getElem?_getD, List.getElem?_eq_getElem (by omega)]
   exact h
  have hgi : goodB (l.getD i z64) = true := hg _ (by rw [List.getD_eq_getElem?_getD, List.getElem?_eq_getElem (by omega)]; exact List.getElem_mem _)
  have hi1 := ih (i + 1) k (by omega) (by omega)
  rw [hs, List.map_append] at hi1
  rw [strongroomref13_Chain.l0, if_pos (by omega), if_pos (by omega), rd_nat, refbytes_some _ hgi k (by omega), Option.bind_some, if_pos (by rw [List.length_map, List.length_take]; omega), inc_nat i (by omega)]
  exact hi1
theorem refchain_some (d : ByteArray) (l : List S64) (hl : l.length ≤ 1000) (hg : ∀ e ∈ l, goodB e = true) (hd : d.size ≤ 1000) (k : Nat) (hk : 2 * l.length + 20 < k) : strongroomref13_Chain.f k d l = some (chainP d l) :=
 refchain_l0 d hd l hg hl l.length 0 k (by omega) (by omega)
def okB (l m : List S64) (i j : Nat) : Bool := !decide ((l.getD i z64).f0 = (m.getD j z64).f0) || !neS (l.getD i z64) (m.getD j z64)
theorem reff_l1 (a b : ByteArray) (n p : Int) (l m : List S64) (hl : l.length ≤ 1000) (hm : m.length ≤ 1000) (i : Nat) (hi : i < l.length) : ∀ (d K j : Nat), j + d = m.length →
  strongroomref13_Follows.l1 (K + d + 1) (i : Int) (j : Int) a n l b p m = if (List.range' j d).all (okB l m i) = true then strongroomref13_Follows.l0 K ((i + 1 : Nat) : Int) a n l b p m else some false := by
 intro d
 induction d with
 | zero =>
  intro K j hj
  rw [strongroomref13_Follows.l1, if_neg (by omega), inc_nat i (by omega), if_pos (by rfl)]
 | succ d ih =>
  intro K j hj
  obtain ⟨x, hx⟩ : ∃ x, l.getD i z64 = x := ⟨_, rfl⟩
  obtain ⟨y, hy⟩ : ∃ y, m.getD j z64 = y := ⟨_, rfl⟩
  have hok : okB l m i j = (!decide (x.f0 = y.f0) || !neS x y) := by rw [okB, hx, hy]
  have en : (!(x.f0 == y.f0) || (!(x.f1 == y.f1) || (!(x.f2 == y.f2) || (!(x.f3.toList == y.f3.toList) || !(x.f4 == y.f4))))) = neS x y := rfl
  rw [show K + (d + 1) + 1 = (K + d + 1) + 1 by omega, strongroomref13_Follows.l1, if_pos (by omega), if_pos (by omega), if_pos (by omega), if_pos (by omega), rd_nat, rd_nat, hx, hy, inc_nat j (by omega), ih K (j + 1) (by omega), List.range'_succ, List.all_cons, hok, en]
  by_cases hf : x.f0 = y.f0
  ·rw [if_pos hf, decide_eq_true hf]
   cases neS x y with
   | true => rw [if_pos rfl]; rfl
   | false => rw [if_neg (by decide)]; rfl
  ·rw [if_neg hf, decide_eq_false hf]
   rfl
theorem reff_l0 (a b : ByteArray) (n p : Int) (l m : List S64) (hl : l.length ≤ 1000) (hm : m.length ≤ 1000) : ∀ (d K i : Nat), i + d = l.length →
  strongroomref13_Follows.l0 (K + d * (m.length + 2) + 1) (i : Int) a n l b p m = if (List.range' i d).all (fun i => (List.range' 0 m.length).all (okB l m i)) = true then strongroomref13_Follows.l2 K 0 a n l b p m else some false := by
 intro d
 induction d with
 | zero =>
  intro K i hi
  rw [Nat.zero_mul, Nat.add_zero, strongroomref13_Follows.l0, if_neg (by omega), if_pos (by rfl)]
 | succ d ih =>
  intro K i hi
  have h1 := reff_l1 a b n p l m hl hm i (by omega) m.length (K + d * (m.length + 2) + 1) 0 (by omega)
  rw [show K + (d + 1) * (m.length + 2) + 1 = (K + d * (m.length + 2) + 1 + m.length + 1) + 1 by rw [Nat.succ_mul]; omega, strongroomref13_Follows.l0, if_pos (by omega)]
  rw [show ((0 : Nat) : Int) = 0 from rfl] at h1
  rw [h1, ih K (i + 1) (by omega), List.range'_succ, List.all_cons]
  cases (List.range' 0 m.length).all (okB l m i) with
  | true => rw [if_pos rfl, Bool.true_and]
  | false => rw [if_neg (by decide), Bool.false_and, if_neg (by decide)]
theorem reff_l2 {a b : ByteArray} {n p : Int} {l m : List S64} (ha : mayB a n l = true) (hb : mayB b p m = true) (hnp : n ≤ p) : ∀ (d K j : Nat), j + d = m.length + 1 → d + 50 < K →
  strongroomref13_Follows.l2 K (j : Int) a n l b p m = some (decide (n < p - m.length + j) || ((chainP a l).toList == (chainP b (m.take (n - (p - m.length)).toNat)).toList)) := by
 have hA := (mayB_iff a n l).1 ha
 have hB := (mayB_iff b p m).1 hb
 have hA4 := hA.1.2.2.2
 have hB4 := hB.1.2.2.2
 rw [mn8] at hA4 hB4
 have hl8 : l.length ≤ 8 := by split at hA4 <;> omega
 have hm8 : m.length ≤ 8 ∧ (m.length : Int) ≤ p := by split at hB4 <;> omega
 have hga : ∀ e ∈ l, goodB e = true := fun e he => may_good ha e he
 have hgb : ∀ e ∈ m, goodB e = true := fun e he => may_good hb e he
 intro d
 induction d with
 | zero =>
  intro K j hj hk
  obtain ⟨K, rfl⟩ : ∃ m, K = m + 1 := ⟨K - 1, by omega⟩
  rw [strongroomref13_Follows.l2, if_neg (by omega), decide_eq_true (by omega), Bool.true_or]
 | succ d ih =>
  intro K j hj hk
  obtain ⟨K, rfl⟩ : ∃ m, K = m + 1 := ⟨K - 1, by omega⟩
  have e1 : wrap64 (wrap64 (p - (m.length : Int)) + (j : Int)) = p - m.length + j := by rw [wrap64_id (p - (m.length : Int)) (by omega) (by omega), wrap64_id _ (by omega) (by omega)]
  rw [strongroomref13_Follows.l2, if_pos (by omega), e1]
  by_cases he : p - m.length + j = n
  ·have ej : (n - (p - m.length)).toNat = j := by omega
   rw [if_pos he, refchain_some a l (by omega) hga (by omega) K (by omega), Option.bind_some, if_pos (by omega), Int.toNat_natCast, refchain_some b _ (by rw [List.length_take]; omega) (fun e h => hgb e (List.mem_of_mem_take h)) (by omega) K (by rw [List.length_take]; omega), Option.bind_some, decide_eq_false (by omega), Bool.false_or, ej]
  ·rw [if_neg he, inc_nat j (by omega), ih K (j + 1) (by omega) (by omega)]
   congr 2
   exact decide_eq_decide.2 (by omega)
theorem ok_stay {a b : ByteArray} {n p : Int} {l m : List S64} (ha : mayB a n l = true) (hb : mayB b p m = true) (hnp : n ≤ p) : (List.range' 0 l.length).all (fun i => (List.range' 0 m.length).all (okB l m i)) = (List.range' 0 l.length).all (stayB (p - m.length + 1) l m) := by
 have hA := (mayB_iff a n l).1 ha
 have hB := (mayB_iff b p m).1 hb
 rw [Bool.eq_iff_iff, List.all_eq_true, List.all_eq_true]
 refine forall_congr' fun i => forall_congr' fun hi => ?_
 have hi := List.mem_range'_1.1 hi
 have hs := (hA.2 i (by omega)).2
 rw [List.all_eq_true, stayB, Bool.or_eq_true, decide_eq_true_iff, Bool.not_eq_true', neS_iff]
 constructor
 ·intro h
  by_cases hlt : (l.getD i z64).f0 < p - m.length + 1
  ·exact .inl hlt
  ·refine .inr ?_
   obtain ⟨j, hj⟩ : ∃ j : Nat, ((l.getD i z64).f0 - (p - m.length + 1)).toNat = j := ⟨_, rfl⟩
   rw [hj]
   have hjm : j < m.length := by omega
   have h1 := h j (List.mem_range'_1.2 ⟨by omega, by omega⟩)
   have h2 := (hB.2 j hjm).2
   rw [okB, Bool.or_eq_true, Bool.not_eq_true', Bool.not_eq_true', decide_eq_false_iff_not, neS_iff] at h1
   rcases h1 with h1 | h1
   ·exact absurd (by omega) h1
   ·exact h1.symm
 ·intro h j hj
  have hj := List.mem_range'_1.1 hj
  have h2 := (hB.2 j (by omega)).2
  rw [okB, Bool.or_eq_true, Bool.not_eq_true', Bool.not_eq_true', decide_eq_false_iff_not, neS_iff]
  by_cases hf : (l.getD i z64).f0 = (m.getD j z64).f0
  ·refine .inr ?_
   rcases h with h | h
   ·omega
   ·rw [show ((l.getD i z64).f0 - (p - m.length + 1)).toNat = j by omega] at h
    exact h.symm
  ·exact .inl hf
theorem reffollows_some (a b : ByteArray) (n p : Int) (l m : List S64) (hl : l.length ≤ 1000) (hm : m.length ≤ 1000) (k : Nat) (hk : 1500 ≤ k) : strongroomref13_Follows.f k a n l b p m = some (followsB a n l b p m) := by
 obtain ⟨k, rfl⟩ : ∃ m, k = m + 1 := ⟨k - 1, by omega⟩
 have hf : ¬ (mayB a n l = true ∧ mayB b p m = true ∧ n ≤ p) → followsB a n l b p m = false := fun h => by rw [followsB, decide_eq_false h]; rfl
 unfold strongroomref13_Follows.f
 rw [refmay_some a n l hl _ (by omega), Option.bind_some]
 by_cases ha : mayB a n l = true
 ·rw [if_pos ha, refmay_some b p m hm _ (by omega), Option.bind_some]
  by_cases hb : mayB b p m = true
  ·rw [if_pos hb]
   by_cases hnp : n > p
   ·rw [decide_eq_true hnp, strongroomref13_Follows.j0, if_pos rfl, hf (fun h => by omega)]
   ·have hA4 := ((mayB_iff a n l).1 ha).1.2.2.2
    have hB4 := ((mayB_iff b p m).1 hb).1.2.2.2
    rw [mn8] at hA4 hB4
    have hl8 : l.length ≤ 8 := by split at hA4 <;> omega
    have hm8 : m.length ≤ 8 := by split at hB4 <;> omega
    have hmul : l.length * (m.length + 2) ≤ 80 := Nat.le_trans (Nat.mul_le_mul hl8 (show m.length + 2 ≤ 10 by omega)) (by decide)
    obtain ⟨K, hK⟩ : ∃ K, k = K + l.length * (m.length + 2) + 1 := ⟨k - 1 - l.length * (m.length + 2), by omega⟩
    have h0 := reff_l0 a b n p l m hl hm l.length K 0 (by omega)
    have h2 := reff_l2 ha hb (by omega) (m.length + 1) K 0 (by omega) (by omega)
    rw [show ((0 : Nat) : Int) = 0 from rfl] at h0 h2
    rw [decide_eq_false hnp, strongroomref13_Follows.j0, if_neg (by decide), hK, h0, h2, ok_stay ha hb (by omega), followsB, decide_eq_true (show mayB a n l = true ∧ mayB b p m = true ∧ n ≤ p from ⟨ha, hb, by omega⟩), Bool.true_and]
    cases (List.range' 0 l.length).all (stayB (p - m.length + 1) l m) with
    | true => rw [if_pos rfl, Bool.true_and, Int.add_zero]
    | false => rw [if_neg (by decide), Bool.false_and]
  ·rw [if_neg hb, strongroomref13_Follows.j0, if_pos rfl, hf (fun h => hb h.2.1)]
 ·rw [if_neg ha, strongroomref13_Follows.j0, if_pos rfl, hf (fun h => ha h.1)]
end Go.Proofs.Ytcdnmlfnfhoieaa.A

/- AuditFollows, plainly. No condition. -/
namespace Go.Proofs.Ytcdnmlfnfhoieaa.A
open Go.RowKit Go.Proofs.YtcdnmlfnfhoieaaW.PrintWords Go.Proofs.YtcdnmlfnfhoieaaW.PrintLast Go.Proofs.YtcdnmlfnfhoieaaW.PrintMore Go.Proofs.Ytcdnmlfnfhoieaa.Bs
set_option linter.unusedVariables false
theorem mine_some' (a : ByteArray) (n : Int) (l : List S64) (hl : l.length ≤ 1000) : strongroomlaw13_mine.f a n l = some (a, n, l) := by
 unfold strongroomlaw13_mine.f
 rw [if_pos (by simp; omega)]
 rfl
theorem follows_self (a : ByteArray) (n : Int) (l : List S64) : followsB a n l a n l = mayB a n l := by
 rw [followsB]
 by_cases ha : mayB a n l = true
 ·have hA := (mayB_iff a n l).1 ha
  have hA4 := hA.1.2.2.2
  rw [mn8] at hA4
  rw [decide_eq_true ⟨ha, ha, Int.le_refl _⟩, Bool.true_and, ha, Bool.and_eq_true]
  refine ⟨List.all_eq_true.2 fun i hi => ?_, ?_⟩
  ·have hi := List.mem_range'_1.1 hi
   have hs := (hA.2 i (by omega)).2
   rw [stayB, Bool.or_eq_true, Bool.not_eq_true', neS_iff]
   refine .inr ?_
   rw [show ((l.getD i z64).f0 - (n - l.length + 1)).toNat = i by omega]
  ·rw [Bool.or_eq_true, beq_iff_eq]
   refine .inr ?_
   rw [show (n - (n - (l.length : Int))).toNat = l.length by omega, List.take_length]
 ·rw [decide_eq_false (fun h => ha h.1), Bool.false_and]
  exact (Bool.eq_false_iff.2 ha).symm
theorem auditfollows_pure (a : ByteArray) (n : Int) (l : List S64) (b : ByteArray) (p : Int) (m : List S64) : strongroomlaw13_AuditFollows.f 3000 a n l b p m = some true := by
 have hlv : strongroomlaw13_lives.f = some true := rfl
 have hj : ∀ x, (x = true ∨ (l.length ≤ 40 ∧ m.length ≤ 40)) → strongroomlaw13_AuditFollows.j0 3000 x a n l b p m = some true := by
  intro x hx
  rw [show (3000 : Nat) = 2999 + 1 from rfl, strongroomlaw13_AuditFollows.j0]
  by_cases h : x = true
  ·rw [if_pos h, hlv]
   rfl
  ·obtain ⟨hl, hm⟩ := hx.resolve_left h
   rw [if_neg h, mine_some' a n l (by omega), Option.bind_some, mine_some' b p m (by omega), Option.bind_some]
   simp only []
   rw [follows_some a b n p l m (by omega) (by omega) 2999 (by omega), Option.bind_some, reffollows_some a b n p l m (by omega) (by omega) 2999 (by omega), Option.bind_some, if_pos (by rw [beq_self_eq_true])]
   simp only [Option.bind_some]
   rw [follows_some a a n n l l (by omega) (by omega) 2999 (by omega), refmay_some a n l (by omega) 2999 (by omega), follows_self]
   simp only [Option.bind_some]
   rw [if_pos (by rw [beq_self_eq_true]), hlv]
   rfl
 unfold strongroomlaw13_AuditFollows.f
 obtain ⟨s, hs, h⟩ := small_some a n l 3000 (by decide)
 rw [hs, Option.bind_some]
 by_cases ht : s = true
 ·rw [if_pos ht]
  obtain ⟨s', hs', h'⟩ := small_some b p m 3000 (by decide)
  rw [hs', Option.bind_some]
  cases s' with
  | true => exact hj _ (.inr ⟨(h ht).1, (h' rfl).1⟩)
  | false => exact hj _ (.inl rfl)
 ·rw [if_neg ht]
  exact hj _ (.inl rfl)
end Go.Proofs.Ytcdnmlfnfhoieaa.A

/- What a struct and a list of structs read as, as the walks take it. No condition. -/
namespace Go.Proofs.Ytcdnmlfnfhoieaa.A
open Go.ChangeShapes Go.WideShapes Go.ChangeAt Go.RowKit Go.Joins Go.Deep
open Go.Proofs.YtcdnmlfnfhoieaaW.PrintWords Go.Proofs.YtcdnmlfnfhoieaaW.PrintLast Go.Proofs.YtcdnmlfnfhoieaaW.PrintMore
set_option linter.unusedVariables false
section
variable {H : Type} {enc : TypeId × Value → H} {w : World} {base : Nat} {held : Bool}
/-- A struct of three one-cell fields, by value. -/
theorem open_agg3' {P : Program} {spare : Nat → Bool} {r : Reach} {b0 : Nat} {t : TypeId} {f0 f1 f2 : Field} {v : Value} {d : DataW H} {p : List MemPlace} (hs : P.underlying t = some (.struct #[f0, f1, f2])) (hone : oneCellFields P #[f0, f1, f2] = true) (hC : P.cellsOf t = 3)
  (hv : Value.okWide P w r b0 t v) (h : DataW.Trod enc P w base spare held t v d p) :
  ∃ (v0 v1 v2 : Value) (y0 y1 y2 : DataW H × List MemPlace) (n : Nat), v = .agg #[v0, v1, v2] ∧
   DataW.trod enc P w base spare held n f0.type [v0] = some y0 ∧ DataW.trod enc P w base spare held n f1.type [v1] = some y1 ∧ DataW.trod enc P w base spare held n f2.type [v2] = some y2 := by
 obtain ⟨v0, v1, v2, y0, y1, y2, n, h1, _, _, h2⟩ := Go.Joins.open_agg3 hs hone hC hv h
 exact ⟨v0, v1, v2, y0, y1, y2, n, h1, h2⟩
set_option maxRecDepth 100000 in
/-- A list of entries. -/
theorem open_T64 {n : Nat} {v : Value} {y : DataW H × List MemPlace} (h : DataW.trod enc Try.prog w base (fun _ => true) held n 52 [v] = some y) :
  ∃ (A : Option Addr) (c : Nat) (l : List S64), v = .slice A l.length c ∧ l.length ≤ c ∧ Kd.C k64 w A l.length l := by
 rcases Go.Deep.open_slice Try.underlying52 h with ⟨hcs, _⟩ | ⟨a, len, cap, m, n', D, Pl, hcs, hb, hl, hm, hmm, hx, hall⟩
 ·cases hcs
  exact ⟨none, 0, [], rfl, Nat.le_refl _, rfl, by simp, fun h => absurd h (Nat.lt_irrefl _)⟩
 ·cases hcs
  have hm' : m = cap := by simpa using hmm
  have h5 : Try.prog.cellsOf 64 = 5 := by kernel_rfl
  haveI : Inhabited S64 := ⟨z64⟩
  have each : ∀ i, i < len → ∃ e : S64, ∀ j u, [Value.int .i64 e.f0, .int .i64 e.f1, .int .i64 e.f2, .string e.f3, .int .i64 e.f4][j]? = some u → w.cell? (a.add (i * 5 + j)) = some u := by
   intro i hi
   obtain ⟨cs', h1, h2⟩ := hall i (by omega)
   rw [h5] at h1
   obtain ⟨_, hlen, hcell⟩ := World.cells?_some h1
   obtain ⟨xs, k, hk, hxy, _, hxl, hf⟩ := DataW.trod_struct Try.underlying64 h2
   match xs, hxl, cs', hlen with
   | [y0, y1, y2, y3, y4], _, [v0, v1, v2, v3, v4], _ =>
    have c3 : Try.prog.cellsOf 3 = 1 := by kernel_rfl
    have c9 : Try.prog.cellsOf 9 = 1 := by kernel_rfl
    have c26 : Try.prog.cellsOf 26 = 1 := by kernel_rfl
    have g0 := hf 0 _ rfl
    have g1 := hf 1 _ rfl
    have g2 := hf 2 _ rfl
    have g3 := hf 3 _ rfl
    have g4 := hf 4 _ rfl
    simp [c3, c9, c26] at g0 g1 g2 g3 g4
    obtain ⟨a0, e0, _⟩ := DataW.trod_int Try.underlying3 g0
    obtain ⟨a1, e1, _⟩ := DataW.trod_int Try.underlying3 g1
    obtain ⟨a2, e2, _⟩ := DataW.trod_int Try.underlying3 g2
    obtain ⟨a3, e3, _⟩ := DataW.trod_string Try.underlying9 g3
    obtain ⟨a4, e4, _⟩ := DataW.trod_int Try.underlying26 g4
    cases e0
    cases e1
    cases e2
    cases e3
    cases e4
    refine ⟨⟨a0, a1, a2, a3, a4⟩, fun j u hj => ?_⟩
    have hj5 : j < 5 := by
     rcases Nat.lt_or_ge j 5 with h | h
     ·exact h
     ·rw [List.getElem?_eq_none (by simpa using h)] at hj
      cases hj
    have := hcell j hj5
    rw [Go.Deep.add_add] at this
    rw [this]
    exact hj
  obtain ⟨f, hf⟩ := choose_lt (α := S64) (p := fun i e => ∀ j u, [Value.int .i64 e.f0, .int .i64 e.f1, .int .i64 e.f2, .string e.f3, .int .i64 e.f4][j]? = some u → w.cell? (a.add (i * 5 + j)) = some u) each
  have hlen : ((List.range len).map f).length = len := by simp
  refine ⟨some a, cap, (List.range len).map f, by rw [hlen], by rw [hlen]; exact hl, rfl, ?_, fun _ => ⟨a, rfl, fun j p hj => ?_⟩⟩
  ·rw [hlen]
   simp only [maxLen] at hm
   omega
  ·have hjl : j < len := by
    rcases Nat.lt_or_ge j len with h | h
    ·exact h
    ·rw [List.getElem?_eq_none (by simpa using h)] at hj
     cases hj
   have e : p = f j := by
    rw [List.getElem?_map, List.getElem?_range hjl] at hj
    exact (Option.some.inj hj).symm
   subst e
   exact ⟨_, rfl, k64_mk w (f j), fun i u hi => hf j hjl i u hi⟩
end
end Go.Proofs.Ytcdnmlfnfhoieaa.A

/- AuditFollows, for every two audits: the law answers true, and every argument reads behind the call as before. No condition beyond the row's own. -/
namespace Go.Proofs.Ytcdnmlfnfhoieaa.auditFollows
open Go.ChangeShapes Go.WideShapes Go.ChangeAt Go.RowKit Go.Joins Go.Deep
open Go.ChangeMaps (open_string shut_string)
open Go.Proofs.Ytcdnmlfnfhoieaa.A Go.Proofs.YtcdnmlfnfhoieaaW.PrintWords Go.Proofs.Ytcdnmlfnfhoieaa.Bs
set_option linter.unusedVariables false
theorem own : ownKnob Try.prog.godebug = none := by kernel_rfl
theorem laidOut : laidOutB Try.prog = true := by kernel_rfl
set_option maxRecDepth 100000 in
theorem lifted (os : Os) (started : os.Started) (H : Type) (enc : TypeId × Value → H) :
  ReturnsInHanded {} Try.checked os 11 .any (Rows.auditFollowsSpec.pre6 enc Try.prog Try.f11 Rows.auditFollowsRow.domain false) (Rows.auditFollowsSpec.post enc Try.prog Try.f11 false true false false) := by
 refine returnsInHanded_of_change_sized (C := Try.checked) own started (by kernel_rfl) Try.func11
  (ChangeSpec.witness6 (enc := enc) (C := Try.checked) false ⟨#[], #[.agg #[.string ByteArray.empty, .int .i64 0, .slice none 0 0], .agg #[.string ByteArray.empty, .int .i64 0, .slice none 0 0]], []⟩ 8 (by kernel_rfl) (by kernel_rfl) (by kernel_rfl) (by kernel_rfl)) ?_
 intro W base args ds gs before hval0 hW hcnd hsz0 _
 have hsz : (DataW.weightsEach Try.prog (Try.f11.params.toList ++ Rows.auditFollowsSpec.plain.varTypes Try.prog) (ds ++ gs)).all (· ≤ reachBytes) = true := hsz0
 have hval : ∀ (j : Nat) t v, Try.f11.params[j]? = some t → args[j]? = some v → Value.okWide Try.prog W .any base t v := hval0
 have hW' := hW
 obtain ⟨p, q, hA0, hV, rfl, hfz, hnd⟩ := hW
 have hA : DataW.TrodAll enc Try.prog W 0 (fun _ => true) true Try.f11.params.toList args.toList ds p := hA0
 rw [Try.params11] at hA hval
 obtain ⟨v0, vs0, d0, ds0, p0, q0, hargs, rfl, rfl, h0, r0⟩ := trodAll_cons hA
 obtain ⟨v1, vs1, d1, ds1, p1, q1, rfl, rfl, rfl, h1, r1⟩ := trodAll_cons r0
 obtain ⟨rfl, rfl, rfl⟩ := trodAll_nil r1
 obtain rfl : args = #[v0, v1] := by cases args; simp_all
 obtain ⟨rfl, rfl⟩ := trodVars_none hV
 have k0 := h0
 have lt0 : ∀ x ∈ p0, x.block < W.heap.size := by obtain ⟨m, hm⟩ := k0; exact DataW.trod_lt m _ _ _ hm
 obtain ⟨u0_0, u0_1, u0_2, y0_0, y0_1, y0_2, m0, rfl, t0_0, t0_1, t0_2⟩ := Go.Proofs.Ytcdnmlfnfhoieaa.A.open_agg3' Try.underlying54 (by kernel_rfl) (by kernel_rfl) (hval 0 54 v0 rfl rfl) h0
 obtain ⟨s0, e0_0, _, _⟩ := DataW.trod_string Try.underlying9 t0_0
 obtain ⟨n0, e0_1, _, _⟩ := DataW.trod_int Try.underlying3 t0_1
 cases e0_0
 cases e0_1
 obtain ⟨A0, c0, l0, rfl, hc0, hC0⟩ := open_T64 t0_2
 have k1 := h1
 have lt1 : ∀ x ∈ p1, x.block < W.heap.size := by obtain ⟨m, hm⟩ := k1; exact DataW.trod_lt m _ _ _ hm
 obtain ⟨u1_0, u1_1, u1_2, y1_0, y1_1, y1_2, m1, rfl, t1_0, t1_1, t1_2⟩ := Go.Proofs.Ytcdnmlfnfhoieaa.A.open_agg3' Try.underlying54 (by kernel_rfl) (by kernel_rfl) (hval 1 54 v1 rfl rfl) h1
 obtain ⟨s1, e1_0, _, _⟩ := DataW.trod_string Try.underlying9 t1_0
 obtain ⟨n1, e1_1, _, _⟩ := DataW.trod_int Try.underlying3 t1_1
 cases e1_0
 cases e1_1
 obtain ⟨A1, c1, l1, rfl, hc1, hC1⟩ := open_T64 t1_2
 clear hA0 hval0 hsz0 hsz
 refine (strongroomlaw13_AuditFollows.calls 3000 s0 n0 A0 c0 l0 s1 n1 A1 c1 l1 true W hC0 hc0 hC1 hc1 (auditfollows_pure s0 n0 l0 s1 n1 l1)).mono fun e W' ⟨he, bel⟩ => ?_
 subst he
 exact ⟨_, rfl, _, _, _, [], _, [], hW', trodAll_mk1 (shut_bool Try.underlying4 _), (trodAll_cons_mk (Below.trod laidOut (by kernel_rfl) (of_decide_eq_true (by kernel_rfl)) k0 bel lt0) (trodAll_cons_mk (Below.trod laidOut (by kernel_rfl) (of_decide_eq_true (by kernel_rfl)) k1 bel lt1) trodAll_mk0)), rfl, bel.frame _, fun h => by cases h⟩
theorem over : Rows.auditFollowsRow.holds Try.pinned (OpenSpec.ofChange Rows.auditFollowsSpec) :=
 OpenClaim.holds_of_wide 11 Try.f11 rfl rfl rfl rfl rfl rfl rfl ⟨rfl, rfl, rfl, rfl, rfl⟩ rfl rfl rfl rfl rfl (by kernel_rfl) Try.func11 (by kernel_rfl)
  (of_decide_eq_true (by kernel_rfl)) (by unfold Func.isWrapper; first | (rw [if_pos (by decide +kernel)]; kernel_rfl) | (rw [if_neg (by decide +kernel)]; exact ⟨rfl, rfl⟩))
  (fun os started H enc _ => lifted os started H enc)
theorem proved : Rows.AuditFollowsSaid := over
#print axioms proved
end Go.Proofs.Ytcdnmlfnfhoieaa.auditFollows
namespace Go.Proofs.Ytcdnmlfnfhoieaa
/-- The row, under a short name, for the claim. -/
theorem auditFollows_holds : Rows.AuditFollowsSaid := auditFollows.proved
end Go.Proofs.Ytcdnmlfnfhoieaa
