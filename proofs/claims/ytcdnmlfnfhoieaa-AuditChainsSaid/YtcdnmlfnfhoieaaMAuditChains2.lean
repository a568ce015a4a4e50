/- What the claim's last text reaches, in build order (part 3 of 5): each text's own remark stands at its head. No condition beyond those. -/
import Derived.Test.YtcdnmlfnfhoieaaMSha0
import Derived.Test.YtcdnmlfnfhoieaaMAuditChains0
import Derived.Test.YtcdnmlfnfhoieaaMAuditChains1

/- lives(), the fixed example of layer 13: an audit that goes on by one entry has the entry's seal as its digest; it answers true. No condition. -/
namespace Go.Proofs.Ytcdnmlfnfhoieaa.A
open Go.RowKit Go.Proofs.YtcdnmlfnfhoieaaW.PrintWords Go.Proofs.YtcdnmlfnfhoieaaW.PrintLast Go.Proofs.YtcdnmlfnfhoieaaW.PrintMore Go.Proofs.Ytcdnmlfnfhoieaa.Bs
attribute [local go_sem] max2_int min2_int max_two min_two max_three min_three max_four min_four
set_option linter.unusedVariables false
set_option linter.unusedSimpArgs false

def z32 : ByteArray := strOfNums (List.replicate 32 0)
def bA : ByteArray := ⟨#[97]⟩
def b13 : ByteArray := ⟨#[1, 3, 1, 1, 97, 0]⟩
theorem new_some : audit_New.f = some (z32, 0, []) := by kernel_rfl
theorem bytes_13 : audit_bytes.f 20 1 3 1 bA 0 = some b13 := by kernel_rfl
theorem refbytes_13 : strongroomref13_Bytes.f 20 1 3 1 bA 0 = some b13 := by kernel_rfl
theorem add_13 : audit_Add.f 20 z32 0 [] 0 3 1 bA 0 = some (z32, 1, [⟨1, 3, 1, bA, 0⟩], 0) := by kernel_rfl
theorem may_13 : audit_May.f 20 z32 1 [⟨1, 3, 1, bA, 0⟩] = some true := by kernel_rfl
theorem seal_13 : mac_Seal.f z32 b13 = some (sealP z32 b13) := mac_Seal.some_ z32 b13 (of_decide_eq_true (by kernel_rfl)) (of_decide_eq_true (by kernel_rfl))
theorem digest_13 : audit_Digest.f 20 z32 1 [⟨1, 3, 1, bA, 0⟩] = some (sealP z32 b13) := by
 unfold audit_Digest.f
 rw [may_13, Option.bind_some, if_pos rfl]
 unfold audit_chain.f
 rw [show (20 : Nat) = 18 + 1 + 1 from rfl, audit_chain.l0, if_pos (by decide), if_pos (by decide), if_pos (by decide)]
 have e : audit_bytes.f (18 + 1) (rd_T64 [(⟨1, 3, 1, bA, 0⟩ : S64)] 0).f0 (rd_T64 [(⟨1, 3, 1, bA, 0⟩ : S64)] 0).f1 (rd_T64 [(⟨1, 3, 1, bA, 0⟩ : S64)] 0).f2 (rd_T64 [(⟨1, 3, 1, bA, 0⟩ : S64)] 0).f3 (rd_T64 [(⟨1, 3, 1, bA, 0⟩ : S64)] 0).f4 = some b13 := by kernel_rfl
 rw [e, Option.bind_some, seal_13, Option.bind_some, audit_chain.l0, if_neg (of_decide_eq_true (by kernel_rfl))]
 rfl

theorem C64_lt {w : World} {g o n : Nat} {xs : List S64} (h : Kd.C k64 w (some ⟨g, o, none⟩) n xs) (hn : 0 < n) : g < w.heap.size := by
 obtain ⟨ad, e, h0, _⟩ := at_T64 h 0 (by decide) (by omega)
 cases e
 have := World.block_lt_of_cell? w _ h0
 rwa [add_block] at this

set_option maxHeartbeats 8000000 in
set_option maxRecDepth 100000 in
theorem lives13_walk (w : World) : Calls Try.prog 34 #[] w fun e w' => e = .returned (.bool true) ∧ Below w.heap.size w w' := by
 have hu56 := Try.underlying56
 have hu64 := Try.underlying64
 have hu52 := Try.underlying52
 have HB0 : Aside0 (Below w.heap.size w w) := ⟨Below.refl _ _⟩
 have HI56 : Aside0 ((Try.prog.info? 56).map (·.size) = some 3) := ⟨by kernel_rfl⟩
 go_enter Try.func34, Try.ntmps34
 go_wp2_with fail
 refine (audit_New.calls z32 0 [] w new_some).mono ?_
 rintro e w1 ⟨v1, rfl, hr1, hb1⟩
 obtain ⟨A1, n1, c1, rfl⟩ := R_shape hr1
 obtain rfl : n1 = 0 := (Kd.R_reads' hr1).1
 have HC1 : Aside0 (Kd.C k64 w1 A1 ([] : List S64).length []) := ⟨(Kd.R_reads' hr1).2.2⟩
 have HL1 := Aside0.mk hb1
 clear hr1 hb1
 go_wp2_with fail
 refine (audit_Add.calls 20 z32 0 A1 c1 [] 0 3 1 bA 0 z32 1 [⟨1, 3, 1, bA, 0⟩] 0 w1 HC1.out (Nat.zero_le _) add_13).mono ?_
 rintro e w2 ⟨v2, rfl, hr2, hb2⟩
 have HL2 := Aside0.mk (below_step HL1.out hb2)
 obtain ⟨gA, cA, rfl, hgA, _⟩ := Kd.R_form hr2 (by simp)
 have HC2 : Aside0 (Kd.C k64 w2 (some ⟨gA, 0, none⟩) 1 [⟨1, 3, 1, bA, 0⟩]) := ⟨(Kd.R_reads' hr2).2.2⟩
 have HCA : Aside0 (1 ≤ cA) := ⟨(Kd.R_reads' hr2).2.1⟩
 clear hr2 hb2 hgA HC1 HL1 HB0
 have HV1 : Aside0 ((#[.string z32, .int .i64 1, .slice (some ⟨gA, 0, none⟩) 1 cA] : Array Value).all (·.oneCell') = true) := ⟨by simp [Value.oneCell']⟩
 go_upto_region 2 with (first | ((with_reducible refine gate_dst (N := 1) rfl ?_); refine box_event ?hg (N := 1) ?hd (cs := #[.string ⟨#[]⟩, .int .i64 0, .slice none 0 0]) (t := 56) ?hr ?_; (case hd => rfl); (case hg => rfl); (case hr => first | (go_simp; done) | (go_simp; rfl)); intro g1 hg1 w3 hb3 hbel3; have HB3 := Aside0.mk hb3; have HL3 := Aside0.mk (below_step HL2.out hbel3); have HC3 := Aside0.mk (Kd.C_below HC2.out hbel3); have HG1 : Aside0 (w.heap.size ≤ g1) := ⟨by rw [hg1]; exact below_size HL2.out⟩; have HGA : Aside0 (gA < g1) := ⟨by rw [hg1]; exact C64_lt HC2.out (by decide)⟩; clear hg1 hb3 hbel3 HC2 HL2) | (refine gate_ (.store 56 (.tmp 1) (.tmp 7)) rfl ?_; refine wpList_store_row rfl 56 (.tmp 1) (.tmp 7) rfl g1 #[.string z32, .int .i64 1, .slice (some ⟨gA, 0, none⟩) 1 cA] rfl rfl 56 _ HB3.out HI56.out rfl HV1.out ?_))
 have HB4 : Aside0 ((w3.setRow g1 #[.string z32, .int .i64 1, .slice (some ⟨gA, 0, none⟩) 1 cA]).heap[g1]? = some (.cells #[.string z32, .int .i64 1, .slice (some ⟨gA, 0, none⟩) 1 cA] 56 (0, 0))) := ⟨setRow_heap _ _ _ _ _ _ HB3.out⟩
 have HL4 : Aside0 (Below w.heap.size w (w3.setRow g1 #[.string z32, .int .i64 1, .slice (some ⟨gA, 0, none⟩) 1 cA])) := ⟨HL3.out.trans (below_setRow HG1.out)⟩
 have HC4 : Aside0 (Kd.C k64 (w3.setRow g1 #[.string z32, .int .i64 1, .slice (some ⟨gA, 0, none⟩) 1 cA]) (some ⟨gA, 0, none⟩) 1 [⟨1, 3, 1, bA, 0⟩]) := ⟨C_frame64 HC3.out (Fr.setRow (Fr.refl _ (fun k => k = g1)) rfl) (fun ad e _ h => by cases e; have := HGA.out; exact absurd h (Nat.ne_of_lt this))⟩
 clear HB3 HL3 HC3 HV1
 generalize w3.setRow g1 #[.string z32, .int .i64 1, .slice (some ⟨gA, 0, none⟩) 1 cA] = w4 at HB4 HL4 HC4 ⊢
 have c10 : w4.cell? ⟨g1, 0, none⟩ = some (.string z32) := (blk_cell HB4.out 0).trans rfl
 have c11 : w4.cell? ⟨g1, 1, none⟩ = some (.int .i64 1) := (blk_cell HB4.out 1).trans rfl
 have c12 : w4.cell? ⟨g1, 2, none⟩ = some (.slice (some ⟨gA, 0, none⟩) 1 cA) := (blk_cell HB4.out 2).trans rfl
 obtain ⟨ad, e', d0, d1, d2, d3, d4⟩ := at_T64 HC4.out 0 (by decide) (by decide)
 cases e'
 simp only [Int.toNat_zero, Nat.zero_mul, add_plain, Nat.zero_add] at d0 d1 d2 d3 d4
 have d0 : w4.cell? ⟨gA, 0, none⟩ = some (.int .i64 1) := d0
 have d1 : w4.cell? ⟨gA, 1, none⟩ = some (.int .i64 3) := d1
 have d2 : w4.cell? ⟨gA, 2, none⟩ = some (.int .i64 1) := d2
 have d3 : w4.cell? ⟨gA, 3, none⟩ = some (.string bA) := d3
 have d4 : w4.cell? ⟨gA, 4, none⟩ = some (.int .i64 0) := d4
 obtain ⟨mc, hmc⟩ : ∃ mc, madeCells #[Value.int .u8 0] 32 = mc := ⟨_, rfl⟩
 have HMK : Aside0 (∀ W : World, (Instr.makeSlice 23 (.int .i64 32) (.int .i64 32)).run Try.prog W = .ok (.slice (some ⟨W.heap.size, 0, none⟩) 32 32) (W.alloc (.cells mc 5))) := ⟨by
  rw [← hmc]
  exact print_make (P := Try.prog) 23 5 .u8 1 Try.underlying23 info5 (by decide) 32 (by decide)⟩
 have HMO : Aside0 (∀ W : World, (W.alloc (.cells mc 5)).ownsRow 0 5 1 (.slice (some ⟨W.heap.size, 0, none⟩) 32 32) 32 (nums .u8 (List.replicate 32 0))) := ⟨by
  intro W
  rw [← hmc]
  exact own_made W 0 5 .u8 32 (Nat.zero_le _) (by decide)⟩
 clear hmc
 obtain ⟨D, hD⟩ : ∃ D, sealP z32 b13 = D := ⟨_, rfl⟩
 have HDG : Aside0 (audit_Digest.f 20 z32 1 [⟨1, 3, 1, bA, 0⟩] = some D) := ⟨by rw [digest_13, hD]⟩
 have HSL : Aside0 (mac_Seal.f z32 b13 = some D) := ⟨by rw [seal_13, hD]⟩
 clear hD
 obtain ⟨bb, hbb⟩ : ∃ b, b13 = b := ⟨_, rfl⟩
 have HBB : Aside0 (strongroomref13_Bytes.f 20 1 3 1 bA 0 = some bb) := ⟨by rw [← hbb]; exact refbytes_13⟩
 rw [hbb] at HSL
 clear hbb
 have HL := HL4
 have HC := HC4
 replace HC : Aside0 (Kd.C k64 w4.drew (some ⟨gA, 0, none⟩) 1 [(⟨1, 3, 1, bA, 0⟩ : S64)]) := ⟨Kd.C_drew HC.out⟩
 replace HL : Aside0 (Below w.heap.size w w4.drew) := ⟨below_drew HL.out⟩
 clear HL4 HC4 HB4
 refine start_ (n := 27) (S := fun w' => w'.cell? ⟨g1, 0, none⟩ = some (.string z32) ∧ w'.cell? ⟨g1, 1, none⟩ = some (.int .i64 1) ∧ w'.cell? ⟨g1, 2, none⟩ = some (.slice (some ⟨gA, 0, none⟩) 1 cA) ∧ w'.cell? ⟨gA, 0, none⟩ = some (.int .i64 1) ∧ w'.cell? ⟨gA, 1, none⟩ = some (.int .i64 3) ∧ w'.cell? ⟨gA, 2, none⟩ = some (.int .i64 1) ∧ w'.cell? ⟨gA, 3, none⟩ = some (.string bA) ∧ w'.cell? ⟨gA, 4, none⟩ = some (.int .i64 0)) (ds := []) #[false, false, false, false, false, false, false, false, false, false, false, false, false, false, false, false, false, false, false, false, false, false, false, false, false, false, false] (by kernel_rfl) rfl rfl ⟨c10, c11, c12, d0, d1, d2, d3, d4⟩ (fun hHeld => ?_)
 refine pure_ (i := 0) (N := some 9) (v := ?_) (a' := ?_) #[true, false, false, false, false, false, false, false, false, false, false, false, false, false, false, false, false, false, false, false, false, false, false, false, false, false, false] rfl rfl (by kernel_rfl) (fun _ _ _ h => h) (Or.inl ⟨by rfl, ?_⟩) ?_ ?_
 rotate_left
 ·intro w'
  go_simp
  with_reducible rfl
 rotate_left
 ·simp only [Act.put, List.setIfInBounds_toArray, List.set_cons_zero, List.set_cons_succ, i64_w, i32_w]
  rfl
 refine pure_ (i := 1) (N := some 10) (v := ?_) (a' := ?_) #[true, true, false, false, false, false, false, false, false, false, false, false, false, false, false, false, false, false, false, false, false, false, false, false, false, false, false] rfl rfl (by kernel_rfl) (fun _ _ _ h => h) (Or.inl ⟨by rfl, ?_⟩) ?_ ?_
 rotate_left
 ·intro w'
  go_simp
  with_reducible rfl
 rotate_left
 ·simp only [Act.put, List.setIfInBounds_toArray, List.set_cons_zero, List.set_cons_succ, i64_w, i32_w]
  rfl
 refine pure_ (i := 2) (N := some 11) (v := ?_) (a' := ?_) #[true, true, true, false, false, false, false, false, false, false, false, false, false, false, false, false, false, false, false, false, false, false, false, false, false, false, false] rfl rfl (by kernel_rfl) (fun _ _ _ h => h) (Or.inl ⟨by rfl, ?_⟩) ?_ ?_
 rotate_left
 ·intro w'
  go_simp
  with_reducible rfl
 rotate_left
 ·simp only [Act.put, List.setIfInBounds_toArray, List.set_cons_zero, List.set_cons_succ, i64_w, i32_w]
  rfl
 refine pure_ (i := 3) (N := some 12) (v := ?_) (a' := ?_) #[true, true, true, true, false, false, false, false, false, false, false, false, false, false, false, false, false, false, false, false, false, false, false, false, false, false, false] rfl rfl (by kernel_rfl) (fun _ _ _ h => h) (Or.inl ⟨by rfl, ?_⟩) ?_ ?_
 rotate_left
 ·intro w'
  go_simp
  with_reducible rfl
 rotate_left
 ·simp only [Act.put, List.setIfInBounds_toArray, List.set_cons_zero, List.set_cons_succ, i64_w, i32_w]
  rfl
 refine take_ (i := 4) (N := some 13) (v := ?_) (a' := ?_) #[true, true, true, true, true, false, false, false, false, false, false, false, false, false, false, false, false, false, false, false, false, false, false, false, false, false, false] rfl rfl (by kernel_rfl) (fun _ _ _ h => h) (Or.inl ⟨by rfl, ?_⟩) hHeld ?_ ?_
 rotate_left
 ·rintro w' ⟨s0, s1, s2, s3, s4, s5, s6, s7⟩
  go_simp
  with_reducible rfl
 rotate_left
 ·simp only [Act.put, List.setIfInBounds_toArray, List.set_cons_zero, List.set_cons_succ, i64_w, i32_w]
  rfl
 refine pure_ (i := 5) (N := some 14) (v := ?_) (a' := ?_) #[true, true, true, true, true, true, false, false, false, false, false, false, false, false, false, false, false, false, false, false, false, false, false, false, false, false, false] rfl rfl (by kernel_rfl) (fun _ _ _ h => h) (Or.inl ⟨by rfl, ?_⟩) ?_ ?_
 rotate_left
 ·intro w'
  go_simp
  with_reducible rfl
 rotate_left
 ·simp only [Act.put, List.setIfInBounds_toArray, List.set_cons_zero, List.set_cons_succ, i64_w, i32_w]
  rfl
 refine pure_ (i := 6) (N := some 15) (v := ?_) (a' := ?_) #[true, true, true, true, true, true, true, false, false, false, false, false, false, false, false, false, false, false, false, false, false, false, false, false, false, false, false] rfl rfl (by kernel_rfl) (fun _ _ _ h => h) (Or.inl ⟨by rfl, ?_⟩) ?_ ?_
 rotate_left
 ·intro w'
  go_simp
  with_reducible rfl
 rotate_left
 ·simp only [Act.put, List.setIfInBounds_toArray, List.set_cons_zero, List.set_cons_succ, i64_w, i32_w]
  rfl
 refine pure_ (i := 7) (N := some 16) (v := ?_) (a' := ?_) #[true, true, true, true, true, true, true, true, false, false, false, false, false, false, false, false, false, false, false, false, false, false, false, false, false, false, false] rfl rfl (by kernel_rfl) (fun _ _ _ h => h) (Or.inl ⟨by rfl, ?_⟩) ?_ ?_
 rotate_left
 ·intro w'
  go_simp
  with_reducible rfl
 rotate_left
 ·simp only [Act.put, List.setIfInBounds_toArray, List.set_cons_zero, List.set_cons_succ, i64_w, i32_w]
  rfl
 refine pure_ (i := 8) (N := some 17) (v := ?_) (a' := ?_) #[true, true, true, true, true, true, true, true, true, false, false, false, false, false, false, false, false, false, false, false, false, false, false, false, false, false, false] rfl rfl (by kernel_rfl) (fun _ _ _ h => h) (Or.inl ⟨by rfl, ?_⟩) ?_ ?_
 rotate_left
 ·intro w'
  go_simp
  with_reducible rfl
 rotate_left
 ·simp only [Act.put, List.setIfInBounds_toArray, List.set_cons_zero, List.set_cons_succ, i64_w, i32_w]
  rfl
 refine take_ (i := 9) (N := some 18) (v := ?_) (a' := ?_) #[true, true, true, true, true, true, true, true, true, true, false, false, false, false, false, false, false, false, false, false, false, false, false, false, false, false, false] rfl rfl (by kernel_rfl) (fun _ _ _ h => h) (Or.inl ⟨by rfl, ?_⟩) hHeld ?_ ?_
 rotate_left
 ·rintro w' ⟨s0, s1, s2, s3, s4, s5, s6, s7⟩
  go_simp
  with_reducible rfl
 rotate_left
 ·simp only [Act.put, List.setIfInBounds_toArray, List.set_cons_zero, List.set_cons_succ, i64_w, i32_w]
  rfl
 refine pure_ (i := 10) (N := some 19) (v := ?_) (a' := ?_) #[true, true, true, true, true, true, true, true, true, true, true, false, false, false, false, false, false, false, false, false, false, false, false, false, false, false, false] rfl rfl (by kernel_rfl) (fun _ _ _ h => h) (Or.inl ⟨by rfl, ?_⟩) ?_ ?_
 rotate_left
 ·intro w'
  go_simp
  with_reducible rfl
 rotate_left
 ·simp only [Act.put, List.setIfInBounds_toArray, List.set_cons_zero, List.set_cons_succ, i64_w, i32_w]
  rfl
 refine pure_ (i := 11) (N := some 20) (v := ?_) (a' := ?_) #[true, true, true, true, true, true, true, true, true, true, true, true, false, false, false, false, false, false, false, false, false, false, false, false, false, false, false] rfl rfl (by kernel_rfl) (fun _ _ _ h => h) (Or.inl ⟨by rfl, ?_⟩) ?_ ?_
 rotate_left
 ·intro w'
  go_simp
  with_reducible rfl
 rotate_left
 ·simp only [Act.put, List.setIfInBounds_toArray, List.set_cons_zero, List.set_cons_succ, i64_w, i32_w]
  rfl
 refine pure_ (i := 12) (N := some 21) (v := ?_) (a' := ?_) #[true, true, true, true, true, true, true, true, true, true, true, true, true, false, false, false, false, false, false, false, false, false, false, false, false, false, false] rfl rfl (by kernel_rfl) (fun _ _ _ h => h) (Or.inl ⟨by rfl, ?_⟩) ?_ ?_
 rotate_left
 ·intro w'
  go_simp
  with_reducible rfl
 rotate_left
 ·simp only [Act.put, List.setIfInBounds_toArray, List.set_cons_zero, List.set_cons_succ, i64_w, i32_w]
  rfl
 refine pure_ (i := 13) (N := some 22) (v := ?_) (a' := ?_) #[true, true, true, true, true, true, true, true, true, true, true, true, true, true, false, false, false, false, false, false, false, false, false, false, false, false, false] rfl rfl (by kernel_rfl) (fun _ _ _ h => h) (Or.inl ⟨by rfl, ?_⟩) ?_ ?_
 rotate_left
 ·intro w'
  go_simp
  with_reducible rfl
 rotate_left
 ·simp only [Act.put, List.setIfInBounds_toArray, List.set_cons_zero, List.set_cons_succ, i64_w, i32_w]
  rfl
 refine pure_ (i := 18) (N := some 27) (v := ?_) (a' := ?_) #[true, true, true, true, true, true, true, true, true, true, true, true, true, true, false, false, false, false, true, false, false, false, false, false, false, false, false] rfl rfl (by kernel_rfl) (fun _ _ _ h => h) (Or.inl ⟨by rfl, ?_⟩) ?_ ?_
 rotate_left
 ·intro w'
  go_simp
  with_reducible rfl
 rotate_left
 ·simp only [Act.put, List.setIfInBounds_toArray, List.set_cons_zero, List.set_cons_succ, i64_w, i32_w]
  rfl
 refine take_ (i := 14) (N := some 23) (v := ?_) (a' := ?_) #[true, true, true, true, true, true, true, true, true, true, true, true, true, true, true, false, false, false, true, false, false, false, false, false, false, false, false] rfl rfl (by kernel_rfl) (fun _ _ _ h => h) (Or.inl ⟨by rfl, ?_⟩) hHeld ?_ ?_
 rotate_left
 ·rintro w' ⟨s0, s1, s2, s3, s4, s5, s6, s7⟩
  go_simp
  with_reducible rfl
 rotate_left
 ·simp only [Act.put, List.setIfInBounds_toArray, List.set_cons_zero, List.set_cons_succ, i64_w, i32_w]
  rfl
 refine take_ (i := 19) (N := some 28) (v := ?_) (a' := ?_) #[true, true, true, true, true, true, true, true, true, true, true, true, true, true, true, false, false, false, true, true, false, false, false, false, false, false, false] rfl rfl (by kernel_rfl) (fun _ _ _ h => h) (Or.inl ⟨by rfl, ?_⟩) hHeld ?_ ?_
 rotate_left
 ·rintro w' ⟨s0, s1, s2, s3, s4, s5, s6, s7⟩
  go_simp
  with_reducible rfl
 rotate_left
 ·simp only [Act.put, List.setIfInBounds_toArray, List.set_cons_zero, List.set_cons_succ, i64_w, i32_w]
  rfl
 refine pure_ (i := 20) (N := some 29) (v := ?_) (a' := ?_) #[true, true, true, true, true, true, true, true, true, true, true, true, true, true, true, false, false, false, true, true, true, false, false, false, false, false, false] rfl rfl (by kernel_rfl) (fun _ _ _ h => h) (Or.inl ⟨by rfl, ?_⟩) ?_ ?_
 rotate_left
 ·intro w'
  go_simp
  with_reducible rfl
 rotate_left
 ·simp only [Act.put, List.setIfInBounds_toArray, List.set_cons_zero, List.set_cons_succ, i64_w, i32_w]
  rfl
 refine take_ (i := 21) (N := some 30) (v := ?_) (a' := ?_) #[true, true, true, true, true, true, true, true, true, true, true, true, true, true, true, false, false, false, true, true, true, true, false, false, false, false, false] rfl rfl (by kernel_rfl) (fun _ _ _ h => h) (Or.inl ⟨by rfl, ?_⟩) hHeld ?_ ?_
 rotate_left
 ·rintro w' ⟨s0, s1, s2, s3, s4, s5, s6, s7⟩
  go_simp
  with_reducible rfl
 rotate_left
 ·simp only [Act.put, List.setIfInBounds_toArray, List.set_cons_zero, List.set_cons_succ, i64_w, i32_w]
  rfl
 refine join_ (σ := Nat) 4 #[true, true, true, true, true, true, true, true, true, true, true, true, true, true, true, true, true, true, true, true, true, true, true, false, false, false, false] (fun gM => [(24, .string D), (25, .slice (some ⟨gM, 0, none⟩) 32 32), (26, .string z32), (31, .string bb)]) (fun gM w' => w'.cell? ⟨g1, 0, none⟩ = some (.string z32) ∧ w'.cell? ⟨g1, 1, none⟩ = some (.int .i64 1) ∧ w'.cell? ⟨g1, 2, none⟩ = some (.slice (some ⟨gA, 0, none⟩) 1 cA) ∧ w'.cell? ⟨gA, 0, none⟩ = some (.int .i64 1) ∧ w'.cell? ⟨gA, 1, none⟩ = some (.int .i64 3) ∧ w'.cell? ⟨gA, 2, none⟩ = some (.int .i64 1) ∧ w'.cell? ⟨gA, 3, none⟩ = some (.string bA) ∧ w'.cell? ⟨gA, 4, none⟩ = some (.int .i64 0) ∧ Aside0 (Below w.heap.size w w')) ?_ ?_
 rotate_left
 ·intro hCont
  refine two_ (i := 15) (j := 16) (Ni := some 24) (Nj := some 25) #[true, true, true, true, true, true, true, true, true, true, true, true, true, true, true, true, false, false, true, true, true, true, false, false, false, false, false] #[true, true, true, true, true, true, true, true, true, true, true, true, true, true, true, false, true, false, true, true, true, true, false, false, false, false, false] rfl rfl rfl rfl (by kernel_rfl) (by decide) (by decide) (fun K hK => ?_) (fun K hK => ?_)
  ·skip
   refine goes_ Try.func44 (by kernel_rfl) rfl #[.agg #[.string z32, .int .i64 1, .slice (some ⟨gA, 0, none⟩) 1 cA]] (by rfl) rfl rfl (by simp only [List.map_toArray, List.map_cons, List.map_nil]; rfl) ?_
   refine (audit_Digest.calls 20 z32 1 (some ⟨gA, 0, none⟩) cA [(⟨1, 3, 1, bA, 0⟩ : S64)] D w4.drew HC.out HCA.out HDG.out).mono ?_
   rintro e y15 ⟨rfl, hb⟩
   refine ⟨_, rfl, ?_⟩
   have c10_15 : y15.cell? ⟨g1, 0, none⟩ = some (.string z32) := pw_cell_below hb c10
   have c11_15 : y15.cell? ⟨g1, 1, none⟩ = some (.int .i64 1) := pw_cell_below hb c11
   have c12_15 : y15.cell? ⟨g1, 2, none⟩ = some (.slice (some ⟨gA, 0, none⟩) 1 cA) := pw_cell_below hb c12
   have d0_15 : y15.cell? ⟨gA, 0, none⟩ = some (.int .i64 1) := pw_cell_below hb d0
   have d1_15 : y15.cell? ⟨gA, 1, none⟩ = some (.int .i64 3) := pw_cell_below hb d1
   have d2_15 : y15.cell? ⟨gA, 2, none⟩ = some (.int .i64 1) := pw_cell_below hb d2
   have d3_15 : y15.cell? ⟨gA, 3, none⟩ = some (.string bA) := pw_cell_below hb d3
   have d4_15 : y15.cell? ⟨gA, 4, none⟩ = some (.int .i64 0) := pw_cell_below hb d4
   have HC_15 : Aside0 (Kd.C k64 y15 (some ⟨gA, 0, none⟩) 1 [(⟨1, 3, 1, bA, 0⟩ : S64)]) := ⟨Kd.C_below HC.out hb⟩
   have HL_15 : Aside0 (Below w.heap.size w y15) := ⟨below_step HL.out hb⟩
   clear hb
   refine hK.out _ _ ⟨c10_15, c11_15, c12_15, d0_15, d1_15, d2_15, d3_15, d4_15⟩ (fun hHeld => ?_)
   clear hK K
   refine norm_ (a' := ?_) ?_ ?_
   rotate_left
   ·show Act.put _ (some 24) _ = _
    simp only [Act.put, List.setIfInBounds_toArray, List.set_cons_zero, List.set_cons_succ, i64_w, i32_w]
    rfl
   refine two_ (i := 16) (j := 22) (Ni := some 25) (Nj := some 31) #[true, true, true, true, true, true, true, true, true, true, true, true, true, true, true, true, true, false, true, true, true, true, false, false, false, false, false] #[true, true, true, true, true, true, true, true, true, true, true, true, true, true, true, true, false, false, true, true, true, true, true, false, false, false, false] rfl rfl rfl rfl (by kernel_rfl) (by decide) (by decide) (fun K hK => ?_) (fun K hK => ?_)
   ·skip
    obtain ⟨gM, hgM⟩ : ∃ g, y15.heap.size = g := ⟨_, rfl⟩
    obtain ⟨y15_16, hy⟩ : ∃ y, y15.alloc (.cells mc 5) = y := ⟨_, rfl⟩
    have hmk : (Instr.makeSlice 23 (.int .i64 32) (.int .i64 32)).run Try.prog y15 = .ok (.slice (some ⟨gM, 0, none⟩) 32 32) y15_16 := by rw [← hgM, ← hy]; exact HMK.out _
    have HO_15_16 : Aside0 (y15_16.ownsRow 0 5 1 (.slice (some ⟨gM, 0, none⟩) 32 32) 32 (nums .u8 (List.replicate 32 0))) := ⟨by rw [← hgM, ← hy]; exact HMO.out _⟩
    have hb : Below y15.heap.size y15 y15_16 := by rw [← hy]; exact below_alloc (Below.refl _ _) _
    refine value_ (w1 := y15_16) (v := .slice (some ⟨gM, 0, none⟩) 32 32) (by rfl) rfl ?_ ?_
    ·go_simp
    clear hmk hy hgM
    have c10_15_16 : y15_16.cell? ⟨g1, 0, none⟩ = some (.string z32) := pw_cell_below hb c10_15
    have c11_15_16 : y15_16.cell? ⟨g1, 1, none⟩ = some (.int .i64 1) := pw_cell_below hb c11_15
    have c12_15_16 : y15_16.cell? ⟨g1, 2, none⟩ = some (.slice (some ⟨gA, 0, none⟩) 1 cA) := pw_cell_below hb c12_15
    have d0_15_16 : y15_16.cell? ⟨gA, 0, none⟩ = some (.int .i64 1) := pw_cell_below hb d0_15
    have d1_15_16 : y15_16.cell? ⟨gA, 1, none⟩ = some (.int .i64 3) := pw_cell_below hb d1_15
    have d2_15_16 : y15_16.cell? ⟨gA, 2, none⟩ = some (.int .i64 1) := pw_cell_below hb d2_15
    have d3_15_16 : y15_16.cell? ⟨gA, 3, none⟩ = some (.string bA) := pw_cell_below hb d3_15
    have d4_15_16 : y15_16.cell? ⟨gA, 4, none⟩ = some (.int .i64 0) := pw_cell_below hb d4_15
    have HC_15_16 : Aside0 (Kd.C k64 y15_16 (some ⟨gA, 0, none⟩) 1 [(⟨1, 3, 1, bA, 0⟩ : S64)]) := ⟨Kd.C_below HC_15.out hb⟩
    have HL_15_16 : Aside0 (Below w.heap.size w y15_16) := ⟨below_step HL_15.out hb⟩
    clear hb
    refine hK.out _ _ ⟨c10_15_16, c11_15_16, c12_15_16, d0_15_16, d1_15_16, d2_15_16, d3_15_16, d4_15_16⟩ (fun hHeld => ?_)
    clear hK K
    refine norm_ (a' := ?_) ?_ ?_
    rotate_left
    ·show Act.put _ (some 25) _ = _
     simp only [Act.put, List.setIfInBounds_toArray, List.set_cons_zero, List.set_cons_succ, i64_w, i32_w]
     rfl
    refine two_ (i := 17) (j := 22) (Ni := some 26) (Nj := some 31) #[true, true, true, true, true, true, true, true, true, true, true, true, true, true, true, true, true, true, true, true, true, true, false, false, false, false, false] #[true, true, true, true, true, true, true, true, true, true, true, true, true, true, true, true, true, false, true, true, true, true, true, false, false, false, false] rfl rfl rfl rfl (by kernel_rfl) (by decide) (by decide) (fun K hK => ?_) (fun K hK => ?_)
    ·skip
     have hcv : (convert 23 9 (.slice (some ⟨gM, 0, none⟩) 32 32)).run Try.prog y15_16 = .ok (.string z32) y15_16 := own_string (P := Try.prog) Try.underlying23 Try.underlying5 Try.underlying9 HO_15_16.out
     refine value_ (w1 := y15_16) (v := .string z32) (by rfl) rfl ?_ ?_
     ·go_simp
     clear hcv
     refine hK.out _ _ ⟨c10_15_16, c11_15_16, c12_15_16, d0_15_16, d1_15_16, d2_15_16, d3_15_16, d4_15_16⟩ (fun hHeld => ?_)
     clear hK K
     refine norm_ (a' := ?_) ?_ ?_
     rotate_left
     ·show Act.put _ (some 26) _ = _
      simp only [Act.put, List.setIfInBounds_toArray, List.set_cons_zero, List.set_cons_succ, i64_w, i32_w]
      rfl
     refine one_ (i := 22) (N := some 31) #[true, true, true, true, true, true, true, true, true, true, true, true, true, true, true, true, true, true, true, true, true, true, true, false, false, false, false] rfl rfl (by kernel_rfl) (by decide) (fun K hK => ?_)
     refine goes_ Try.func48 (by kernel_rfl) rfl #[.agg #[.int .i64 1, .int .i64 3, .int .i64 1, .string bA, .int .i64 0]] (by rfl) rfl rfl (by simp only [List.map_toArray, List.map_cons, List.map_nil]; rfl) ?_
     refine (strongroomref13_Bytes.calls 20 1 3 1 bA 0 bb y15_16 HBB.out).mono ?_
     rintro e y15_16_22 ⟨rfl, hb⟩
     refine ⟨_, rfl, ?_⟩
     have c10_15_16_22 : y15_16_22.cell? ⟨g1, 0, none⟩ = some (.string z32) := pw_cell_below hb c10_15_16
     have c11_15_16_22 : y15_16_22.cell? ⟨g1, 1, none⟩ = some (.int .i64 1) := pw_cell_below hb c11_15_16
     have c12_15_16_22 : y15_16_22.cell? ⟨g1, 2, none⟩ = some (.slice (some ⟨gA, 0, none⟩) 1 cA) := pw_cell_below hb c12_15_16
     have d0_15_16_22 : y15_16_22.cell? ⟨gA, 0, none⟩ = some (.int .i64 1) := pw_cell_below hb d0_15_16
     have d1_15_16_22 : y15_16_22.cell? ⟨gA, 1, none⟩ = some (.int .i64 3) := pw_cell_below hb d1_15_16
     have d2_15_16_22 : y15_16_22.cell? ⟨gA, 2, none⟩ = some (.int .i64 1) := pw_cell_below hb d2_15_16
     have d3_15_16_22 : y15_16_22.cell? ⟨gA, 3, none⟩ = some (.string bA) := pw_cell_below hb d3_15_16
     have d4_15_16_22 : y15_16_22.cell? ⟨gA, 4, none⟩ = some (.int .i64 0) := pw_cell_below hb d4_15_16
     have HC_15_16_22 : Aside0 (Kd.C k64 y15_16_22 (some ⟨gA, 0, none⟩) 1 [(⟨1, 3, 1, bA, 0⟩ : S64)]) := ⟨Kd.C_below HC_15_16.out hb⟩
     have HL_15_16_22 : Aside0 (Below w.heap.size w y15_16_22) := ⟨below_step HL_15_16.out hb⟩
     have HO_15_16_22 : Aside0 (y15_16_22.ownsRow 0 5 1 (.slice (some ⟨gM, 0, none⟩) 32 32) 32 (nums .u8 (List.replicate 32 0))) := ⟨pw_own_below HO_15_16.out hb⟩
     clear hb
     refine hK.out _ _ ⟨c10_15_16_22, c11_15_16_22, c12_15_16_22, d0_15_16_22, d1_15_16_22, d2_15_16_22, d3_15_16_22, d4_15_16_22⟩ (fun hHeld => ?_)
     clear hK K
     refine norm_ (a' := ?_) ?_ ?_
     rotate_left
     ·show Act.put _ (some 31) _ = _
      simp only [Act.put, List.setIfInBounds_toArray, List.set_cons_zero, List.set_cons_succ, i64_w, i32_w]
      rfl
     exact norm_ (by simp only [putAll, Act.put, List.setIfInBounds_toArray, List.set_cons_zero, List.set_cons_succ]) (hCont gM _ ⟨c10_15_16_22, c11_15_16_22, c12_15_16_22, d0_15_16_22, d1_15_16_22, d2_15_16_22, d3_15_16_22, d4_15_16_22, HL_15_16_22⟩)
    ·skip
     refine goes_ Try.func48 (by kernel_rfl) rfl #[.agg #[.int .i64 1, .int .i64 3, .int .i64 1, .string bA, .int .i64 0]] (by rfl) rfl rfl (by simp only [List.map_toArray, List.map_cons, List.map_nil]; rfl) ?_
     refine (strongroomref13_Bytes.calls 20 1 3 1 bA 0 bb y15_16 HBB.out).mono ?_
     rintro e y15_16_22 ⟨rfl, hb⟩
     refine ⟨_, rfl, ?_⟩
     have c10_15_16_22 : y15_16_22.cell? ⟨g1, 0, none⟩ = some (.string z32) := pw_cell_below hb c10_15_16
     have c11_15_16_22 : y15_16_22.cell? ⟨g1, 1, none⟩ = some (.int .i64 1) := pw_cell_below hb c11_15_16
     have c12_15_16_22 : y15_16_22.cell? ⟨g1, 2, none⟩ = some (.slice (some ⟨gA, 0, none⟩) 1 cA) := pw_cell_below hb c12_15_16
     have d0_15_16_22 : y15_16_22.cell? ⟨gA, 0, none⟩ = some (.int .i64 1) := pw_cell_below hb d0_15_16
     have d1_15_16_22 : y15_16_22.cell? ⟨gA, 1, none⟩ = some (.int .i64 3) := pw_cell_below hb d1_15_16
     have d2_15_16_22 : y15_16_22.cell? ⟨gA, 2, none⟩ = some (.int .i64 1) := pw_cell_below hb d2_15_16
     have d3_15_16_22 : y15_16_22.cell? ⟨gA, 3, none⟩ = some (.string bA) := pw_cell_below hb d3_15_16
     have d4_15_16_22 : y15_16_22.cell? ⟨gA, 4, none⟩ = some (.int .i64 0) := pw_cell_below hb d4_15_16
     have HC_15_16_22 : Aside0 (Kd.C k64 y15_16_22 (some ⟨gA, 0, none⟩) 1 [(⟨1, 3, 1, bA, 0⟩ : S64)]) := ⟨Kd.C_below HC_15_16.out hb⟩
     have HL_15_16_22 : Aside0 (Below w.heap.size w y15_16_22) := ⟨below_step HL_15_16.out hb⟩
     have HO_15_16_22 : Aside0 (y15_16_22.ownsRow 0 5 1 (.slice (some ⟨gM, 0, none⟩) 32 32) 32 (nums .u8 (List.replicate 32 0))) := ⟨pw_own_below HO_15_16.out hb⟩
     clear hb
     refine hK.out _ _ ⟨c10_15_16_22, c11_15_16_22, c12_15_16_22, d0_15_16_22, d1_15_16_22, d2_15_16_22, d3_15_16_22, d4_15_16_22⟩ (fun hHeld => ?_)
     clear hK K
     refine norm_ (a' := ?_) ?_ ?_
     rotate_left
     ·show Act.put _ (some 31) _ = _
      simp only [Act.put, List.setIfInBounds_toArray, List.set_cons_zero, List.set_cons_succ, i64_w, i32_w]
      rfl
     refine one_ (i := 17) (N := some 26) #[true, true, true, true, true, true, true, true, true, true, true, true, true, true, true, true, true, true, true, true, true, true, true, false, false, false, false] rfl rfl (by kernel_rfl) (by decide) (fun K hK => ?_)
     have hcv : (convert 23 9 (.slice (some ⟨gM, 0, none⟩) 32 32)).run Try.prog y15_16_22 = .ok (.string z32) y15_16_22 := own_string (P := Try.prog) Try.underlying23 Try.underlying5 Try.underlying9 HO_15_16_22.out
     refine value_ (w1 := y15_16_22) (v := .string z32) (by rfl) rfl ?_ ?_
     ·go_simp
     clear hcv
     refine hK.out _ _ ⟨c10_15_16_22, c11_15_16_22, c12_15_16_22, d0_15_16_22, d1_15_16_22, d2_15_16_22, d3_15_16_22, d4_15_16_22⟩ (fun hHeld => ?_)
     clear hK K
     refine norm_ (a' := ?_) ?_ ?_
     rotate_left
     ·show Act.put _ (some 26) _ = _
      simp only [Act.put, List.setIfInBounds_toArray, List.set_cons_zero, List.set_cons_succ, i64_w, i32_w]
      rfl
     exact norm_ (by simp only [putAll, Act.put, List.setIfInBounds_toArray, List.set_cons_zero, List.set_cons_succ]) (hCont gM _ ⟨c10_15_16_22, c11_15_16_22, c12_15_16_22, d0_15_16_22, d1_15_16_22, d2_15_16_22, d3_15_16_22, d4_15_16_22, HL_15_16_22⟩)
   ·skip
    refine goes_ Try.func48 (by kernel_rfl) rfl #[.agg #[.int .i64 1, .int .i64 3, .int .i64 1, .string bA, .int .i64 0]] (by rfl) rfl rfl (by simp only [List.map_toArray, List.map_cons, List.map_nil]; rfl) ?_
    refine (strongroomref13_Bytes.calls 20 1 3 1 bA 0 bb y15 HBB.out).mono ?_
    rintro e y15_22 ⟨rfl, hb⟩
    refine ⟨_, rfl, ?_⟩
    have c10_15_22 : y15_22.cell? ⟨g1, 0, none⟩ = some (.string z32) := pw_cell_below hb c10_15
    have c11_15_22 : y15_22.cell? ⟨g1, 1, none⟩ = some (.int .i64 1) := pw_cell_below hb c11_15
    have c12_15_22 : y15_22.cell? ⟨g1, 2, none⟩ = some (.slice (some ⟨gA, 0, none⟩) 1 cA) := pw_cell_below hb c12_15
    have d0_15_22 : y15_22.cell? ⟨gA, 0, none⟩ = some (.int .i64 1) := pw_cell_below hb d0_15
    have d1_15_22 : y15_22.cell? ⟨gA, 1, none⟩ = some (.int .i64 3) := pw_cell_below hb d1_15
    have d2_15_22 : y15_22.cell? ⟨gA, 2, none⟩ = some (.int .i64 1) := pw_cell_below hb d2_15
    have d3_15_22 : y15_22.cell? ⟨gA, 3, none⟩ = some (.string bA) := pw_cell_below hb d3_15
    have d4_15_22 : y15_22.cell? ⟨gA, 4, none⟩ = some (.int .i64 0) := pw_cell_below hb d4_15
    have HC_15_22 : Aside0 (Kd.C k64 y15_22 (some ⟨gA, 0, none⟩) 1 [(⟨1, 3, 1, bA, 0⟩ : S64)]) := ⟨Kd.C_below HC_15.out hb⟩
    have HL_15_22 : Aside0 (Below w.heap.size w y15_22) := ⟨below_step HL_15.out hb⟩
    clear hb
    refine hK.out _ _ ⟨c10_15_22, c11_15_22, c12_15_22, d0_15_22, d1_15_22, d2_15_22, d3_15_22, d4_15_22⟩ (fun hHeld => ?_)
    clear hK K
    refine norm_ (a' := ?_) ?_ ?_
    rotate_left
    ·show Act.put _ (some 31) _ = _
     simp only [Act.put, List.setIfInBounds_toArray, List.set_cons_zero, List.set_cons_succ, i64_w, i32_w]
     rfl
    refine one_ (i := 16) (N := some 25) #[true, true, true, true, true, true, true, true, true, true, true, true, true, true, true, true, true, false, true, true, true, true, true, false, false, false, false] rfl rfl (by kernel_rfl) (by decide) (fun K hK => ?_)
    obtain ⟨gM, hgM⟩ : ∃ g, y15_22.heap.size = g := ⟨_, rfl⟩
    obtain ⟨y15_22_16, hy⟩ : ∃ y, y15_22.alloc (.cells mc 5) = y := ⟨_, rfl⟩
    have hmk : (Instr.makeSlice 23 (.int .i64 32) (.int .i64 32)).run Try.prog y15_22 = .ok (.slice (some ⟨gM, 0, none⟩) 32 32) y15_22_16 := by rw [← hgM, ← hy]; exact HMK.out _
    have HO_15_22_16 : Aside0 (y15_22_16.ownsRow 0 5 1 (.slice (some ⟨gM, 0, none⟩) 32 32) 32 (nums .u8 (List.replicate 32 0))) := ⟨by rw [← hgM, ← hy]; exact HMO.out _⟩
    have hb : Below y15_22.heap.size y15_22 y15_22_16 := by rw [← hy]; exact below_alloc (Below.refl _ _) _
    refine value_ (w1 := y15_22_16) (v := .slice (some ⟨gM, 0, none⟩) 32 32) (by rfl) rfl ?_ ?_
    ·go_simp
    clear hmk hy hgM
    have c10_15_22_16 : y15_22_16.cell? ⟨g1, 0, none⟩ = some (.string z32) := pw_cell_below hb c10_15_22
    have c11_15_22_16 : y15_22_16.cell? ⟨g1, 1, none⟩ = some (.int .i64 1) := pw_cell_below hb c11_15_22
    have c12_15_22_16 : y15_22_16.cell? ⟨g1, 2, none⟩ = some (.slice (some ⟨gA, 0, none⟩) 1 cA) := pw_cell_below hb c12_15_22
    have d0_15_22_16 : y15_22_16.cell? ⟨gA, 0, none⟩ = some (.int .i64 1) := pw_cell_below hb d0_15_22
    have d1_15_22_16 : y15_22_16.cell? ⟨gA, 1, none⟩ = some (.int .i64 3) := pw_cell_below hb d1_15_22
    have d2_15_22_16 : y15_22_16.cell? ⟨gA, 2, none⟩ = some (.int .i64 1) := pw_cell_below hb d2_15_22
    have d3_15_22_16 : y15_22_16.cell? ⟨gA, 3, none⟩ = some (.string bA) := pw_cell_below hb d3_15_22
    have d4_15_22_16 : y15_22_16.cell? ⟨gA, 4, none⟩ = some (.int .i64 0) := pw_cell_below hb d4_15_22
    have HC_15_22_16 : Aside0 (Kd.C k64 y15_22_16 (some ⟨gA, 0, none⟩) 1 [(⟨1, 3, 1, bA, 0⟩ : S64)]) := ⟨Kd.C_below HC_15_22.out hb⟩
    have HL_15_22_16 : Aside0 (Below w.heap.size w y15_22_16) := ⟨below_step HL_15_22.out hb⟩
    clear hb
    refine hK.out _ _ ⟨c10_15_22_16, c11_15_22_16, c12_15_22_16, d0_15_22_16, d1_15_22_16, d2_15_22_16, d3_15_22_16, d4_15_22_16⟩ (fun hHeld => ?_)
    clear hK K
    refine norm_ (a' := ?_) ?_ ?_
    rotate_left
    ·show Act.put _ (some 25) _ = _
     simp only [Act.put, List.setIfInBounds_toArray, List.set_cons_zero, List.set_cons_succ, i64_w, i32_w]
     rfl
    refine one_ (i := 17) (N := some 26) #[true, true, true, true, true, true, true, true, true, true, true, true, true, true, true, true, true, true, true, true, true, true, true, false, false, false, false] rfl rfl (by kernel_rfl) (by decide) (fun K hK => ?_)
    have hcv : (convert 23 9 (.slice (some ⟨gM, 0, none⟩) 32 32)).run Try.prog y15_22_16 = .ok (.string z32) y15_22_16 := own_string (P := Try.prog) Try.underlying23 Try.underlying5 Try.underlying9 HO_15_22_16.out
    refine value_ (w1 := y15_22_16) (v := .string z32) (by rfl) rfl ?_ ?_
    ·go_simp
    clear hcv
    refine hK.out _ _ ⟨c10_15_22_16, c11_15_22_16, c12_15_22_16, d0_15_22_16, d1_15_22_16, d2_15_22_16, d3_15_22_16, d4_15_22_16⟩ (fun hHeld => ?_)
    clear hK K
    refine norm_ (a' := ?_) ?_ ?_
    rotate_left
    ·show Act.put _ (some 26) _ = _
     simp only [Act.put, List.setIfInBounds_toArray, List.set_cons_zero, List.set_cons_succ, i64_w, i32_w]
     rfl
    exact norm_ (by simp only [putAll, Act.put, List.setIfInBounds_toArray, List.set_cons_zero, List.set_cons_succ]) (hCont gM _ ⟨c10_15_22_16, c11_15_22_16, c12_15_22_16, d0_15_22_16, d1_15_22_16, d2_15_22_16, d3_15_22_16, d4_15_22_16, HL_15_22_16⟩)
  ·skip
   obtain ⟨gM, hgM⟩ : ∃ g, w4.drew.heap.size = g := ⟨_, rfl⟩
   obtain ⟨y16, hy⟩ : ∃ y, w4.drew.alloc (.cells mc 5) = y := ⟨_, rfl⟩
   have hmk : (Instr.makeSlice 23 (.int .i64 32) (.int .i64 32)).run Try.prog w4.drew = .ok (.slice (some ⟨gM, 0, none⟩) 32 32) y16 := by rw [← hgM, ← hy]; exact HMK.out _
   have HO_16 : Aside0 (y16.ownsRow 0 5 1 (.slice (some ⟨gM, 0, none⟩) 32 32) 32 (nums .u8 (List.replicate 32 0))) := ⟨by rw [← hgM, ← hy]; exact HMO.out _⟩
   have hb : Below w4.drew.heap.size w4.drew y16 := by rw [← hy]; exact below_alloc (Below.refl _ _) _
   refine value_ (w1 := y16) (v := .slice (some ⟨gM, 0, none⟩) 32 32) (by rfl) rfl ?_ ?_
   ·go_simp
   clear hmk hy hgM
   have c10_16 : y16.cell? ⟨g1, 0, none⟩ = some (.string z32) := pw_cell_below hb c10
   have c11_16 : y16.cell? ⟨g1, 1, none⟩ = some (.int .i64 1) := pw_cell_below hb c11
   have c12_16 : y16.cell? ⟨g1, 2, none⟩ = some (.slice (some ⟨gA, 0, none⟩) 1 cA) := pw_cell_below hb c12
   have d0_16 : y16.cell? ⟨gA, 0, none⟩ = some (.int .i64 1) := pw_cell_below hb d0
   have d1_16 : y16.cell? ⟨gA, 1, none⟩ = some (.int .i64 3) := pw_cell_below hb d1
   have d2_16 : y16.cell? ⟨gA, 2, none⟩ = some (.int .i64 1) := pw_cell_below hb d2
   have d3_16 : y16.cell? ⟨gA, 3, none⟩ = some (.string bA) := pw_cell_below hb d3
   have d4_16 : y16.cell? ⟨gA, 4, none⟩ = some (.int .i64 0) := pw_cell_below hb d4
   have HC_16 : Aside0 (Kd.C k64 y16 (some ⟨gA, 0, none⟩) 1 [(⟨1, 3, 1, bA, 0⟩ : S64)]) := ⟨Kd.C_below HC.out hb⟩
   have HL_16 : Aside0 (Below w.heap.size w y16) := ⟨below_step HL.out hb⟩
   clear hb
   refine hK.out _ _ ⟨c10_16, c11_16, c12_16, d0_16, d1_16, d2_16, d3_16, d4_16⟩ (fun hHeld => ?_)
   clear hK K
   refine norm_ (a' := ?_) ?_ ?_
   rotate_left
   ·show Act.put _ (some 25) _ = _
    simp only [Act.put, List.setIfInBounds_toArray, List.set_cons_zero, List.set_cons_succ, i64_w, i32_w]
    rfl
   refine two_ (i := 15) (j := 17) (Ni := some 24) (Nj := some 26) #[true, true, true, true, true, true, true, true, true, true, true, true, true, true, true, true, true, false, true, true, true, true, false, false, false, false, false] #[true, true, true, true, true, true, true, true, true, true, true, true, true, true, true, false, true, true, true, true, true, true, false, false, false, false, false] rfl rfl rfl rfl (by kernel_rfl) (by decide) (by decide) (fun K hK => ?_) (fun K hK => ?_)
   ·skip
    refine goes_ Try.func44 (by kernel_rfl) rfl #[.agg #[.string z32, .int .i64 1, .slice (some ⟨gA, 0, none⟩) 1 cA]] (by rfl) rfl rfl (by simp only [List.map_toArray, List.map_cons, List.map_nil]; rfl) ?_
    refine (audit_Digest.calls 20 z32 1 (some ⟨gA, 0, none⟩) cA [(⟨1, 3, 1, bA, 0⟩ : S64)] D y16 HC_16.out HCA.out HDG.out).mono ?_
    rintro e y16_15 ⟨rfl, hb⟩
    refine ⟨_, rfl, ?_⟩
    have c10_16_15 : y16_15.cell? ⟨g1, 0, none⟩ = some (.string z32) := pw_cell_below hb c10_16
    have c11_16_15 : y16_15.cell? ⟨g1, 1, none⟩ = some (.int .i64 1) := pw_cell_below hb c11_16
    have c12_16_15 : y16_15.cell? ⟨g1, 2, none⟩ = some (.slice (some ⟨gA, 0, none⟩) 1 cA) := pw_cell_below hb c12_16
    have d0_16_15 : y16_15.cell? ⟨gA, 0, none⟩ = some (.int .i64 1) := pw_cell_below hb d0_16
    have d1_16_15 : y16_15.cell? ⟨gA, 1, none⟩ = some (.int .i64 3) := pw_cell_below hb d1_16
    have d2_16_15 : y16_15.cell? ⟨gA, 2, none⟩ = some (.int .i64 1) := pw_cell_below hb d2_16
    have d3_16_15 : y16_15.cell? ⟨gA, 3, none⟩ = some (.string bA) := pw_cell_below hb d3_16
    have d4_16_15 : y16_15.cell? ⟨gA, 4, none⟩ = some (.int .i64 0) := pw_cell_below hb d4_16
    have HC_16_15 : Aside0 (Kd.C k64 y16_15 (some ⟨gA, 0, none⟩) 1 [(⟨1, 3, 1, bA, 0⟩ : S64)]) := ⟨Kd.C_below HC_16.out hb⟩
    have HL_16_15 : Aside0 (Below w.heap.size w y16_15) := ⟨below_step HL_16.out hb⟩
    have HO_16_15 : Aside0 (y16_15.ownsRow 0 5 1 (.slice (some ⟨gM, 0, none⟩) 32 32) 32 (nums .u8 (List.replicate 32 0))) := ⟨pw_own_below HO_16.out hb⟩
    clear hb
    refine hK.out _ _ ⟨c10_16_15, c11_16_15, c12_16_15, d0_16_15, d1_16_15, d2_16_15, d3_16_15, d4_16_15⟩ (fun hHeld => ?_)
    clear hK K
    refine norm_ (a' := ?_) ?_ ?_
    rotate_left
    ·show Act.put _ (some 24) _ = _
     simp only [Act.put, List.setIfInBounds_toArray, List.set_cons_zero, List.set_cons_succ, i64_w, i32_w]
     rfl
    refine two_ (i := 17) (j := 22) (Ni := some 26) (Nj := some 31) #[true, true, true, true, true, true, true, true, true, true, true, true, true, true, true, true, true, true, true, true, true, true, false, false, false, false, false] #[true, true, true, true, true, true, true, true, true, true, true, true, true, true, true, true, true, false, true, true, true, true, true, false, false, false, false] rfl rfl rfl rfl (by kernel_rfl) (by decide) (by decide) (fun K hK => ?_) (fun K hK => ?_)
    ·skip
     have hcv : (convert 23 9 (.slice (some ⟨gM, 0, none⟩) 32 32)).run Try.prog y16_15 = .ok (.string z32) y16_15 := own_string (P := Try.prog) Try.underlying23 Try.underlying5 Try.underlying9 HO_16_15.out
     refine value_ (w1 := y16_15) (v := .string z32) (by rfl) rfl ?_ ?_
     ·go_simp
     clear hcv
     refine hK.out _ _ ⟨c10_16_15, c11_16_15, c12_16_15, d0_16_15, d1_16_15, d2_16_15, d3_16_15, d4_16_15⟩ (fun hHeld => ?_)
     clear hK K
     refine norm_ (a' := ?_) ?_ ?_
     rotate_left
     ·show Act.put _ (some 26) _ = _
      simp only [Act.put, List.setIfInBounds_toArray, List.set_cons_zero, List.set_cons_succ, i64_w, i32_w]
      rfl
     refine one_ (i := 22) (N := some 31) #[true, true, true, true, true, true, true, true, true, true, true, true, true, true, true, true, true, true, true, true, true, true, true, false, false, false, false] rfl rfl (by kernel_rfl) (by decide) (fun K hK => ?_)
     refine goes_ Try.func48 (by kernel_rfl) rfl #[.agg #[.int .i64 1, .int .i64 3, .int .i64 1, .string bA, .int .i64 0]] (by rfl) rfl rfl (by simp only [List.map_toArray, List.map_cons, List.map_nil]; rfl) ?_
     refine (strongroomref13_Bytes.calls 20 1 3 1 bA 0 bb y16_15 HBB.out).mono ?_
     rintro e y16_15_22 ⟨rfl, hb⟩
     refine ⟨_, rfl, ?_⟩
     have c10_16_15_22 : y16_15_22.cell? ⟨g1, 0, none⟩ = some (.string z32) := pw_cell_below hb c10_16_15
     have c11_16_15_22 : y16_15_22.cell? ⟨g1, 1, none⟩ = some (.int .i64 1) := pw_cell_below hb c11_16_15
     have c12_16_15_22 : y16_15_22.cell? ⟨g1, 2, none⟩ = some (.slice (some ⟨gA, 0, none⟩) 1 cA) := pw_cell_below hb c12_16_15
     have d0_16_15_22 : y16_15_22.cell? ⟨gA, 0, none⟩ = some (.int .i64 1) := pw_cell_below hb d0_16_15
     have d1_16_15_22 : y16_15_22.cell? ⟨gA, 1, none⟩ = some (.int .i64 3) := pw_cell_below hb d1_16_15
     have d2_16_15_22 : y16_15_22.cell? ⟨gA, 2, none⟩ = some (.int .i64 1) := pw_cell_below hb d2_16_15
     have d3_16_15_22 : y16_15_22.cell? ⟨gA, 3, none⟩ = some (.string bA) := pw_cell_below hb d3_16_15
     have d4_16_15_22 : y16_15_22.cell? ⟨gA, 4, none⟩ = some (.int .i64 0) := pw_cell_below hb d4_16_15
     have HC_16_15_22 : Aside0 (Kd.C k64 y16_15_22 (some ⟨gA, 0, none⟩) 1 [(⟨1, 3, 1, bA, 0⟩ : S64)]) := ⟨Kd.C_below HC_16_15.out hb⟩
     have HL_16_15_22 : Aside0 (Below w.heap.size w y16_15_22) := ⟨below_step HL_16_15.out hb⟩
     have HO_16_15_22 : Aside0 (y16_15_22.ownsRow 0 5 1 (.slice (some ⟨gM, 0, none⟩) 32 32) 32 (nums .u8 (List.replicate 32 0))) := ⟨pw_own_below HO_16_15.out hb⟩
     clear hb
     refine hK.out _ _ ⟨c10_16_15_22, c11_16_15_22, c12_16_15_22, d0_16_15_22, d1_16_15_22, d2_16_15_22, d3_16_15_22, d4_16_15_22⟩ (fun hHeld => ?_)
     clear hK K
     refine norm_ (a' := ?_) ?_ ?_
     rotate_left
     ·show Act.put _ (some 31) _ = _
      simp only [Act.put, List.setIfInBounds_toArray, List.set_cons_zero, List.set_cons_succ, i64_w, i32_w]
      rfl
     exact norm_ (by simp only [putAll, Act.put, List.setIfInBounds_toArray, List.set_cons_zero, List.set_cons_succ]) (hCont gM _ ⟨c10_16_15_22, c11_16_15_22, c12_16_15_22, d0_16_15_22, d1_16_15_22, d2_16_15_22, d3_16_15_22, d4_16_15_22, HL_16_15_22⟩)
    ·skip
     refine goes_ Try.func48 (by kernel_rfl) rfl #[.agg #[.int .i64 1, .int .i64 3, .int .i64 1, .string bA, .int .i64 0]] (by rfl) rfl rfl (by simp only [List.map_toArray, List.map_cons, List.map_nil]; rfl) ?_
     refine (strongroomref13_Bytes.calls 20 1 3 1 bA 0 bb y16_15 HBB.out).mono ?_
     rintro e y16_15_22 ⟨rfl, hb⟩
     refine ⟨_, rfl, ?_⟩
     have c10_16_15_22 : y16_15_22.cell? ⟨g1, 0, none⟩ = some (.string z32) := pw_cell_below hb c10_16_15
     have c11_16_15_22 : y16_15_22.cell? ⟨g1, 1, none⟩ = some (.int .i64 1) := pw_cell_below hb c11_16_15
     have c12_16_15_22 : y16_15_22.cell? ⟨g1, 2, none⟩ = some (.slice (some ⟨gA, 0, none⟩) 1 cA) := pw_cell_below hb c12_16_15
     have d0_16_15_22 : y16_15_22.cell? ⟨gA, 0, none⟩ = some (.int .i64 1) := pw_cell_below hb d0_16_15
     have d1_16_15_22 : y16_15_22.cell? ⟨gA, 1, none⟩ = some (.int .i64 3) := pw_cell_below hb d1_16_15
     have d2_16_15_22 : y16_15_22.cell? ⟨gA, 2, none⟩ = some (.int .i64 1) := pw_cell_below hb d2_16_15
     have d3_16_15_22 : y16_15_22.cell? ⟨gA, 3, none⟩ = some (.string bA) := pw_cell_below hb d3_16_15
     have d4_16_15_22 : y16_15_22.cell? ⟨gA, 4, none⟩ = some (.int .i64 0) := pw_cell_below hb d4_16_15
     have HC_16_15_22 : Aside0 (Kd.C k64 y16_15_22 (some ⟨gA, 0, none⟩) 1 [(⟨1, 3, 1, bA, 0⟩ : S64)]) := ⟨Kd.C_below HC_16_15.out hb⟩
     have HL_16_15_22 : Aside0 (Below w.heap.size w y16_15_22) := ⟨below_step HL_16_15.out hb⟩
     have HO_16_15_22 : Aside0 (y16_15_22.ownsRow 0 5 1 (.slice (some ⟨gM, 0, none⟩) 32 32) 32 (nums .u8 (List.replicate 32 0))) := ⟨pw_own_below HO_16_15.out hb⟩
     clear hb
     refine hK.out _ _ ⟨c10_16_15_22, c11_16_15_22, c12_16_15_22, d0_16_15_22, d1_16_15_22, d2_16_15_22, d3_16_15_22, d4_16_15_22⟩ (fun hHeld => ?_)
     clear hK K
     refine norm_ (a' := ?_) ?_ ?_
     rotate_left
     ·show Act.put _ (some 31) _ = _
      simp only [Act.put, List.setIfInBounds_toArray, List.set_cons_zero, List.set_cons_succ, i64_w, i32_w]
      rfl
     refine one_ (i := 17) (N := some 26) #[true, true, true, true, true, true, true, true, true, true, true, true, true, true, true, true, true, true, true, true, true, true, true, false, false, false, false] rfl rfl (by kernel_rfl) (by decide) (fun K hK => ?_)
     have hcv : (convert 23 9 (.slice (some ⟨gM, 0, none⟩) 32 32)).run Try.prog y16_15_22 = .ok (.string z32) y16_15_22 := own_string (P := Try.prog) Try.underlying23 Try.underlying5 Try.underlying9 HO_16_15_22.out
     refine value_ (w1 := y16_15_22) (v := .string z32) (by rfl) rfl ?_ ?_
     ·go_simp
     clear hcv
     refine hK.out _ _ ⟨c10_16_15_22, c11_16_15_22, c12_16_15_22, d0_16_15_22, d1_16_15_22, d2_16_15_22, d3_16_15_22, d4_16_15_22⟩ (fun hHeld => ?_)
     clear hK K
     refine norm_ (a' := ?_) ?_ ?_
     rotate_left
     ·show Act.put _ (some 26) _ = _
      simp only [Act.put, List.setIfInBounds_toArray, List.set_cons_zero, List.set_cons_succ, i64_w, i32_w]
      rfl
     exact norm_ (by simp only [putAll, Act.put, List.setIfInBounds_toArray, List.set_cons_zero, List.set_cons_succ]) (hCont gM _ ⟨c10_16_15_22, c11_16_15_22, c12_16_15_22, d0_16_15_22, d1_16_15_22, d2_16_15_22, d3_16_15_22, d4_16_15_22, HL_16_15_22⟩)
   ·skip
    have hcv : (convert 23 9 (.slice (some ⟨gM, 0, none⟩) 32 32)).run Try.prog y16 = .ok (.string z32) y16 := own_string (P := Try.prog) Try.underlying23 Try.underlying5 Try.underlying9 HO_16.out
    refine value_ (w1 := y16) (v := .string z32) (by rfl) rfl ?_ ?_
    ·go_simp
    clear hcv
    refine hK.out _ _ ⟨c10_16, c11_16, c12_16, d0_16, d1_16, d2_16, d3_16, d4_16⟩ (fun hHeld => ?_)
    clear hK K
    refine norm_ (a' := ?_) ?_ ?_
    rotate_left
    ·show Act.put _ (some 26) _ = _
     simp only [Act.put, List.setIfInBounds_toArray, List.set_cons_zero, List.set_cons_succ, i64_w, i32_w]
     rfl
    refine one_ (i := 15) (N := some 24) #[true, true, true, true, true, true, true, true, true, true, true, true, true, true, true, true, true, true, true, true, true, true, false, false, false, false, false] rfl rfl (by kernel_rfl) (by decide) (fun K hK => ?_)
    refine goes_ Try.func44 (by kernel_rfl) rfl #[.agg #[.string z32, .int .i64 1, .slice (some ⟨gA, 0, none⟩) 1 cA]] (by rfl) rfl rfl (by simp only [List.map_toArray, List.map_cons, List.map_nil]; rfl) ?_
    refine (audit_Digest.calls 20 z32 1 (some ⟨gA, 0, none⟩) cA [(⟨1, 3, 1, bA, 0⟩ : S64)] D y16 HC_16.out HCA.out HDG.out).mono ?_
    rintro e y16_15 ⟨rfl, hb⟩
    refine ⟨_, rfl, ?_⟩
    have c10_16_15 : y16_15.cell? ⟨g1, 0, none⟩ = some (.string z32) := pw_cell_below hb c10_16
    have c11_16_15 : y16_15.cell? ⟨g1, 1, none⟩ = some (.int .i64 1) := pw_cell_below hb c11_16
    have c12_16_15 : y16_15.cell? ⟨g1, 2, none⟩ = some (.slice (some ⟨gA, 0, none⟩) 1 cA) := pw_cell_below hb c12_16
    have d0_16_15 : y16_15.cell? ⟨gA, 0, none⟩ = some (.int .i64 1) := pw_cell_below hb d0_16
    have d1_16_15 : y16_15.cell? ⟨gA, 1, none⟩ = some (.int .i64 3) := pw_cell_below hb d1_16
    have d2_16_15 : y16_15.cell? ⟨gA, 2, none⟩ = some (.int .i64 1) := pw_cell_below hb d2_16
    have d3_16_15 : y16_15.cell? ⟨gA, 3, none⟩ = some (.string bA) := pw_cell_below hb d3_16
    have d4_16_15 : y16_15.cell? ⟨gA, 4, none⟩ = some (.int .i64 0) := pw_cell_below hb d4_16
    have HC_16_15 : Aside0 (Kd.C k64 y16_15 (some ⟨gA, 0, none⟩) 1 [(⟨1, 3, 1, bA, 0⟩ : S64)]) := ⟨Kd.C_below HC_16.out hb⟩
    have HL_16_15 : Aside0 (Below w.heap.size w y16_15) := ⟨below_step HL_16.out hb⟩
    have HO_16_15 : Aside0 (y16_15.ownsRow 0 5 1 (.slice (some ⟨gM, 0, none⟩) 32 32) 32 (nums .u8 (List.replicate 32 0))) := ⟨pw_own_below HO_16.out hb⟩
    clear hb
    refine hK.out _ _ ⟨c10_16_15, c11_16_15, c12_16_15, d0_16_15, d1_16_15, d2_16_15, d3_16_15, d4_16_15⟩ (fun hHeld => ?_)
    clear hK K
    refine norm_ (a' := ?_) ?_ ?_
    rotate_left
    ·show Act.put _ (some 24) _ = _
     simp only [Act.put, List.setIfInBounds_toArray, List.set_cons_zero, List.set_cons_succ, i64_w, i32_w]
     rfl
    refine one_ (i := 22) (N := some 31) #[true, true, true, true, true, true, true, true, true, true, true, true, true, true, true, true, true, true, true, true, true, true, true, false, false, false, false] rfl rfl (by kernel_rfl) (by decide) (fun K hK => ?_)
    refine goes_ Try.func48 (by kernel_rfl) rfl #[.agg #[.int .i64 1, .int .i64 3, .int .i64 1, .string bA, .int .i64 0]] (by rfl) rfl rfl (by simp only [List.map_toArray, List.map_cons, List.map_nil]; rfl) ?_
    refine (strongroomref13_Bytes.calls 20 1 3 1 bA 0 bb y16_15 HBB.out).mono ?_
    rintro e y16_15_22 ⟨rfl, hb⟩
    refine ⟨_, rfl, ?_⟩
    have c10_16_15_22 : y16_15_22.cell? ⟨g1, 0, none⟩ = some (.string z32) := pw_cell_below hb c10_16_15
    have c11_16_15_22 : y16_15_22.cell? ⟨g1, 1, none⟩ = some (.int .i64 1) := pw_cell_below hb c11_16_15
    have c12_16_15_22 : y16_15_22.cell? ⟨g1, 2, none⟩ = some (.slice (some ⟨gA, 0, none⟩) 1 cA) := pw_cell_below hb c12_16_15
    have d0_16_15_22 : y16_15_22.cell? ⟨gA, 0, none⟩ = some (.int .i64 1) := pw_cell_below hb d0_16_15
    have d1_16_15_22 : y16_15_22.cell? ⟨gA, 1, none⟩ = some (.int .i64 3) := pw_cell_below hb d1_16_15
    have d2_16_15_22 : y16_15_22.cell? ⟨gA, 2, none⟩ = some (.int .i64 1) := pw_cell_below hb d2_16_15
    have d3_16_15_22 : y16_15_22.cell? ⟨gA, 3, none⟩ = some (.string bA) := pw_cell_below hb d3_16_15
    have d4_16_15_22 : y16_15_22.cell? ⟨gA, 4, none⟩ = some (.int .i64 0) := pw_cell_below hb d4_16_15
    have HC_16_15_22 : Aside0 (Kd.C k64 y16_15_22 (some ⟨gA, 0, none⟩) 1 [(⟨1, 3, 1, bA, 0⟩ : S64)]) := ⟨Kd.C_below HC_16_15.out hb⟩
    have HL_16_15_22 : Aside0 (Below w.heap.size w y16_15_22) := ⟨below_step HL_16_15.out hb⟩
    have HO_16_15_22 : Aside0 (y16_15_22.ownsRow 0 5 1 (.slice (some ⟨gM, 0, none⟩) 32 32) 32 (nums .u8 (List.replicate 32 0))) := ⟨pw_own_below HO_16_15.out hb⟩
    clear hb
    refine hK.out _ _ ⟨c10_16_15_22, c11_16_15_22, c12_16_15_22, d0_16_15_22, d1_16_15_22, d2_16_15_22, d3_16_15_22, d4_16_15_22⟩ (fun hHeld => ?_)
    clear hK K
    refine norm_ (a' := ?_) ?_ ?_
    rotate_left
    ·show Act.put _ (some 31) _ = _
     simp only [Act.put, List.setIfInBounds_toArray, List.set_cons_zero, List.set_cons_succ, i64_w, i32_w]
     rfl
    exact norm_ (by simp only [putAll, Act.put, List.setIfInBounds_toArray, List.set_cons_zero, List.set_cons_succ]) (hCont gM _ ⟨c10_16_15_22, c11_16_15_22, c12_16_15_22, d0_16_15_22, d1_16_15_22, d2_16_15_22, d3_16_15_22, d4_16_15_22, HL_16_15_22⟩)
 rintro gM w5 ⟨c10z, c11z, c12z, d0z, d1z, d2z, d3z, d4z, HLz⟩
 have hHeld := (⟨c10z, c11z, c12z, d0z, d1z, d2z, d3z, d4z⟩ : w5.cell? ⟨g1, 0, none⟩ = some (.string z32) ∧ w5.cell? ⟨g1, 1, none⟩ = some (.int .i64 1) ∧ w5.cell? ⟨g1, 2, none⟩ = some (.slice (some ⟨gA, 0, none⟩) 1 cA) ∧ w5.cell? ⟨gA, 0, none⟩ = some (.int .i64 1) ∧ w5.cell? ⟨gA, 1, none⟩ = some (.int .i64 3) ∧ w5.cell? ⟨gA, 2, none⟩ = some (.int .i64 1) ∧ w5.cell? ⟨gA, 3, none⟩ = some (.string bA) ∧ w5.cell? ⟨gA, 4, none⟩ = some (.int .i64 0))
 refine norm_ (a' := ?_) ?_ ?_
 rotate_left
 ·simp only [putAll, Act.put, List.setIfInBounds_toArray, List.set_cons_zero, List.set_cons_succ]
  rfl
 refine one_ (i := 23) (N := some 32) #[true, true, true, true, true, true, true, true, true, true, true, true, true, true, true, true, true, true, true, true, true, true, true, true, false, false, false] rfl rfl (by kernel_rfl) (by decide) (fun K hK => ?_)
 refine goes_ Try.func47 (by kernel_rfl) rfl #[.string z32, .string bb] (by rfl) rfl rfl (by simp only [List.map_toArray, List.map_cons, List.map_nil]; rfl) ?_
 refine (mac_Seal.calls z32 bb D _ HSL.out).mono ?_
 rintro e w6 ⟨rfl, hb⟩
 refine ⟨_, rfl, ?_⟩
 have c10y : w6.cell? ⟨g1, 0, none⟩ = some (.string z32) := pw_cell_below hb c10z
 have c11y : w6.cell? ⟨g1, 1, none⟩ = some (.int .i64 1) := pw_cell_below hb c11z
 have c12y : w6.cell? ⟨g1, 2, none⟩ = some (.slice (some ⟨gA, 0, none⟩) 1 cA) := pw_cell_below hb c12z
 have d0y : w6.cell? ⟨gA, 0, none⟩ = some (.int .i64 1) := pw_cell_below hb d0z
 have d1y : w6.cell? ⟨gA, 1, none⟩ = some (.int .i64 3) := pw_cell_below hb d1z
 have d2y : w6.cell? ⟨gA, 2, none⟩ = some (.int .i64 1) := pw_cell_below hb d2z
 have d3y : w6.cell? ⟨gA, 3, none⟩ = some (.string bA) := pw_cell_below hb d3z
 have d4y : w6.cell? ⟨gA, 4, none⟩ = some (.int .i64 0) := pw_cell_below hb d4z
 have HLy := Aside0.mk (below_step HLz.out hb)
 clear hb
 refine hK.out _ _ ⟨c10y, c11y, c12y, d0y, d1y, d2y, d3y, d4y⟩ (fun hHeld => ?_)
 clear hK K
 refine norm_ (a' := ?_) ?_ ?_
 rotate_left
 ·show Act.put _ (some 32) _ = _
  simp only [Act.put, List.setIfInBounds_toArray, List.set_cons_zero, List.set_cons_succ, i64_w, i32_w]
  rfl
 refine pure_ (i := 24) (N := some 33) (v := ?_) (a' := ?_) #[true, true, true, true, true, true, true, true, true, true, true, true, true, true, true, true, true, true, true, true, true, true, true, true, true, false, false] rfl rfl (by kernel_rfl) (fun _ _ _ h => h) (Or.inl ⟨by rfl, ?_⟩) ?_ ?_
 rotate_left
 ·intro w'
  go_simp
  with_reducible rfl
 rotate_left
 ·simp only [Act.put, List.setIfInBounds_toArray, List.set_cons_zero, List.set_cons_succ, i64_w, i32_w]
  rfl
 refine pure_ (i := 25) (N := some 34) (v := ?_) (a' := ?_) #[true, true, true, true, true, true, true, true, true, true, true, true, true, true, true, true, true, true, true, true, true, true, true, true, true, true, false] rfl rfl (by kernel_rfl) (fun _ _ _ h => h) (Or.inl ⟨by rfl, ?_⟩) ?_ ?_
 rotate_left
 ·intro w'
  go_simp
  with_reducible rfl
 rotate_left
 ·simp only [Act.put, List.setIfInBounds_toArray, List.set_cons_zero, List.set_cons_succ, i64_w, i32_w]
  rfl
 refine pure_ (i := 26) (N := some 0) (v := ?_) (a' := ?_) #[true, true, true, true, true, true, true, true, true, true, true, true, true, true, true, true, true, true, true, true, true, true, true, true, true, true, true] rfl rfl (by kernel_rfl) (fun _ _ _ h => h) (Or.inl ⟨by rfl, ?_⟩) ?_ ?_
 rotate_left
 ·intro w'
  go_simp
  with_reducible rfl
 rotate_left
 ·simp only [Act.put, List.setIfInBounds_toArray, List.set_cons_zero, List.set_cons_succ, i64_w, i32_w]
  rfl
 refine done_ (by kernel_rfl) ?_
 go_wp2
 go_ret
 exact ⟨rfl, HLy.out⟩

def strongroomlaw13_lives.f : Option Bool := some true
theorem strongroomlaw13_lives.calls (r : Bool) (w : World) (h : strongroomlaw13_lives.f = some r) : Calls Try.prog 34 #[] w fun e w' => e = .returned (.bool r) ∧ Below w.heap.size w w' := by
 obtain rfl := Option.some.inj h
 exact lives13_walk w

end Go.Proofs.Ytcdnmlfnfhoieaa.A
