/- ShaWhole, for all bytes: the law answers true, and every argument reads behind the call as before. No condition beyond the row's own. -/
import Derived.Test.YtcdnmlfnfhoieaaMSha0
import Derived.Lib.LazyBuf
import Derived.Deep.SlicePairs
import Derived.Lib.SmallJoins
import Derived.ChangeMaps5
import Derived.OpenShut
import Derived.Test.YtcdnmlfnfhoieaaRows
import Derived.WalkKit
import Derived.ProofKit
import Derived.ShutString
import Derived.ChangeOld
import Derived.Below
import Derived.SizedLaws

/- sha.Mix and lives() of layer 2, walked. Condition: the block has 64 bytes. -/
namespace Go.Proofs.Ytcdnmlfnfhoieaa.A
open Go.RowKit Go.Proofs.YtcdnmlfnfhoieaaW.PrintWords Go.Proofs.YtcdnmlfnfhoieaaW.PrintLast Go.Proofs.YtcdnmlfnfhoieaaW.PrintMore Go.Proofs.Ytcdnmlfnfhoieaa.Bs
set_option linter.unusedVariables false
set_option linter.unusedSimpArgs false

set_option maxHeartbeats 4000000 in
set_option maxRecDepth 100000 in
theorem shamix_walk {w : World} {A : Option Addr} {c : Nat} {S B : List Int} (hS : S.length = 8) (hl : B.length = 64) (hB : (Kd.int .u8).C w A 64 B) (hc : 64 ≤ c) :
  Calls Try.prog 28 #[.agg (cs32 S), .slice A 64 c] w fun e w' => e = .returned (.tuple #[.agg (cs32 (mixP K64 S B)), .int .i64 0]) ∧ Below w.heap.size w w' := by
 have hu38 := Try.underlying38
 have hu106 := Try.underlying106
 obtain ⟨b, o, rfl, hblt, hcells⟩ := C_int_lit (k := .u8) hB (by decide)
 have HCE := Aside0.mk hcells
 have HS := Aside0.mk hS
 have HC := Aside0.mk hc
 have HI38 : Aside0 ((Try.prog.info? 38).map (·.size) = some 8) := ⟨by kernel_rfl⟩
 have HI106 : Aside0 ((Try.prog.info? 106).map (·.size) = some 64) := ⟨by kernel_rfl⟩
 clear hB hblt hcells hS hc hl
 go_enter Try.func28, Try.ntmps28
 go_upto_region 3 with (first | ((with_reducible refine gate_dst (N := 2) rfl ?_); refine box_event ?hg (N := 2) ?hd (cs := cs32 S) (t := 38) ?hr ?_; (case hd => rfl); (case hg => rfl); (case hr => first | (go_simp; done) | (go_simp; rfl)); intro g2 hg2 w2 hb2 hbel2; have HG2 := Aside0.mk hg2; have HB2 := Aside0.mk hb2; have HL2 := Aside0.mk hbel2; clear hg2 hb2 hbel2) | ((with_reducible refine gate_dst (N := 4) rfl ?_); refine box_event ?hg (N := 4) ?hd (cs := cs32 (List.replicate 8 0)) (t := 38) ?hr ?_; (case hd => rfl); (case hg => rfl); (case hr => first | (go_simp; done) | (go_simp; rfl)); intro g4 hg4 w4 hb4 hbel4; have HG4 := Aside0.mk hg4; have HB4 := Aside0.mk hb4; have HL4 := Aside0.mk hbel4; clear hg4 hb4 hbel4))
 have hs2 : w4.heap[g2]? = some (.cells (cs32 S) 38 (0, 0)) := blk_below HB2.out HL4.out
 have hl4 := below_step HL2.out HL4.out
 have hgw : w.heap.size ≤ g4 := by rw [HG4.out]; exact below_size HL2.out
 have hlt : g2 < w4.heap.size ∧ g4 < w4.heap.size := ⟨blk_lt hs2, blk_lt HB4.out⟩
 have hne : g2 ≠ g4 := by rw [HG4.out]; exact Nat.ne_of_lt (blk_lt HB2.out)
 have HS2 := Aside0.mk hs2
 have HLA := Aside0.mk hl4
 have HGW := Aside0.mk hgw
 have HLT := Aside0.mk hlt
 clear hs2 hl4 hgw hlt hne HG2 HG4 HB2 HL2 HL4
 have HK106 : Aside0 ((cs32 K64).size = 64 ∧ (cs32 K64).all (·.oneCell') = true) := ⟨by rw [cs32_size, K64_length], cs32_all _⟩
 have HI106b : Aside0 ((Try.prog.info? 106).map (·.size) = some (cs32 K64).size) := ⟨by rw [HK106.out.1]; exact HI106.out⟩
 have HO106 : Aside0 ((cs32 (List.replicate 64 0)).size = (cs32 K64).size) := ⟨by rw [HK106.out.1, cs32_size, List.length_replicate]⟩
 go_wp2_with fail
 refine (sha_roots.calls w4).mono ?_
 rintro e w5 ⟨rfl, hb5⟩
 have HS5 := Aside0.mk (blk_below HS2.out hb5)
 have HB5 := Aside0.mk (blk_below HB4.out hb5)
 have HL5 := Aside0.mk (below_step HLA.out hb5)
 clear hb5 HS2 HB4 HLA
 go_upto_region 4 with (first | ((with_reducible refine gate_dst (N := 6) rfl ?_); refine box_event ?hg (N := 6) ?hd (cs := cs32 (List.replicate 64 0)) (t := 106) ?hr ?_; (case hd => rfl); (case hg => rfl); (case hr => first | (go_simp; done) | (go_simp; rfl)); intro g6 hg6 w6 hb6 hbel6; have HG6 := Aside0.mk hg6; have HB6 := Aside0.mk hb6; have HS6 := Aside0.mk (blk_below HS5.out hbel6); have HT6 := Aside0.mk (blk_below HB5.out hbel6); have HL6 := Aside0.mk (below_step HL5.out hbel6); have HN6 : Aside0 (g2 < g6 ∧ g4 < g6 ∧ w.heap.size ≤ g6) := ⟨by rw [hg6]; exact ⟨blk_lt HS5.out, blk_lt HB5.out, below_size HL5.out⟩⟩; clear hg6 hb6 hbel6) | (refine gate_ (.store 106 (.tmp 6) (.tmp 11)) rfl ?_; refine wpList_store_row rfl 106 (.tmp 6) (.tmp 11) rfl g6 (cs32 K64) rfl rfl 106 _ HB6.out HI106b.out HO106.out HK106.out.2 ?_))
 have hk7 : (w6.setRow g6 (cs32 K64)).heap[g6]? = some (.cells (cs32 K64) 106 (0, 0)) := setRow_heap _ _ _ _ _ _ HB6.out
 have hs7 : (w6.setRow g6 (cs32 K64)).heap[g2]? = some (.cells (cs32 S) 38 (0, 0)) := by rw [setRow_other _ _ _ _ (Nat.ne_of_lt HN6.out.1)]; exact HS6.out
 have ht7 : (w6.setRow g6 (cs32 K64)).heap[g4]? = some (.cells (cs32 (List.replicate 8 0)) 38 (0, 0)) := by rw [setRow_other _ _ _ _ (Nat.ne_of_lt HN6.out.2.1)]; exact HT6.out
 have hl7 := HL6.out.trans (below_setRow (cs := cs32 K64) HN6.out.2.2)
 generalize w6.setRow g6 (cs32 K64) = w7 at hk7 hs7 ht7 hl7 ⊢
 have HK7 := Aside0.mk hk7
 have HS7 := Aside0.mk hs7
 have HT7 := Aside0.mk ht7
 have HL7 := Aside0.mk hl7
 clear hk7 hs7 ht7 hl7 HB6 HS6 HT6 HL6 HS5 HB5 HL5 HG6 HI106b HO106
 have HI38b : Aside0 ((Try.prog.info? 38).map (·.size) = some (cs32 S).size) := ⟨by rw [cs32_size, HS.out]; exact HI38.out⟩
 go_wp2_with ((with_reducible refine gate_dst (N := 12) rfl ?_); refine wpList_load_row rfl 38 (.tmp 2) rfl g2 rfl 38 (cs32 S) (0, 0) _ HS7.out hu38 rfl HI38b.out ?_)
 have hmx := mix_walk (w := w7) (gK := g6) (b := b) (o := o) (c := c) (K := K64) (S := S) (B := B) (fun i hi => by rw [blk_cell HK7.out i]; exact cs32_get _ i (by rw [K64_length]; exact hi)) (fun i hi => pw_cell_below HL7.out (HCE.out i hi)) HS.out HC.out
 refine hmx.mono ?_
 rintro e w8 ⟨rfl, hb8⟩
 have HT8 := Aside0.mk (blk_below HT7.out hb8)
 have HL8 := Aside0.mk (below_step HL7.out hb8)
 have HZ8 : Aside0 ((cs32 (mixP K64 S B)).size = 8 ∧ (cs32 (mixP K64 S B)).all (·.oneCell') = true) := ⟨by rw [cs32_size, mixP_length, HS.out], cs32_all _⟩
 obtain ⟨Z, hZ⟩ : ∃ Z, mixP K64 S B = Z := ⟨_, rfl⟩
 rw [hZ] at HZ8 ⊢
 have HZE := Aside0.mk hZ
 have HI38c : Aside0 ((Try.prog.info? 38).map (·.size) = some (cs32 Z).size) := ⟨by rw [HZ8.out.1]; exact HI38.out⟩
 have HO38 : Aside0 ((cs32 (List.replicate 8 0)).size = (cs32 Z).size) := ⟨by rw [HZ8.out.1, cs32_size, List.length_replicate]⟩
 clear hb8 hmx hZ HT7 HL7 HK7 HS7
 go_wp2_with (refine gate_ (.store 38 (.tmp 4) (.tmp 14)) rfl ?_; refine wpList_store_row rfl 38 (.tmp 4) (.tmp 14) rfl g4 (cs32 Z) rfl rfl 38 _ HT8.out HI38c.out HO38.out HZ8.out.2 ?_)
 refine bodyPost_ret_by (results_ct rfl _ _ g4 38 (cs32 Z) (0, 0) _ rfl (setRow_heap _ _ _ _ _ _ HT8.out) hu38 rfl HI38c.out) rfl ?_
 exact ⟨by rw [HZE.out]; rfl, HL8.out.trans (below_setRow HGW.out)⟩

theorem root_sq : sha_Root.f 60 2 false = some 1779033703 := by kernel_rfl
theorem root_cu : sha_Root.f 60 2 true = some 1116352408 := by kernel_rfl
set_option maxRecDepth 100000 in
theorem sum_none : (sumP []).extract 0 4 = ⟨#[227, 176, 196, 66]⟩ := by kernel_rfl
set_option maxHeartbeats 4000000 in
set_option maxRecDepth 100000 in
theorem lives2_walk (w : World) : Calls Try.prog 24 #[] w fun e w' => e = .returned (.bool true) ∧ Below w.heap.size w w' := by
 have hsw := sum_walk (w := w) (A := none) (c := 0) (B := []) ⟨rfl, by simp, fun h => absurd h (Nat.lt_irrefl _)⟩ (Nat.le_refl _) (by decide) (fun _ h => by cases h)
 obtain ⟨s, hs⟩ : ∃ s, sumP [] = s := ⟨_, rfl⟩
 have z1 : s.size = 32 := by rw [← hs, sumP_size]
 have z2 : s.extract 0 4 = ⟨#[227, 176, 196, 66]⟩ := by rw [← hs]; exact sum_none
 rw [hs] at hsw
 have HSW := Aside0.mk hsw
 clear hsw hs
 go_enter Try.func24, Try.ntmps24
 go_wp2_with fail
 refine HSW.out.mono ?_
 rintro e w1 ⟨rfl, hb1⟩
 have HL1 := Aside0.mk hb1
 clear hb1 HSW
 go_wp2_with fail
 refine (sha_Root.calls 60 2 false _ w1 root_sq).mono ?_
 rintro e w2 ⟨rfl, ⟨n2, rfl⟩⟩
 go_wp2_with fail
 refine (sha_Root.calls 60 2 true _ _ root_cu).mono ?_
 rintro e w3 ⟨rfl, ⟨n3, rfl⟩⟩
 go_wp2_with fail
 go_ret
 exact ⟨rfl, pw_below_drewN HL1.out _⟩

end Go.Proofs.Ytcdnmlfnfhoieaa.A

/- ShaWhole, walked: the digest of bytes is what mixing makes of the roots' words, with each block of them and of their padding. No condition. -/
namespace Go.Proofs.Ytcdnmlfnfhoieaa.A
open Go.RowKit Go.Proofs.YtcdnmlfnfhoieaaW.PrintWords Go.Proofs.YtcdnmlfnfhoieaaW.PrintLast Go.Proofs.YtcdnmlfnfhoieaaW.PrintMore Go.Proofs.Ytcdnmlfnfhoieaa.Bs
set_option linter.unusedVariables false
set_option linter.unusedSimpArgs false

theorem wrap_u32_mod (n : Int) : IntKind.u32.wrap n = n % 4294967296 := by
 unfold IntKind.wrap
 have e : (2 : Int) ^ IntKind.u32.bits = 4294967296 := by decide
 have s : IntKind.u32.signed = false := rfl
 simp only [e, s, Bool.false_and]
 rw [if_neg (by simp)]
def InW (x : Int) : Prop := 0 ≤ x ∧ x < 4294967296
theorem mod_InW (x : Int) : InW (x % 4294967296) := ⟨Int.emod_nonneg _ (by decide), Int.emod_lt_of_pos _ (by decide)⟩
theorem mixP_InW (K S B : List Int) (hS : S.length = 8) : ∀ x ∈ mixP K S B, InW x := by
 obtain ⟨s0, s1, s2, s3, s4, s5, s6, s7, rfl⟩ := eight hS
 intro x hx
 unfold mixP at hx
 generalize (roundsP K (schedP B 64) (ofL [s0, s1, s2, s3, s4, s5, s6, s7]) 64).toL = Z at hx
 simp only [addP, List.set_cons_zero, List.set_cons_succ, List.getD_cons_zero, List.getD_cons_succ, List.mem_cons, List.not_mem_nil, or_false] at hx
 rcases hx with rfl | rfl | rfl | rfl | rfl | rfl | rfl | rfl <;> exact mod_InW _
theorem absorb_InW (K : List Int) : ∀ (m : Nat) (S L : List Int), S.length = 8 → (∀ x ∈ S, InW x) → ∀ x ∈ (absorb K m S L).1, InW x := by
 intro m
 induction m with
 | zero => intro S L _ h; exact h
 | succ m ih =>
  intro S L hS h
  rw [absorb]
  split
  ·exact h
  ·exact ih _ _ (by rw [mixP_length]; exact hS) (mixP_InW K S _ hS)
theorem H8_InW : ∀ x ∈ H8, InW x := by
 intro x hx
 simp only [H8, List.mem_cons, List.not_mem_nil, or_false] at hx
 rcases hx with rfl | rfl | rfl | rfl | rfl | rfl | rfl | rfl <;> exact ⟨by decide, by decide⟩
theorem b32_getD (S : List Int) (i j : Nat) (hj : j < 4) : ∀ n, i < n → (b32 S n).getD (4 * i + j) 0 = (b4 (S.getD i 0)).getD j 0 := by
 intro n
 induction n with
 | zero => intro h; omega
 | succ n ih =>
  intro h
  rw [b32, List.getD_eq_getElem?_getD]
  by_cases hn : i < n
  ·rw [List.getElem?_append_left (by rw [b32_length]; omega), ← List.getD_eq_getElem?_getD, ih hn]
  ·have : i = n := by omega
   subst this
   rw [List.getElem?_append_right (by rw [b32_length]; omega), b32_length, show 4 * i + j - 4 * i = j by omega, ← List.getD_eq_getElem?_getD]
theorem b32_byte (S : List Int) : ∀ n, ∀ x ∈ b32 S n, 0 ≤ x ∧ x < 256 := by
 intro n
 induction n with
 | zero => intro x hx; cases hx
 | succ n ih =>
  intro x hx
  rw [b32, List.mem_append] at hx
  rcases hx with hx | hx
  ·exact ih x hx
  ·simp only [b4, List.mem_cons, List.not_mem_nil, or_false] at hx
   rcases hx with rfl | rfl | rfl | rfl <;> exact ⟨Int.emod_nonneg _ (by decide), Int.emod_lt_of_pos _ (by decide)⟩
theorem bytesOf_str' (l : List Int) (hb : ∀ x ∈ l, 0 ≤ x ∧ x < 256) : bytesOf (strOfNums l) = l := by
 unfold bytesOf
 rw [strOfNums_data, List.map_map]
 apply List.ext_getElem
 ·simp
 ·intro i h1 h2
  have := hb _ (List.getElem_mem h2)
  simp
  omega
theorem bt_digest (S : List Int) (i j : Nat) (hi : i < 8) (hj : j < 4) : bt (strOfNums (digestP S)) ((4 * i + j : Nat) : Int) = (b4 (S.getD i 0)).getD j 0 := by
 rw [← rd_bytesOf, digestP, bytesOf_str' _ (b32_byte S 8)]
 unfold rd
 rw [Int.toNat_natCast, b32_getD S i j hj 8 hi]
theorem word_back (z : Int) (h : InW z) : IntKind.u32.wrap (IntKind.u32.wrap (IntKind.u32.wrap (IntKind.u32.wrap (IntKind.u32.wrap (z / 16777216 % 256) * 16777216) + IntKind.u32.wrap (IntKind.u32.wrap (z / 65536 % 256) * 65536)) + IntKind.u32.wrap (IntKind.u32.wrap (z / 256 % 256) * 256)) + IntKind.u32.wrap (z % 256)) = z := by
 simp only [wrap_u32_mod]
 obtain ⟨h0, h1⟩ := h
 omega
theorem index_str (s : ByteArray) (i : Nat) (h : i < s.size) (w : World) : (Instr.index 9 (.string s) (.int .i64 (i : Int))).run Try.prog w = .ok (.int .u8 (bt s (i : Int))) w := by
 have hu := Try.underlying9
 have h1 : bt s (i : Int) = ((s[i]'h).toNat : Int) := by
  unfold bt
  rw [dif_pos (by simpa using h)]
  simp
 rw [h1]
 simp [Instr.index, asIntOf, run_underlying hu, h]
set_option maxHeartbeats 8000000 in
set_option maxRecDepth 100000 in
theorem whole_walk {w : World} {A : Option Addr} {c : Nat} {B : List Int} (hB : (Kd.int .u8).C w A B.length B) (hc : B.length ≤ c) :
  Calls Try.prog 5 #[.slice A B.length c] w fun e w' => e = .returned (.bool true) ∧ Below w.heap.size w w' := by
 have HB := Aside0.mk hB
 have HC := Aside0.mk hc
 clear hB hc
 by_cases hbig : B.length ≤ 1000
 ·have d0 : decide (1000 < B.length) = false := decide_eq_false (by omega)
  have d0' : decide ((1000 : Int) < (B.length : Int)) = false := decide_eq_false (by omega)
  have HBIG := Aside0.mk hbig
  have HPAD : Aside0 (sha_Pad.f 80 (B.length : Int) = some (padL B.length)) := ⟨pad_some B.length (by omega)⟩
  have hpl := padL_length B.length
  have HN1 : Aside0 (((([] : List Int)).length + B.length) * 1 ≤ 140737488355328) := ⟨by simp; omega⟩
  have HN2 : ∀ m, Aside0 (m = (padL B.length).length → (B.length + m) * 1 ≤ 140737488355328) := fun m => ⟨fun e => by omega⟩
  obtain ⟨L0, hL0⟩ : ∃ L, B ++ padL B.length = L := ⟨_, rfl⟩
  have HL0 := Aside0.mk hL0
  have HL0L : Aside0 (L0.length % 64 = 0 ∧ L0.length ≤ 1100) := ⟨by rw [← hL0, List.length_append, hpl]; omega⟩
  have HSUM : Aside0 (sumP B = strOfNums (digestP (absorb K64 L0.length H8 L0).1)) := ⟨by rw [sumP, sumL, ← hL0, List.length_append]⟩
  have hu38 := Try.underlying38
  have hu23 := Try.underlying23
  clear hbig hpl hL0
  go_enter Try.func5, Try.ntmps5
  go_upto_region 5 with (first | ((with_reducible refine gate_dst (N := 14) rfl ?_); refine Kd.R_lit (Kd.int .u8) _ 5 ?hg (N := 14) ?hd (xs := ([] : List Int)) (inner := []) (ok := fun _ => True) (okp := fun _ => True) ?hr ?hp (fun _ hk => hk) trivial (Below.refl _ _) (Nat.le_refl _) (by simp) ?_; (case hd => rfl); (case hg => rfl); (case hr => first | (go_simp; done) | (go_simp; rfl)); (case hp => exact (Reps.none _ _)); intro v1 w1 hr1 hb1 hg1 hx1; clear hg1 hx1; have HR1 := Aside0.mk hr1; have HL1 := Aside0.mk hb1; have HC1 := Aside0.mk (Kd.C_below HB.out hb1); clear hr1 hb1) | ((with_reducible refine gate_builtin (b := .append) (xs := #[.tmp 15, .tmp 16]) rfl ?_); at_builtin; refine Kd.R_append_rows (Kd.int .u8) (w0 := w) w.heap.size rfl (.tmp 15) (.tmp 16) 23 5 (.int .u8 0) 1 rfl Try.underlying23 info5 rfl (by decide) (by omega) v1 [] B _ _ _ (fun _ => True) (fun _ => False) rfl rfl HR1.out HC1.out (fun _ _ h => h) (fun _ h => h.elim) (fun _ _ => trivial) HL1.out (below_size HL1.out) HN1.out ?_; intro v2 w2 hr2 hb2 hg2 hat2; clear hg2 hat2; rw [List.nil_append] at hr2; have HR2 := Aside0.mk hr2; have HL2 := Aside0.mk hb2; clear hr2 hb2 HR1 HL1 HC1))
  go_wp2_with fail
  refine (sha_Pad.calls 80 (B.length : Int) (padL B.length) w2 HPAD.out).mono ?_
  rintro e w3 ⟨v3, rfl, hr3, hb3⟩
  obtain ⟨A3, n3, c3, rfl⟩ := R_shape hr3
  have HN3 : Aside0 (n3 = (padL B.length).length) := ⟨(Kd.R_reads' hr3).1⟩
  have HC3 : Aside0 ((Kd.int .u8).C w3 A3 n3 (padL B.length)) := ⟨by have := (Kd.R_reads' hr3).2.2; rwa [← HN3.out] at this⟩
  have HR3 := Aside0.mk (Kd.R_below HR2.out hb3)
  have HL3 := Aside0.mk (below_step HL2.out hb3)
  clear hr3 hb3 HR2 HL2
  go_upto_region 6 with ((with_reducible refine gate_builtin (b := .append) (xs := #[.tmp 18, .tmp 21]) rfl ?_); at_builtin; refine Kd.R_append_rows (Kd.int .u8) (w0 := w) w.heap.size rfl (.tmp 18) (.tmp 21) 23 5 (.int .u8 0) 1 rfl Try.underlying23 info5 rfl (by decide) (by omega) v2 B (padL B.length) _ _ _ (fun _ => True) (fun _ => False) rfl rfl HR3.out HC3.out (fun _ _ h => h) (fun _ h => h.elim) (fun _ _ => trivial) HL3.out (below_size HL3.out) ((HN2 n3).out HN3.out) ?_; intro v4 w4 hr4 hb4 hg4 hat4; clear hg4 hat4; have HR4 := Aside0.mk hr4; have HL4 := Aside0.mk hb4; clear hr4 hb4 HR3 HL3 HC3)
  rw [HL0.out] at HR4
  obtain ⟨A4, n4, c4, rfl⟩ := R_shape HR4.out
  obtain rfl : L0.length = n4 := (Kd.R_reads' HR4.out).1.symm
  go_upto_region 7 with ((with_reducible refine gate_dst (N := 4) rfl ?_); refine box_event ?hg (N := 4) ?hd (cs := cs32 (List.replicate 8 0)) (t := 38) ?hr ?_; (case hd => rfl); (case hg => rfl); (case hr => first | (go_simp; done) | (go_simp; rfl)); intro g4 hg4 w5 hb5 hbel5; have HG4 := Aside0.mk hg4; have HB5 := Aside0.mk hb5; have HL5 := Aside0.mk (below_step HL4.out hbel5); have HD5 := Aside0.mk (Kd.C_below (Kd.R_reads' HR4.out).2.2 hbel5); clear hg4 hb5 hbel5)
  have HK4 : Aside0 (L0.length ≤ c4) := ⟨(Kd.R_reads' HR4.out).2.1⟩
  have HOUT : Aside0 (Out (fun k => g4 ≤ k) A4 L0.length) := ⟨by
   intro ad e hn hk
   subst e
   obtain ⟨b, o, e, hlt, _⟩ := C_int_lit (Kd.R_reads' HR4.out).2.2 hn
   cases e
   have := HG4.out
   exact absurd hlt (Nat.not_lt_of_le (by rw [← this]; exact hk))⟩
  have HGW : Aside0 (w.heap.size ≤ g4) := ⟨by rw [HG4.out]; exact below_size HL4.out⟩
  have HG5 : Aside0 (g4 < w5.heap.size) := ⟨blk_lt HB5.out⟩
  have HF5 : Aside0 (Fr w5 w5 (fun k => g4 ≤ k)) := ⟨Fr.refl _ _⟩
  clear HR4 HL4 HG4
  have HRES : Aside0 (∃ Sf, (absorb K64 L0.length H8 L0).1 = Sf) := ⟨_, rfl⟩
  obtain ⟨Sf, hSf⟩ := HRES.out
  rw [hSf] at HSUM
  have HSF := Aside0.mk hSf
  have HIN : Aside0 (∀ x ∈ Sf, InW x) := ⟨by rw [← hSf]; exact absorb_InW K64 _ H8 L0 rfl H8_InW⟩
  clear hSf HRES
  go_wp2
  go_loopg [5] 8 (fun kq v w' => ∃ i : Nat, v = .int .i64 i ∧ Aside0 (i + kq = 8) ∧ Aside0 (w'.heap[g4]? = some (.cells (cs32 (H8.take i ++ List.replicate (8 - i) 0)) 38 (0, 0))) ∧ Aside0 (Fr w5 w' (fun k => g4 ≤ k)))
  case atStart => exact ⟨0, rfl, ⟨rfl⟩, HB5, HF5⟩
  case round =>
   clear HF5
   obtain ⟨i, rfl, HI, HBK, HF⟩ := hrel
   by_cases hi : i < 8
   ·have d1 : decide ((i : Int) < 8) = true := decide_eq_true (by omega)
    have p1 := eq_true (show (0 : Int) ≤ (i : Int) by omega)
    have p2 := eq_true (show (i : Int) < 8 by omega)
    obtain ⟨p, hp⟩ : ∃ p, primesP.getD i 0 = p := ⟨_, rfl⟩
    obtain ⟨r, hr⟩ : ∃ p, H8.getD i 0 = p := ⟨_, rfl⟩
    have HP : Aside0 (sha_Prime.f 200 (i : Int) = some p) := ⟨by rw [← hp]; exact prime_some i hi⟩
    have HR : Aside0 (sha_Root.f 60 p false = some r) := ⟨by rw [← hp, ← hr]; exact root_some i hi⟩
    have HRR := Aside0.mk hr
    have HI8 := Aside0.mk hi
    clear hp hr hi
    go_wp2_with fail
    refine (sha_Prime.calls 200 (i : Int) p _ HP.out).mono ?_
    rintro e w6 ⟨rfl, ⟨n6, rfl⟩⟩
    go_wp2_with fail
    refine (sha_Root.calls 60 p false r _ HR.out).mono ?_
    rintro e w7 ⟨rfl, ⟨n7, rfl⟩⟩
    have f1 : wr.frozen? ⟨g4, i, none⟩ = false := blk_frozen HBK.out _
    have c1 : wr.cell? ⟨g4, i, none⟩ = some (.int .u32 0) := by rw [blk_cell HBK.out i, cs32_get _ i (by rw [(h8_step i HI8.out).2.1]; exact HI8.out), (h8_step i HI8.out).2.2]
    go_wp2
    go_roundg (7 - i)
    case measure => have := HI.out; have := HI8.out; omega
    case rel =>
     refine ⟨i + 1, inc64 i (by have := HI8.out; omega), ⟨by have := HI8.out; omega⟩, ⟨?_⟩, ⟨Fr.setCell (Fr.drewN HF.out _) (.inl (Nat.le_refl _)) _⟩⟩
     have h := blk_set (blk_drewN HBK.out (n6 + n7)) i (.int .u32 r)
     rw [cs32_set, ← HRR.out, (h8_step i HI8.out).1] at h
     rw [← HRR.out]
     exact h
   ·have hi8 : i = 8 := by have := HI.out; omega
    subst hi8
    have HZ0 : Aside0 (wr.heap[g4]? = some (.cells (cs32 H8) 38 (0, 0))) := HBK
    clear HI hi HBK HB5
    go_wp2
    go_loopg [3] L0.length (fun kq v w' => ∃ (A' : Option Addr) (c' : Nat) (L Z : List Int), v = .slice A' L.length c' ∧ Aside0 (L.length = kq) ∧ Aside0 (L.length ≤ c' ∧ L.length % 64 = 0 ∧ L.length ≤ 1100) ∧ Aside0 (Z.length = 8) ∧ Aside0 ((absorb K64 L.length Z L).1 = Sf) ∧ Aside0 ((Kd.int .u8).C w5 A' L.length L) ∧ Aside0 (Out (fun k => g4 ≤ k) A' L.length) ∧ Aside0 (w'.heap[g4]? = some (.cells (cs32 Z) 38 (0, 0))) ∧ Aside0 (Fr w5 w' (fun k => g4 ≤ k)))
    case atStart => exact ⟨A4, c4, L0, H8, rfl, ⟨rfl⟩, ⟨HK4.out, HL0L.out.1, HL0L.out.2⟩, ⟨rfl⟩, HSF, HD5, HOUT, HZ0, HF⟩
    case round =>
     clear HZ0 HF HSF HD5 HOUT HK4 HL0 HL0L HPAD HN1 HN2 HN3
     obtain ⟨A', c', L, Z, rfl, HI, HLC, HZ, HAB, HCL, HO, HBZ, HF⟩ := hrel
     by_cases h64 : 64 ≤ L.length
     ·have d1 : decide (64 ≤ L.length) = true := decide_eq_true h64
      have d1' : decide ((64 : Int) ≤ (L.length : Int)) = true := decide_eq_true (by omega)
      obtain ⟨z0, z1, z2, z3, z4, z5, z6, z7, rfl⟩ := eight HZ.out
      have HC64 : Aside0 ((Kd.int .u8).C wr.drew A' 64 (L.take 64)) := ⟨by
       have h1 := Kd.C_take (C_frame HCL.out HF.out HO.out) (m := 64) h64
       rw [List.length_take, Nat.min_eq_left h64] at h1
       exact Kd.C_drew h1⟩
      obtain ⟨i5, hi5, hs5⟩ : ∃ i, Try.prog.info? 5 = some i ∧ i.size = 1 := by
       obtain ⟨i, h1, h2⟩ := Option.map_eq_some_iff.1 info5
       exact ⟨i, h1, by simp only [Prod.mk.injEq] at h2; exact h2.2.1⟩
      have hcut : ∀ W : World, (Instr.slice 23 (.slice A' L.length c') none (some (.int .i64 64)) none).run Try.prog W = .ok (.slice A' 64 c') W := by
       intro W
       have hel : Try.prog.elem 23 = 5 := by simp [Program.elem, hu23]
       have hu : Try.prog.underlying 23 = some (.slice (Try.prog.elem 23)) := by rw [hel]; exact hu23
       rw [run_slice_h W 23 _ _ _ hu .i64 64 (by omega) (by have := HLC.out; omega), hel]
       simp [sizeOf, typeInfo, hi5, hs5, sliced, Result.andThen]
       intro _
       cases A' with
       | none => rfl
       | some a => simp [Addr.add]
      have hdrop : ∀ W : World, (Instr.slice 23 (.slice A' L.length c') (some (.int .i64 64)) none none).run Try.prog W = .ok (.slice (if c' = 64 then A' else A'.map (·.add (64 * 1))) (L.drop 64).length (c' - 64)) W := by
       intro W
       have := cut_from (P := Try.prog) 23 5 .i64 hu23 hi5 1 hs5 A' L.length c' 64 (by omega) (by omega) W
       rw [this, List.length_drop]
       rfl
      have HDROP := Aside0.mk hdrop
      have HCD : Aside0 ((Kd.int .u8).C w5 (if c' = 64 then A' else A'.map (·.add (64 * 1))) (L.drop 64).length (L.drop 64)) := ⟨Kd.C_drop HCL.out h64 HLC.out.1⟩
      have HOD : Aside0 (Out (fun k => g4 ≤ k) (if c' = 64 then A' else A'.map (·.add (64 * 1))) (L.drop 64).length) := ⟨Out.cut (m := (L.drop 64).length) HO.out (by rw [List.length_drop]; omega)⟩
      obtain ⟨Z2, hZ2⟩ : ∃ Z2, mixP K64 [z0, z1, z2, z3, z4, z5, z6, z7] (L.take 64) = Z2 := ⟨_, rfl⟩
      have HZ2 : Aside0 (Z2.length = 8) := ⟨by rw [← hZ2, mixP_length]; rfl⟩
      have HMX : Aside0 (∀ W : World, Fr wr.drew W (fun k => g4 ≤ k) → Calls Try.prog 28 #[.agg #[.int .u32 z0, .int .u32 z1, .int .u32 z2, .int .u32 z3, .int .u32 z4, .int .u32 z5, .int .u32 z6, .int .u32 z7], .slice A' 64 c'] W fun e w' => e = .returned (.tuple #[.agg (cs32 Z2), .int .i64 0]) ∧ Below W.heap.size W w') := ⟨fun W hW => by
       rw [← hZ2]
       exact shamix_walk (S := [z0, z1, z2, z3, z4, z5, z6, z7]) (B := L.take 64) rfl (by rw [List.length_take]; omega) (C_frame HC64.out hW (Out.len HO.out h64)) (by have := HLC.out; omega)⟩
      have HAB2 : Aside0 ((absorb K64 (L.drop 64).length Z2 (L.drop 64)).1 = Sf) := ⟨by
       have h := HAB.out
       have e : L.length = (L.drop 64).length + 64 := by rw [List.length_drop]; omega
       have e2 : L = L.take 64 ++ L.drop 64 := (List.take_append_drop 64 L).symm
       rw [e] at h
       conv at h => lhs; rw [e2]
       rw [List.drop_left' (by rw [List.length_take]; omega)] at h
       rw [absorb_block K64 _ (L.take 64) (L.drop 64) _ (by rw [List.length_take]; omega) (Nat.le_refl _), hZ2] at h
       exact h⟩
      obtain ⟨AA, hAA⟩ : ∃ AA, (if c' = 64 then A' else A'.map (·.add (64 * 1))) = AA := ⟨_, rfl⟩
      obtain ⟨LL, hLL⟩ : ∃ LL, L.drop 64 = LL := ⟨_, rfl⟩
      obtain ⟨cc, hcc⟩ : ∃ cc, c' - 64 = cc := ⟨_, rfl⟩
      rw [hAA, hLL] at HCD HOD
      rw [hLL] at HAB2
      replace HDROP : Aside0 (∀ W : World, (Instr.slice 23 (.slice A' L.length c') (some (.int .i64 64)) none none).run Try.prog W = .ok (.slice AA LL.length cc) W) := ⟨by rw [← hAA, ← hLL, ← hcc]; exact HDROP.out⟩
      have HLL : Aside0 (LL.length ≤ cc ∧ LL.length % 64 = 0 ∧ LL.length ≤ 1100 ∧ LL.length + 64 = L.length) := ⟨by rw [← hLL, ← hcc, List.length_drop]; have := HLC.out; omega⟩
      clear hZ2 hdrop HC64 hAA hLL hcc
      have HBQ : Aside0 (wr.drew.heap[g4]? = some (.cells (cs32 [z0, z1, z2, z3, z4, z5, z6, z7]) 38 (0, 0))) := HBZ
      have HFQ : Aside0 (Fr wr.drew wr.drew (fun k => g4 ≤ k)) := ⟨Fr.refl _ _⟩
      have HST : Aside0 (∀ (W : World) (g : Nat), W.heap[g]? = some (.cells (cs32 (List.replicate 8 0)) 38 (0, 0)) → (storeCells ⟨g, 0, none⟩ (cs32 Z2).toList).run Try.prog W = .ok () (W.setRow g (cs32 Z2))) := ⟨fun W g hW => by
       have hst := run_storeCells_from (P := Try.prog) g 38 (cs32 Z2).toList 0 (cs32 (List.replicate 8 0)) W hW (by simp [cs32_size, HZ2.out]) (by simp [cs32, Value.oneCell'])
       simpa using hst⟩
      have HSZ : Aside0 ((cs32 Z2).size = 8) := ⟨by rw [cs32_size, HZ2.out]⟩
      have HFW : Aside0 (Fr wr wr.drew (fun k => g4 ≤ k)) := ⟨(Fr.refl wr _).drew⟩
      have e00 : wr.cell? ⟨g4, 0, none⟩ = some (.int .u32 z0) := (blk_cell HBZ.out 0).trans ((cs32_get [z0, z1, z2, z3, z4, z5, z6, z7] 0 (by simp)).trans rfl)
      have e10 : wr.cell? ⟨g4, 1, none⟩ = some (.int .u32 z1) := (blk_cell HBZ.out 1).trans ((cs32_get [z0, z1, z2, z3, z4, z5, z6, z7] 1 (by simp)).trans rfl)
      have e20 : wr.cell? ⟨g4, 2, none⟩ = some (.int .u32 z2) := (blk_cell HBZ.out 2).trans ((cs32_get [z0, z1, z2, z3, z4, z5, z6, z7] 2 (by simp)).trans rfl)
      have e30 : wr.cell? ⟨g4, 3, none⟩ = some (.int .u32 z3) := (blk_cell HBZ.out 3).trans ((cs32_get [z0, z1, z2, z3, z4, z5, z6, z7] 3 (by simp)).trans rfl)
      have e40 : wr.cell? ⟨g4, 4, none⟩ = some (.int .u32 z4) := (blk_cell HBZ.out 4).trans ((cs32_get [z0, z1, z2, z3, z4, z5, z6, z7] 4 (by simp)).trans rfl)
      have e50 : wr.cell? ⟨g4, 5, none⟩ = some (.int .u32 z5) := (blk_cell HBZ.out 5).trans ((cs32_get [z0, z1, z2, z3, z4, z5, z6, z7] 5 (by simp)).trans rfl)
      have e60 : wr.cell? ⟨g4, 6, none⟩ = some (.int .u32 z6) := (blk_cell HBZ.out 6).trans ((cs32_get [z0, z1, z2, z3, z4, z5, z6, z7] 6 (by simp)).trans rfl)
      have e70 : wr.cell? ⟨g4, 7, none⟩ = some (.int .u32 z7) := (blk_cell HBZ.out 7).trans ((cs32_get [z0, z1, z2, z3, z4, z5, z6, z7] 7 (by simp)).trans rfl)
      go_wp2
      refine start_ (n := 10) (S := fun w' => w'.cell? ⟨g4, 0, none⟩ = some (.int .u32 z0) ∧ w'.cell? ⟨g4, 1, none⟩ = some (.int .u32 z1) ∧ w'.cell? ⟨g4, 2, none⟩ = some (.int .u32 z2) ∧ w'.cell? ⟨g4, 3, none⟩ = some (.int .u32 z3) ∧ w'.cell? ⟨g4, 4, none⟩ = some (.int .u32 z4) ∧ w'.cell? ⟨g4, 5, none⟩ = some (.int .u32 z5) ∧ w'.cell? ⟨g4, 6, none⟩ = some (.int .u32 z6) ∧ w'.cell? ⟨g4, 7, none⟩ = some (.int .u32 z7)) (ds := [8]) #[false, false, false, false, false, false, false, false, false, false] (by kernel_rfl) rfl rfl ⟨e00, e10, e20, e30, e40, e50, e60, e70⟩ (fun hHeld => ?_)
      refine pure_ (i := 1) (N := some 37) (v := ?_) (a' := ?_) #[false, true, false, false, false, false, false, false, false, false] rfl rfl (by kernel_rfl) (fun _ _ _ h => h) (Or.inl ⟨by rfl, ?_⟩) ?_ ?_
      rotate_left
      ·intro w'
       go_simp
       with_reducible rfl
      rotate_left
      ·simp only [Act.put, List.setIfInBounds_toArray, List.set_cons_zero, List.set_cons_succ, i64_w, i32_w]
       rfl
      refine pure_ (i := 2) (N := some 38) (v := ?_) (a' := ?_) #[false, true, true, false, false, false, false, false, false, false] rfl rfl (by kernel_rfl) (fun _ _ _ h => h) (Or.inl ⟨by rfl, ?_⟩) ?_ ?_
      rotate_left
      ·intro w'
       go_simp
       with_reducible rfl
      rotate_left
      ·simp only [Act.put, List.setIfInBounds_toArray, List.set_cons_zero, List.set_cons_succ, i64_w, i32_w]
       rfl
      refine take_ (i := 0) (N := some 36) (v := ?_) (a' := ?_) #[true, true, true, false, false, false, false, false, false, false] rfl rfl (by kernel_rfl) (fun _ _ _ h => h) (Or.inl ⟨by rfl, ?_⟩) hHeld ?_ ?_
      rotate_left
      ·rintro w' ⟨s0, s1, s2, s3, s4, s5, s6, s7⟩
       go_simp
       with_reducible rfl
      rotate_left
      ·simp only [Act.put, List.setIfInBounds_toArray, List.set_cons_zero, List.set_cons_succ, i64_w, i32_w]
       rfl
      refine join_ (σ := Nat) 2 #[true, true, true, true, true, true, true, true, false, false] (fun gM => [(39, .tuple #[.agg (cs32 Z2), .int .i64 0]), (35, .tuple #[.agg (cs32 Z2), .int .i64 0]), (40, .agg (cs32 Z2)), (41, .int .i64 0), (6, .pointer (some ⟨gM, 0, none⟩))]) (fun gM w' => w'.cell? ⟨g4, 0, none⟩ = some (.int .u32 z0) ∧ w'.cell? ⟨g4, 1, none⟩ = some (.int .u32 z1) ∧ w'.cell? ⟨g4, 2, none⟩ = some (.int .u32 z2) ∧ w'.cell? ⟨g4, 3, none⟩ = some (.int .u32 z3) ∧ w'.cell? ⟨g4, 4, none⟩ = some (.int .u32 z4) ∧ w'.cell? ⟨g4, 5, none⟩ = some (.int .u32 z5) ∧ w'.cell? ⟨g4, 6, none⟩ = some (.int .u32 z6) ∧ w'.cell? ⟨g4, 7, none⟩ = some (.int .u32 z7) ∧ Aside0 (w'.heap[g4]? = some (.cells (cs32 [z0, z1, z2, z3, z4, z5, z6, z7]) 38 (0, 0))) ∧ Aside0 (w'.heap[gM]? = some (.cells (cs32 (List.replicate 8 0)) 38 (0, 0))) ∧ Aside0 (g4 < gM) ∧ Aside0 (Fr wr.drew w' (fun k => g4 ≤ k))) ?_ ?_
      rotate_left
      ·intro hCont
       refine two_ (i := 3) (j := 7) (Ni := some 39) (Nj := some 6) #[true, true, true, true, false, false, false, false, false, false] #[true, true, true, false, false, false, false, true, false, false] rfl rfl rfl rfl (by kernel_rfl) (by decide) (by decide) (fun K hK => ?_) (fun K hK => ?_)
       ·skip
        refine goes_ Try.func28 (by kernel_rfl) rfl #[.agg #[.int .u32 z0, .int .u32 z1, .int .u32 z2, .int .u32 z3, .int .u32 z4, .int .u32 z5, .int .u32 z6, .int .u32 z7], .slice A' 64 c'] (by rfl) rfl rfl (by simp only [List.map_toArray, List.map_cons, List.map_nil]; rfl) ?_
        refine (HMX.out wr.drew HFQ.out).mono ?_
        rintro e y3 ⟨rfl, hb⟩
        refine ⟨_, rfl, ?_⟩
        have HBQ_3 := Aside0.mk (blk_below HBQ.out hb)
        have HFQ_3 := Aside0.mk (Fr.below HFQ.out hb)
        have e0_3 : y3.cell? ⟨g4, 0, none⟩ = some (.int .u32 z0) := (blk_cell HBQ_3.out 0).trans ((cs32_get [z0, z1, z2, z3, z4, z5, z6, z7] 0 (by simp)).trans rfl)
        have e1_3 : y3.cell? ⟨g4, 1, none⟩ = some (.int .u32 z1) := (blk_cell HBQ_3.out 1).trans ((cs32_get [z0, z1, z2, z3, z4, z5, z6, z7] 1 (by simp)).trans rfl)
        have e2_3 : y3.cell? ⟨g4, 2, none⟩ = some (.int .u32 z2) := (blk_cell HBQ_3.out 2).trans ((cs32_get [z0, z1, z2, z3, z4, z5, z6, z7] 2 (by simp)).trans rfl)
        have e3_3 : y3.cell? ⟨g4, 3, none⟩ = some (.int .u32 z3) := (blk_cell HBQ_3.out 3).trans ((cs32_get [z0, z1, z2, z3, z4, z5, z6, z7] 3 (by simp)).trans rfl)
        have e4_3 : y3.cell? ⟨g4, 4, none⟩ = some (.int .u32 z4) := (blk_cell HBQ_3.out 4).trans ((cs32_get [z0, z1, z2, z3, z4, z5, z6, z7] 4 (by simp)).trans rfl)
        have e5_3 : y3.cell? ⟨g4, 5, none⟩ = some (.int .u32 z5) := (blk_cell HBQ_3.out 5).trans ((cs32_get [z0, z1, z2, z3, z4, z5, z6, z7] 5 (by simp)).trans rfl)
        have e6_3 : y3.cell? ⟨g4, 6, none⟩ = some (.int .u32 z6) := (blk_cell HBQ_3.out 6).trans ((cs32_get [z0, z1, z2, z3, z4, z5, z6, z7] 6 (by simp)).trans rfl)
        have e7_3 : y3.cell? ⟨g4, 7, none⟩ = some (.int .u32 z7) := (blk_cell HBQ_3.out 7).trans ((cs32_get [z0, z1, z2, z3, z4, z5, z6, z7] 7 (by simp)).trans rfl)
        clear hb
        refine hK.out _ _ ⟨e0_3, e1_3, e2_3, e3_3, e4_3, e5_3, e6_3, e7_3⟩ (fun hHeld => ?_)
        clear hK K
        refine norm_ (a' := ?_) ?_ ?_
        rotate_left
        ·show Act.put _ (some 39) _ = _
         simp only [Act.put, List.setIfInBounds_toArray, List.set_cons_zero, List.set_cons_succ, i64_w, i32_w]
         rfl
        refine pure_ (i := 4) (N := some 35) (v := ?_) (a' := ?_) #[true, true, true, true, true, false, false, false, false, false] rfl rfl (by kernel_rfl) (fun _ _ _ h => h) (Or.inl ⟨by rfl, ?_⟩) ?_ ?_
        rotate_left
        ·intro w'
         go_simp
         with_reducible rfl
        rotate_left
        ·simp only [Act.put, List.setIfInBounds_toArray, List.set_cons_zero, List.set_cons_succ, i64_w, i32_w]
         rfl
        refine pure_ (i := 5) (N := some 40) (v := ?_) (a' := ?_) #[true, true, true, true, true, true, false, false, false, false] rfl rfl (by kernel_rfl) (fun _ _ _ h => h) (Or.inl ⟨by rfl, ?_⟩) ?_ ?_
        rotate_left
        ·intro w'
         go_simp
         with_reducible rfl
        rotate_left
        ·simp only [Act.put, List.setIfInBounds_toArray, List.set_cons_zero, List.set_cons_succ, i64_w, i32_w]
         rfl
        refine pure_ (i := 6) (N := some 41) (v := ?_) (a' := ?_) #[true, true, true, true, true, true, true, false, false, false] rfl rfl (by kernel_rfl) (fun _ _ _ h => h) (Or.inl ⟨by rfl, ?_⟩) ?_ ?_
        rotate_left
        ·intro w'
         go_simp
         with_reducible rfl
        rotate_left
        ·simp only [Act.put, List.setIfInBounds_toArray, List.set_cons_zero, List.set_cons_succ, i64_w, i32_w]
         rfl
        refine one_ (i := 7) (N := some 6) #[true, true, true, true, true, true, true, true, false, false] rfl rfl (by kernel_rfl) (by decide) (fun K hK => ?_)
        obtain ⟨gM, hgM⟩ : ∃ g, y3.heap.size = g := ⟨_, rfl⟩
        obtain ⟨y3_7, hy⟩ : ∃ y, y3.alloc (.cells (cs32 (List.replicate 8 0)) 38) = y := ⟨_, rfl⟩
        have hb : Below y3.heap.size y3 y3_7 := by rw [← hy]; exact below_alloc (Below.refl _ _) _
        have HAL_3_7 : Aside0 (y3_7.heap[gM]? = some (.cells (cs32 (List.replicate 8 0)) 38 (0, 0))) := ⟨by rw [← hy, ← hgM]; exact blk_new _ _⟩
        have HGM : Aside0 (g4 < gM) := ⟨by rw [← hgM]; exact blk_lt HBQ_3.out⟩
        refine value_ (w1 := y3_7) (v := .pointer (some ⟨gM, 0, none⟩)) (by rfl) rfl ?_ ?_
        ·rw [← hgM, ← hy]
         first | (go_simp; done) | (go_simp; rfl)
        clear hy hgM
        have HBQ_3_7 := Aside0.mk (blk_below HBQ_3.out hb)
        have HFQ_3_7 := Aside0.mk (Fr.below HFQ_3.out hb)
        have e0_3_7 : y3_7.cell? ⟨g4, 0, none⟩ = some (.int .u32 z0) := (blk_cell HBQ_3_7.out 0).trans ((cs32_get [z0, z1, z2, z3, z4, z5, z6, z7] 0 (by simp)).trans rfl)
        have e1_3_7 : y3_7.cell? ⟨g4, 1, none⟩ = some (.int .u32 z1) := (blk_cell HBQ_3_7.out 1).trans ((cs32_get [z0, z1, z2, z3, z4, z5, z6, z7] 1 (by simp)).trans rfl)
        have e2_3_7 : y3_7.cell? ⟨g4, 2, none⟩ = some (.int .u32 z2) := (blk_cell HBQ_3_7.out 2).trans ((cs32_get [z0, z1, z2, z3, z4, z5, z6, z7] 2 (by simp)).trans rfl)
        have e3_3_7 : y3_7.cell? ⟨g4, 3, none⟩ = some (.int .u32 z3) := (blk_cell HBQ_3_7.out 3).trans ((cs32_get [z0, z1, z2, z3, z4, z5, z6, z7] 3 (by simp)).trans rfl)
        have e4_3_7 : y3_7.cell? ⟨g4, 4, none⟩ = some (.int .u32 z4) := (blk_cell HBQ_3_7.out 4).trans ((cs32_get [z0, z1, z2, z3, z4, z5, z6, z7] 4 (by simp)).trans rfl)
        have e5_3_7 : y3_7.cell? ⟨g4, 5, none⟩ = some (.int .u32 z5) := (blk_cell HBQ_3_7.out 5).trans ((cs32_get [z0, z1, z2, z3, z4, z5, z6, z7] 5 (by simp)).trans rfl)
        have e6_3_7 : y3_7.cell? ⟨g4, 6, none⟩ = some (.int .u32 z6) := (blk_cell HBQ_3_7.out 6).trans ((cs32_get [z0, z1, z2, z3, z4, z5, z6, z7] 6 (by simp)).trans rfl)
        have e7_3_7 : y3_7.cell? ⟨g4, 7, none⟩ = some (.int .u32 z7) := (blk_cell HBQ_3_7.out 7).trans ((cs32_get [z0, z1, z2, z3, z4, z5, z6, z7] 7 (by simp)).trans rfl)
        clear hb
        refine hK.out _ _ ⟨e0_3_7, e1_3_7, e2_3_7, e3_3_7, e4_3_7, e5_3_7, e6_3_7, e7_3_7⟩ (fun hHeld => ?_)
        clear hK K
        refine norm_ (a' := ?_) ?_ ?_
        rotate_left
        ·show Act.put _ (some 6) _ = _
         simp only [Act.put, List.setIfInBounds_toArray, List.set_cons_zero, List.set_cons_succ, i64_w, i32_w]
         rfl
        exact norm_ (by simp only [putAll, Act.put, List.setIfInBounds_toArray, List.set_cons_zero, List.set_cons_succ]) (hCont gM _ ⟨e0_3_7, e1_3_7, e2_3_7, e3_3_7, e4_3_7, e5_3_7, e6_3_7, e7_3_7, HBQ_3_7, HAL_3_7, HGM, HFQ_3_7⟩)
       ·skip
        obtain ⟨gM, hgM⟩ : ∃ g, wr.drew.heap.size = g := ⟨_, rfl⟩
        obtain ⟨y7, hy⟩ : ∃ y, wr.drew.alloc (.cells (cs32 (List.replicate 8 0)) 38) = y := ⟨_, rfl⟩
        have hb : Below wr.drew.heap.size wr.drew y7 := by rw [← hy]; exact below_alloc (Below.refl _ _) _
        have HAL_7 : Aside0 (y7.heap[gM]? = some (.cells (cs32 (List.replicate 8 0)) 38 (0, 0))) := ⟨by rw [← hy, ← hgM]; exact blk_new _ _⟩
        have HGM : Aside0 (g4 < gM) := ⟨by rw [← hgM]; exact blk_lt HBQ.out⟩
        refine value_ (w1 := y7) (v := .pointer (some ⟨gM, 0, none⟩)) (by rfl) rfl ?_ ?_
        ·rw [← hgM, ← hy]
         first | (go_simp; done) | (go_simp; rfl)
        clear hy hgM
        have HBQ_7 := Aside0.mk (blk_below HBQ.out hb)
        have HFQ_7 := Aside0.mk (Fr.below HFQ.out hb)
        have e0_7 : y7.cell? ⟨g4, 0, none⟩ = some (.int .u32 z0) := (blk_cell HBQ_7.out 0).trans ((cs32_get [z0, z1, z2, z3, z4, z5, z6, z7] 0 (by simp)).trans rfl)
        have e1_7 : y7.cell? ⟨g4, 1, none⟩ = some (.int .u32 z1) := (blk_cell HBQ_7.out 1).trans ((cs32_get [z0, z1, z2, z3, z4, z5, z6, z7] 1 (by simp)).trans rfl)
        have e2_7 : y7.cell? ⟨g4, 2, none⟩ = some (.int .u32 z2) := (blk_cell HBQ_7.out 2).trans ((cs32_get [z0, z1, z2, z3, z4, z5, z6, z7] 2 (by simp)).trans rfl)
        have e3_7 : y7.cell? ⟨g4, 3, none⟩ = some (.int .u32 z3) := (blk_cell HBQ_7.out 3).trans ((cs32_get [z0, z1, z2, z3, z4, z5, z6, z7] 3 (by simp)).trans rfl)
        have e4_7 : y7.cell? ⟨g4, 4, none⟩ = some (.int .u32 z4) := (blk_cell HBQ_7.out 4).trans ((cs32_get [z0, z1, z2, z3, z4, z5, z6, z7] 4 (by simp)).trans rfl)
        have e5_7 : y7.cell? ⟨g4, 5, none⟩ = some (.int .u32 z5) := (blk_cell HBQ_7.out 5).trans ((cs32_get [z0, z1, z2, z3, z4, z5, z6, z7] 5 (by simp)).trans rfl)
        have e6_7 : y7.cell? ⟨g4, 6, none⟩ = some (.int .u32 z6) := (blk_cell HBQ_7.out 6).trans ((cs32_get [z0, z1, z2, z3, z4, z5, z6, z7] 6 (by simp)).trans rfl)
        have e7_7 : y7.cell? ⟨g4, 7, none⟩ = some (.int .u32 z7) := (blk_cell HBQ_7.out 7).trans ((cs32_get [z0, z1, z2, z3, z4, z5, z6, z7] 7 (by simp)).trans rfl)
        clear hb
        refine hK.out _ _ ⟨e0_7, e1_7, e2_7, e3_7, e4_7, e5_7, e6_7, e7_7⟩ (fun hHeld => ?_)
        clear hK K
        refine norm_ (a' := ?_) ?_ ?_
        rotate_left
        ·show Act.put _ (some 6) _ = _
         simp only [Act.put, List.setIfInBounds_toArray, List.set_cons_zero, List.set_cons_succ, i64_w, i32_w]
         rfl
        refine one_ (i := 3) (N := some 39) #[true, true, true, true, false, false, false, true, false, false] rfl rfl (by kernel_rfl) (by decide) (fun K hK => ?_)
        refine goes_ Try.func28 (by kernel_rfl) rfl #[.agg #[.int .u32 z0, .int .u32 z1, .int .u32 z2, .int .u32 z3, .int .u32 z4, .int .u32 z5, .int .u32 z6, .int .u32 z7], .slice A' 64 c'] (by rfl) rfl rfl (by simp only [List.map_toArray, List.map_cons, List.map_nil]; rfl) ?_
        refine (HMX.out y7 HFQ_7.out).mono ?_
        rintro e y7_3 ⟨rfl, hb⟩
        refine ⟨_, rfl, ?_⟩
        have HBQ_7_3 := Aside0.mk (blk_below HBQ_7.out hb)
        have HFQ_7_3 := Aside0.mk (Fr.below HFQ_7.out hb)
        have HAL_7_3 := Aside0.mk (blk_below HAL_7.out hb)
        have e0_7_3 : y7_3.cell? ⟨g4, 0, none⟩ = some (.int .u32 z0) := (blk_cell HBQ_7_3.out 0).trans ((cs32_get [z0, z1, z2, z3, z4, z5, z6, z7] 0 (by simp)).trans rfl)
        have e1_7_3 : y7_3.cell? ⟨g4, 1, none⟩ = some (.int .u32 z1) := (blk_cell HBQ_7_3.out 1).trans ((cs32_get [z0, z1, z2, z3, z4, z5, z6, z7] 1 (by simp)).trans rfl)
        have e2_7_3 : y7_3.cell? ⟨g4, 2, none⟩ = some (.int .u32 z2) := (blk_cell HBQ_7_3.out 2).trans ((cs32_get [z0, z1, z2, z3, z4, z5, z6, z7] 2 (by simp)).trans rfl)
        have e3_7_3 : y7_3.cell? ⟨g4, 3, none⟩ = some (.int .u32 z3) := (blk_cell HBQ_7_3.out 3).trans ((cs32_get [z0, z1, z2, z3, z4, z5, z6, z7] 3 (by simp)).trans rfl)
        have e4_7_3 : y7_3.cell? ⟨g4, 4, none⟩ = some (.int .u32 z4) := (blk_cell HBQ_7_3.out 4).trans ((cs32_get [z0, z1, z2, z3, z4, z5, z6, z7] 4 (by simp)).trans rfl)
        have e5_7_3 : y7_3.cell? ⟨g4, 5, none⟩ = some (.int .u32 z5) := (blk_cell HBQ_7_3.out 5).trans ((cs32_get [z0, z1, z2, z3, z4, z5, z6, z7] 5 (by simp)).trans rfl)
        have e6_7_3 : y7_3.cell? ⟨g4, 6, none⟩ = some (.int .u32 z6) := (blk_cell HBQ_7_3.out 6).trans ((cs32_get [z0, z1, z2, z3, z4, z5, z6, z7] 6 (by simp)).trans rfl)
        have e7_7_3 : y7_3.cell? ⟨g4, 7, none⟩ = some (.int .u32 z7) := (blk_cell HBQ_7_3.out 7).trans ((cs32_get [z0, z1, z2, z3, z4, z5, z6, z7] 7 (by simp)).trans rfl)
        clear hb
        refine hK.out _ _ ⟨e0_7_3, e1_7_3, e2_7_3, e3_7_3, e4_7_3, e5_7_3, e6_7_3, e7_7_3⟩ (fun hHeld => ?_)
        clear hK K
        refine norm_ (a' := ?_) ?_ ?_
        rotate_left
        ·show Act.put _ (some 39) _ = _
         simp only [Act.put, List.setIfInBounds_toArray, List.set_cons_zero, List.set_cons_succ, i64_w, i32_w]
         rfl
        refine pure_ (i := 4) (N := some 35) (v := ?_) (a' := ?_) #[true, true, true, true, true, false, false, true, false, false] rfl rfl (by kernel_rfl) (fun _ _ _ h => h) (Or.inl ⟨by rfl, ?_⟩) ?_ ?_
        rotate_left
        ·intro w'
         go_simp
         with_reducible rfl
        rotate_left
        ·simp only [Act.put, List.setIfInBounds_toArray, List.set_cons_zero, List.set_cons_succ, i64_w, i32_w]
         rfl
        refine pure_ (i := 5) (N := some 40) (v := ?_) (a' := ?_) #[true, true, true, true, true, true, false, true, false, false] rfl rfl (by kernel_rfl) (fun _ _ _ h => h) (Or.inl ⟨by rfl, ?_⟩) ?_ ?_
        rotate_left
        ·intro w'
         go_simp
         with_reducible rfl
        rotate_left
        ·simp only [Act.put, List.setIfInBounds_toArray, List.set_cons_zero, List.set_cons_succ, i64_w, i32_w]
         rfl
        refine pure_ (i := 6) (N := some 41) (v := ?_) (a' := ?_) #[true, true, true, true, true, true, true, true, false, false] rfl rfl (by kernel_rfl) (fun _ _ _ h => h) (Or.inl ⟨by rfl, ?_⟩) ?_ ?_
        rotate_left
        ·intro w'
         go_simp
         with_reducible rfl
        rotate_left
        ·simp only [Act.put, List.setIfInBounds_toArray, List.set_cons_zero, List.set_cons_succ, i64_w, i32_w]
         rfl
        exact norm_ (by simp only [putAll, Act.put, List.setIfInBounds_toArray, List.set_cons_zero, List.set_cons_succ]) (hCont gM _ ⟨e0_7_3, e1_7_3, e2_7_3, e3_7_3, e4_7_3, e5_7_3, e6_7_3, e7_7_3, HBQ_7_3, HAL_7_3, HGM, HFQ_7_3⟩)
      rintro gM w8 ⟨e0z, e1z, e2z, e3z, e4z, e5z, e6z, e7z, HB8, HAL8, HGM, HF8⟩
      have hHeld := (⟨e0z, e1z, e2z, e3z, e4z, e5z, e6z, e7z⟩ : w8.cell? ⟨g4, 0, none⟩ = some (.int .u32 z0) ∧ w8.cell? ⟨g4, 1, none⟩ = some (.int .u32 z1) ∧ w8.cell? ⟨g4, 2, none⟩ = some (.int .u32 z2) ∧ w8.cell? ⟨g4, 3, none⟩ = some (.int .u32 z3) ∧ w8.cell? ⟨g4, 4, none⟩ = some (.int .u32 z4) ∧ w8.cell? ⟨g4, 5, none⟩ = some (.int .u32 z5) ∧ w8.cell? ⟨g4, 6, none⟩ = some (.int .u32 z6) ∧ w8.cell? ⟨g4, 7, none⟩ = some (.int .u32 z7))
      refine norm_ (a' := ?_) ?_ ?_
      rotate_left
      ·simp only [putAll, Act.put, List.setIfInBounds_toArray, List.set_cons_zero, List.set_cons_succ]
       rfl
      refine last_ (i := 8) (N := none) #[true, true, true, true, true, true, true, true, true, false] rfl rfl (by kernel_rfl) (by decide) (fun K hK => ?_)
      have hst := HST.out w8 gM HAL8.out
      have hsz := HSZ.out
      refine skip_ (w1 := ?_) (by rfl) rfl ?_ ?_
      rotate_left
      ·go_simp
       rfl
      refine hK.out _ _ ?_
      clear hK K
      refine pure_ (i := 9) (N := some 7) (v := ?_) (a' := ?_) #[true, true, true, true, true, true, true, true, true, true] rfl rfl (by kernel_rfl) (fun _ _ _ h => h) (Or.inl ⟨by rfl, ?_⟩) ?_ ?_
      rotate_left
      ·intro w'
       go_simp
       with_reducible rfl
      rotate_left
      ·simp only [Act.put, List.setIfInBounds_toArray, List.set_cons_zero, List.set_cons_succ, i64_w, i32_w]
       rfl
      refine done_ (by kernel_rfl) ?_
      have HM9 : Aside0 ((w8.setRow gM (cs32 Z2)).heap[gM]? = some (.cells (cs32 Z2) 38 (0, 0))) := ⟨setRow_heap _ _ _ _ _ _ HAL8.out⟩
      have HB9 : Aside0 ((w8.setRow gM (cs32 Z2)).heap[g4]? = some (.cells (cs32 [z0, z1, z2, z3, z4, z5, z6, z7]) 38 (0, 0))) := ⟨by rw [setRow_other _ _ _ _ (Nat.ne_of_lt HGM.out)]; exact HB8.out⟩
      have HF9 : Aside0 (Fr w5 (w8.setRow gM (cs32 Z2)) (fun k => g4 ≤ k)) := ⟨Fr.setRow ((HF.out.drew).trans HF8.out (fun k hk => .inl hk)) (Nat.le_of_lt HGM.out)⟩
      have HI38 : Aside0 ((Try.prog.info? 38).map (·.size) = some (cs32 Z2).size) := ⟨by rw [HSZ.out]; kernel_rfl⟩
      have HO38 : Aside0 ((cs32 [z0, z1, z2, z3, z4, z5, z6, z7]).size = (cs32 Z2).size) := ⟨by rw [HSZ.out]; rfl⟩
      have HA38 : Aside0 ((cs32 Z2).all (·.oneCell') = true) := ⟨cs32_all _⟩
      clear hHeld e0z e1z e2z e3z e4z e5z e6z e7z hst hsz HAL8 HB8 HF8 e00 e10 e20 e30 e40 e50 e60 e70
      generalize w8.setRow gM (cs32 Z2) = w9 at HM9 HB9 HF9 ⊢
      have hdrop := HDROP.out
      clear hcut
      go_wp2_with (first | ((with_reducible refine gate_dst (N := 44) rfl ?_); refine wpList_load_row rfl 38 (.tmp 6) rfl gM rfl 38 (cs32 Z2) (0, 0) _ HM9.out hu38 rfl HI38.out ?_) | (refine gate_ (.store 38 (.tmp 4) (.tmp 44)) rfl ?_; refine wpList_store_row rfl 38 (.tmp 4) (.tmp 44) rfl g4 (cs32 Z2) rfl rfl 38 _ HB9.out HI38.out HO38.out HA38.out ?_))
      go_roundg LL.length
      case measure => have := HI.out; have := HLL.out; omega
      case rel => exact ⟨AA, cc, LL, Z2, rfl, ⟨rfl⟩, ⟨by have := HLL.out; omega⟩, HZ2, HAB2, HCD, HOD, ⟨setRow_heap _ _ _ _ _ _ HB9.out⟩, ⟨Fr.setRow HF9.out (Nat.le_refl _)⟩⟩
     ·have hL0 : L.length = 0 := by have := HLC.out; omega
      obtain rfl := List.eq_nil_of_length_eq_zero hL0
      have hsf : Z = Sf := HAB.out
      subst hsf
      have d1 : decide (64 ≤ ([] : List Int).length) = false := by decide
      have HLW : Aside0 (Below w.heap.size w wr) := ⟨HL5.out.trans (HF.out.to_below (below_size HL5.out) (fun k hk => Nat.le_trans HGW.out hk))⟩
      have HCB : Aside0 ((Kd.int .u8).C wr A B.length B) := ⟨Kd.C_below HB.out HLW.out⟩
      have hlt : ∀ ad, A = some ad → 0 < B.length → ad.block < wr.heap.size := by
       intro ad e hn
       subst e
       obtain ⟨b, o, e, hlt, _⟩ := C_int_lit HCB.out hn
       cases e
       exact hlt
      have HSW : Aside0 (Calls Try.prog 29 #[.slice A B.length c] wr fun e w' => e = .returned (.string (strOfNums (digestP Z))) ∧ Below wr.heap.size wr w') := ⟨by rw [← HSUM.out]; exact sum_walk HCB.out HC.out (by have := HBIG.out; omega) hlt⟩
      obtain ⟨d, hd⟩ : ∃ d, strOfNums (digestP Z) = d := ⟨_, rfl⟩
      have hds : d.size = 32 := by rw [← hd, strOfNums_size, digestP, b32_length]
      rw [hd] at HSW
      have HDE := Aside0.mk hd
      have HDS := Aside0.mk hds
      clear hlt h64 hL0 HAB HI HLC HCB hd
      go_wp2_with fail
      refine HSW.out.mono ?_
      rintro e w6 ⟨rfl, hb6⟩
      have HL6 := Aside0.mk (below_step HLW.out hb6)
      have HZ6 := Aside0.mk (blk_below HBZ.out hb6)
      clear hb6 HSW HLW HBZ
      go_wp2
      clear hds
      go_loopg [9] 8 (fun kq v w' => ∃ i : Nat, v = .int .i64 i ∧ Aside0 (i + kq = 8) ∧ Aside0 (w'.heap[g4]? = some (.cells (cs32 Z) 38 (0, 0))) ∧ Aside0 (Below w.heap.size w w'))
      case atStart => exact ⟨0, rfl, ⟨rfl⟩, HZ6, HL6⟩
      case round =>
       clear HZ6 HL6
       obtain ⟨i, rfl, HI, HZ6, HL6⟩ := hrel
       by_cases hi : i < 8
       ·have d2 : decide ((i : Int) < 8) = true := decide_eq_true (by omega)
        have p1 := eq_true (show (0 : Int) ≤ (i : Int) by omega)
        have p2 := eq_true (show (i : Int) < 8 by omega)
        have e0 : wr.cell? ⟨g4, i, none⟩ = some (.int .u32 (Z.getD i 0)) := by rw [blk_cell HZ6.out i]; exact cs32_get _ i (by rw [HZ.out]; exact hi)
        obtain ⟨z, hz⟩ : ∃ z, Z.getD i 0 = z := ⟨_, rfl⟩
        rw [hz] at e0
        obtain ⟨q, hq⟩ : ∃ q, 4 * i = q := ⟨_, rfl⟩
        obtain ⟨q1, hq1⟩ : ∃ q1, q + 1 = q1 := ⟨_, rfl⟩
        obtain ⟨q2, hq2⟩ : ∃ q2, q + 2 = q2 := ⟨_, rfl⟩
        obtain ⟨q3, hq3⟩ : ∃ q3, q + 3 = q3 := ⟨_, rfl⟩
        have w1 : wrap64 (4 * (i : Int)) = (q : Int) := by rw [wrap64_id _ (by omega) (by omega)]; omega
        have w2 : wrap64 ((q : Int) + 1) = (q1 : Int) := by rw [wrap64_id _ (by omega) (by omega)]; omega
        have w3 : wrap64 ((q : Int) + 2) = (q2 : Int) := by rw [wrap64_id _ (by omega) (by omega)]; omega
        have w4' : wrap64 ((q : Int) + 3) = (q3 : Int) := by rw [wrap64_id _ (by omega) (by omega)]; omega
        have x0 := fun W => index_str d q (by have := HDS.out; omega) W
        have x1 := fun W => index_str d q1 (by have := HDS.out; omega) W
        have x2 := fun W => index_str d q2 (by have := HDS.out; omega) W
        have x3 := fun W => index_str d q3 (by have := HDS.out; omega) W
        have HQ := Aside0.mk hq
        have HQ1 := Aside0.mk hq1
        have HQ2 := Aside0.mk hq2
        have HQ3 := Aside0.mk hq3
        have HZD := Aside0.mk hz
        obtain ⟨b0, hb0⟩ : ∃ b, bt d (q : Int) = b := ⟨_, rfl⟩
        obtain ⟨b1, hb1⟩ : ∃ b, bt d (q1 : Int) = b := ⟨_, rfl⟩
        obtain ⟨b2, hb2⟩ : ∃ b, bt d (q2 : Int) = b := ⟨_, rfl⟩
        obtain ⟨b3, hb3⟩ : ∃ b, bt d (q3 : Int) = b := ⟨_, rfl⟩
        rw [hb0] at x0
        rw [hb1] at x1
        rw [hb2] at x2
        rw [hb3] at x3
        have HBS : Aside0 (bt d (q : Int) = b0 ∧ bt d (q1 : Int) = b1 ∧ bt d (q2 : Int) = b2 ∧ bt d (q3 : Int) = b3) := ⟨⟨hb0, hb1, hb2, hb3⟩⟩
        have HI8 := Aside0.mk hi
        clear hq hq1 hq2 hq3 hb0 hb1 hb2 hb3 hz hi
        go_wp2
        refine start_ (n := 33) (S := fun w' => w'.cell? ⟨g4, i, none⟩ = some (.int .u32 z)) (ds := []) #[false, false, false, false, false, false, false, false, false, false, false, false, false, false, false, false, false, false, false, false, false, false, false, false, false, false, false, false, false, false, false, false, false] (by kernel_rfl) rfl rfl (e0) (fun hHeld => ?_)
        refine pure_ (i := 0) (N := some 61) (v := ?_) (a' := ?_) #[true, false, false, false, false, false, false, false, false, false, false, false, false, false, false, false, false, false, false, false, false, false, false, false, false, false, false, false, false, false, false, false, false] rfl rfl (by kernel_rfl) (fun _ _ _ h => h) (Or.inl ⟨by rfl, ?_⟩) ?_ ?_
        rotate_left
        ·intro w'
         go_simp
         with_reducible rfl
        rotate_left
        ·simp only [Act.put, List.setIfInBounds_toArray, List.set_cons_zero, List.set_cons_succ, i64_w, i32_w]
         rfl
        refine pure_ (i := 1) (N := some 62) (v := ?_) (a' := ?_) #[true, true, false, false, false, false, false, false, false, false, false, false, false, false, false, false, false, false, false, false, false, false, false, false, false, false, false, false, false, false, false, false, false] rfl rfl (by kernel_rfl) (fun _ _ _ h => h) (Or.inl ⟨by rfl, ?_⟩) ?_ ?_
        rotate_left
        ·intro w'
         go_simp
         with_reducible rfl
        rotate_left
        ·simp only [Act.put, List.setIfInBounds_toArray, List.set_cons_zero, List.set_cons_succ, i64_w, i32_w]
         rfl
        refine pure_ (i := 2) (N := some 63) (v := ?_) (a' := ?_) #[true, true, true, false, false, false, false, false, false, false, false, false, false, false, false, false, false, false, false, false, false, false, false, false, false, false, false, false, false, false, false, false, false] rfl rfl (by kernel_rfl) (fun _ _ _ h => h) (Or.inl ⟨by rfl, ?_⟩) ?_ ?_
        rotate_left
        ·intro w'
         go_simp
         with_reducible rfl
        rotate_left
        ·simp only [Act.put, List.setIfInBounds_toArray, List.set_cons_zero, List.set_cons_succ, i64_w, i32_w]
         rfl
        refine pure_ (i := 6) (N := some 67) (v := ?_) (a' := ?_) #[true, true, true, false, false, false, true, false, false, false, false, false, false, false, false, false, false, false, false, false, false, false, false, false, false, false, false, false, false, false, false, false, false] rfl rfl (by kernel_rfl) (fun _ _ _ h => h) (Or.inl ⟨by rfl, ?_⟩) ?_ ?_
        rotate_left
        ·intro w'
         go_simp
         with_reducible rfl
        rotate_left
        ·simp only [Act.put, List.setIfInBounds_toArray, List.set_cons_zero, List.set_cons_succ, i64_w, i32_w]
         rfl
        refine pure_ (i := 7) (N := some 68) (v := ?_) (a' := ?_) #[true, true, true, false, false, false, true, true, false, false, false, false, false, false, false, false, false, false, false, false, false, false, false, false, false, false, false, false, false, false, false, false, false] rfl rfl (by kernel_rfl) (fun _ _ _ h => h) (Or.inl ⟨by rfl, ?_⟩) ?_ ?_
        rotate_left
        ·intro w'
         go_simp
         with_reducible rfl
        rotate_left
        ·simp only [Act.put, List.setIfInBounds_toArray, List.set_cons_zero, List.set_cons_succ, i64_w, i32_w]
         rfl
        refine pure_ (i := 8) (N := some 69) (v := ?_) (a' := ?_) #[true, true, true, false, false, false, true, true, true, false, false, false, false, false, false, false, false, false, false, false, false, false, false, false, false, false, false, false, false, false, false, false, false] rfl rfl (by kernel_rfl) (fun _ _ _ h => h) (Or.inl ⟨by rfl, ?_⟩) ?_ ?_
        rotate_left
        ·intro w'
         go_simp
         with_reducible rfl
        rotate_left
        ·simp only [Act.put, List.setIfInBounds_toArray, List.set_cons_zero, List.set_cons_succ, i64_w, i32_w]
         rfl
        refine pure_ (i := 9) (N := some 70) (v := ?_) (a' := ?_) #[true, true, true, false, false, false, true, true, true, true, false, false, false, false, false, false, false, false, false, false, false, false, false, false, false, false, false, false, false, false, false, false, false] rfl rfl (by kernel_rfl) (fun _ _ _ h => h) (Or.inl ⟨by rfl, ?_⟩) ?_ ?_
        rotate_left
        ·intro w'
         go_simp
         with_reducible rfl
        rotate_left
        ·simp only [Act.put, List.setIfInBounds_toArray, List.set_cons_zero, List.set_cons_succ, i64_w, i32_w]
         rfl
        refine pure_ (i := 14) (N := some 75) (v := ?_) (a' := ?_) #[true, true, true, false, false, false, true, true, true, true, false, false, false, false, true, false, false, false, false, false, false, false, false, false, false, false, false, false, false, false, false, false, false] rfl rfl (by kernel_rfl) (fun _ _ _ h => h) (Or.inl ⟨by rfl, ?_⟩) ?_ ?_
        rotate_left
        ·intro w'
         go_simp
         with_reducible rfl
        rotate_left
        ·simp only [Act.put, List.setIfInBounds_toArray, List.set_cons_zero, List.set_cons_succ, i64_w, i32_w]
         rfl
        refine pure_ (i := 15) (N := some 76) (v := ?_) (a' := ?_) #[true, true, true, false, false, false, true, true, true, true, false, false, false, false, true, true, false, false, false, false, false, false, false, false, false, false, false, false, false, false, false, false, false] rfl rfl (by kernel_rfl) (fun _ _ _ h => h) (Or.inl ⟨by rfl, ?_⟩) ?_ ?_
        rotate_left
        ·intro w'
         go_simp
         with_reducible rfl
        rotate_left
        ·simp only [Act.put, List.setIfInBounds_toArray, List.set_cons_zero, List.set_cons_succ, i64_w, i32_w]
         rfl
        refine pure_ (i := 16) (N := some 77) (v := ?_) (a' := ?_) #[true, true, true, false, false, false, true, true, true, true, false, false, false, false, true, true, true, false, false, false, false, false, false, false, false, false, false, false, false, false, false, false, false] rfl rfl (by kernel_rfl) (fun _ _ _ h => h) (Or.inl ⟨by rfl, ?_⟩) ?_ ?_
        rotate_left
        ·intro w'
         go_simp
         with_reducible rfl
        rotate_left
        ·simp only [Act.put, List.setIfInBounds_toArray, List.set_cons_zero, List.set_cons_succ, i64_w, i32_w]
         rfl
        refine pure_ (i := 17) (N := some 78) (v := ?_) (a' := ?_) #[true, true, true, false, false, false, true, true, true, true, false, false, false, false, true, true, true, true, false, false, false, false, false, false, false, false, false, false, false, false, false, false, false] rfl rfl (by kernel_rfl) (fun _ _ _ h => h) (Or.inl ⟨by rfl, ?_⟩) ?_ ?_
        rotate_left
        ·intro w'
         go_simp
         with_reducible rfl
        rotate_left
        ·simp only [Act.put, List.setIfInBounds_toArray, List.set_cons_zero, List.set_cons_succ, i64_w, i32_w]
         rfl
        refine pure_ (i := 22) (N := some 83) (v := ?_) (a' := ?_) #[true, true, true, false, false, false, true, true, true, true, false, false, false, false, true, true, true, true, false, false, false, false, true, false, false, false, false, false, false, false, false, false, false] rfl rfl (by kernel_rfl) (fun _ _ _ h => h) (Or.inl ⟨by rfl, ?_⟩) ?_ ?_
        rotate_left
        ·intro w'
         go_simp
         with_reducible rfl
        rotate_left
        ·simp only [Act.put, List.setIfInBounds_toArray, List.set_cons_zero, List.set_cons_succ, i64_w, i32_w]
         rfl
        refine pure_ (i := 23) (N := some 84) (v := ?_) (a' := ?_) #[true, true, true, false, false, false, true, true, true, true, false, false, false, false, true, true, true, true, false, false, false, false, true, true, false, false, false, false, false, false, false, false, false] rfl rfl (by kernel_rfl) (fun _ _ _ h => h) (Or.inl ⟨by rfl, ?_⟩) ?_ ?_
        rotate_left
        ·intro w'
         go_simp
         with_reducible rfl
        rotate_left
        ·simp only [Act.put, List.setIfInBounds_toArray, List.set_cons_zero, List.set_cons_succ, i64_w, i32_w]
         rfl
        refine pure_ (i := 24) (N := some 85) (v := ?_) (a' := ?_) #[true, true, true, false, false, false, true, true, true, true, false, false, false, false, true, true, true, true, false, false, false, false, true, true, true, false, false, false, false, false, false, false, false] rfl rfl (by kernel_rfl) (fun _ _ _ h => h) (Or.inl ⟨by rfl, ?_⟩) ?_ ?_
        rotate_left
        ·intro w'
         go_simp
         with_reducible rfl
        rotate_left
        ·simp only [Act.put, List.setIfInBounds_toArray, List.set_cons_zero, List.set_cons_succ, i64_w, i32_w]
         rfl
        refine pure_ (i := 25) (N := some 86) (v := ?_) (a' := ?_) #[true, true, true, false, false, false, true, true, true, true, false, false, false, false, true, true, true, true, false, false, false, false, true, true, true, true, false, false, false, false, false, false, false] rfl rfl (by kernel_rfl) (fun _ _ _ h => h) (Or.inl ⟨by rfl, ?_⟩) ?_ ?_
        rotate_left
        ·intro w'
         go_simp
         with_reducible rfl
        rotate_left
        ·simp only [Act.put, List.setIfInBounds_toArray, List.set_cons_zero, List.set_cons_succ, i64_w, i32_w]
         rfl
        refine pure_ (i := 29) (N := some 90) (v := ?_) (a' := ?_) #[true, true, true, false, false, false, true, true, true, true, false, false, false, false, true, true, true, true, false, false, false, false, true, true, true, true, false, false, false, true, false, false, false] rfl rfl (by kernel_rfl) (fun _ _ _ h => h) (Or.inl ⟨by rfl, ?_⟩) ?_ ?_
        rotate_left
        ·intro w'
         go_simp
         with_reducible rfl
        rotate_left
        ·simp only [Act.put, List.setIfInBounds_toArray, List.set_cons_zero, List.set_cons_succ, i64_w, i32_w]
         rfl
        refine pure_ (i := 30) (N := some 91) (v := ?_) (a' := ?_) #[true, true, true, false, false, false, true, true, true, true, false, false, false, false, true, true, true, true, false, false, false, false, true, true, true, true, false, false, false, true, true, false, false] rfl rfl (by kernel_rfl) (fun _ _ _ h => h) (Or.inl ⟨by rfl, ?_⟩) ?_ ?_
        rotate_left
        ·intro w'
         go_simp
         with_reducible rfl
        rotate_left
        ·simp only [Act.put, List.setIfInBounds_toArray, List.set_cons_zero, List.set_cons_succ, i64_w, i32_w]
         rfl
        refine take_ (i := 3) (N := some 64) (v := ?_) (a' := ?_) #[true, true, true, true, false, false, true, true, true, true, false, false, false, false, true, true, true, true, false, false, false, false, true, true, true, true, false, false, false, true, true, false, false] rfl rfl (by kernel_rfl) (fun _ _ _ h => h) (Or.inl ⟨by rfl, ?_⟩) hHeld ?_ ?_
        rotate_left
        ·intro w' s0
         go_simp
         with_reducible rfl
        rotate_left
        ·simp only [Act.put, List.setIfInBounds_toArray, List.set_cons_zero, List.set_cons_succ, i64_w, i32_w]
         rfl
        refine pure_ (i := 4) (N := some 65) (v := ?_) (a' := ?_) #[true, true, true, true, true, false, true, true, true, true, false, false, false, false, true, true, true, true, false, false, false, false, true, true, true, true, false, false, false, true, true, false, false] rfl rfl (by kernel_rfl) (fun _ _ _ h => h) (Or.inl ⟨by rfl, ?_⟩) ?_ ?_
        rotate_left
        ·intro w'
         go_simp
         with_reducible rfl
        rotate_left
        ·simp only [Act.put, List.setIfInBounds_toArray, List.set_cons_zero, List.set_cons_succ, i64_w, i32_w]
         rfl
        refine pure_ (i := 5) (N := some 66) (v := ?_) (a' := ?_) #[true, true, true, true, true, true, true, true, true, true, false, false, false, false, true, true, true, true, false, false, false, false, true, true, true, true, false, false, false, true, true, false, false] rfl rfl (by kernel_rfl) (fun _ _ _ h => h) (Or.inl ⟨by rfl, ?_⟩) ?_ ?_
        rotate_left
        ·intro w'
         go_simp
         with_reducible rfl
        rotate_left
        ·simp only [Act.put, List.setIfInBounds_toArray, List.set_cons_zero, List.set_cons_succ, i64_w, i32_w]
         rfl
        refine take_ (i := 10) (N := some 71) (v := ?_) (a' := ?_) #[true, true, true, true, true, true, true, true, true, true, true, false, false, false, true, true, true, true, false, false, false, false, true, true, true, true, false, false, false, true, true, false, false] rfl rfl (by kernel_rfl) (fun _ _ _ h => h) (Or.inl ⟨by rfl, ?_⟩) hHeld ?_ ?_
        rotate_left
        ·intro w' s0
         go_simp
         with_reducible rfl
        rotate_left
        ·simp only [Act.put, List.setIfInBounds_toArray, List.set_cons_zero, List.set_cons_succ, i64_w, i32_w]
         rfl
        refine pure_ (i := 11) (N := some 72) (v := ?_) (a' := ?_) #[true, true, true, true, true, true, true, true, true, true, true, true, false, false, true, true, true, true, false, false, false, false, true, true, true, true, false, false, false, true, true, false, false] rfl rfl (by kernel_rfl) (fun _ _ _ h => h) (Or.inl ⟨by rfl, ?_⟩) ?_ ?_
        rotate_left
        ·intro w'
         go_simp
         with_reducible rfl
        rotate_left
        ·simp only [Act.put, List.setIfInBounds_toArray, List.set_cons_zero, List.set_cons_succ, i64_w, i32_w]
         rfl
        refine pure_ (i := 12) (N := some 73) (v := ?_) (a' := ?_) #[true, true, true, true, true, true, true, true, true, true, true, true, true, false, true, true, true, true, false, false, false, false, true, true, true, true, false, false, false, true, true, false, false] rfl rfl (by kernel_rfl) (fun _ _ _ h => h) (Or.inl ⟨by rfl, ?_⟩) ?_ ?_
        rotate_left
        ·intro w'
         go_simp
         with_reducible rfl
        rotate_left
        ·simp only [Act.put, List.setIfInBounds_toArray, List.set_cons_zero, List.set_cons_succ, i64_w, i32_w]
         rfl
        refine pure_ (i := 13) (N := some 74) (v := ?_) (a' := ?_) #[true, true, true, true, true, true, true, true, true, true, true, true, true, true, true, true, true, true, false, false, false, false, true, true, true, true, false, false, false, true, true, false, false] rfl rfl (by kernel_rfl) (fun _ _ _ h => h) (Or.inl ⟨by rfl, ?_⟩) ?_ ?_
        rotate_left
        ·intro w'
         go_simp
         with_reducible rfl
        rotate_left
        ·simp only [Act.put, List.setIfInBounds_toArray, List.set_cons_zero, List.set_cons_succ, i64_w, i32_w]
         rfl
        refine take_ (i := 18) (N := some 79) (v := ?_) (a' := ?_) #[true, true, true, true, true, true, true, true, true, true, true, true, true, true, true, true, true, true, true, false, false, false, true, true, true, true, false, false, false, true, true, false, false] rfl rfl (by kernel_rfl) (fun _ _ _ h => h) (Or.inl ⟨by rfl, ?_⟩) hHeld ?_ ?_
        rotate_left
        ·intro w' s0
         go_simp
         with_reducible rfl
        rotate_left
        ·simp only [Act.put, List.setIfInBounds_toArray, List.set_cons_zero, List.set_cons_succ, i64_w, i32_w]
         rfl
        refine pure_ (i := 19) (N := some 80) (v := ?_) (a' := ?_) #[true, true, true, true, true, true, true, true, true, true, true, true, true, true, true, true, true, true, true, true, false, false, true, true, true, true, false, false, false, true, true, false, false] rfl rfl (by kernel_rfl) (fun _ _ _ h => h) (Or.inl ⟨by rfl, ?_⟩) ?_ ?_
        rotate_left
        ·intro w'
         go_simp
         with_reducible rfl
        rotate_left
        ·simp only [Act.put, List.setIfInBounds_toArray, List.set_cons_zero, List.set_cons_succ, i64_w, i32_w]
         rfl
        refine pure_ (i := 20) (N := some 81) (v := ?_) (a' := ?_) #[true, true, true, true, true, true, true, true, true, true, true, true, true, true, true, true, true, true, true, true, true, false, true, true, true, true, false, false, false, true, true, false, false] rfl rfl (by kernel_rfl) (fun _ _ _ h => h) (Or.inl ⟨by rfl, ?_⟩) ?_ ?_
        rotate_left
        ·intro w'
         go_simp
         with_reducible rfl
        rotate_left
        ·simp only [Act.put, List.setIfInBounds_toArray, List.set_cons_zero, List.set_cons_succ, i64_w, i32_w]
         rfl
        refine pure_ (i := 21) (N := some 82) (v := ?_) (a' := ?_) #[true, true, true, true, true, true, true, true, true, true, true, true, true, true, true, true, true, true, true, true, true, true, true, true, true, true, false, false, false, true, true, false, false] rfl rfl (by kernel_rfl) (fun _ _ _ h => h) (Or.inl ⟨by rfl, ?_⟩) ?_ ?_
        rotate_left
        ·intro w'
         go_simp
         with_reducible rfl
        rotate_left
        ·simp only [Act.put, List.setIfInBounds_toArray, List.set_cons_zero, List.set_cons_succ, i64_w, i32_w]
         rfl
        refine take_ (i := 26) (N := some 87) (v := ?_) (a' := ?_) #[true, true, true, true, true, true, true, true, true, true, true, true, true, true, true, true, true, true, true, true, true, true, true, true, true, true, true, false, false, true, true, false, false] rfl rfl (by kernel_rfl) (fun _ _ _ h => h) (Or.inl ⟨by rfl, ?_⟩) hHeld ?_ ?_
        rotate_left
        ·intro w' s0
         go_simp
         with_reducible rfl
        rotate_left
        ·simp only [Act.put, List.setIfInBounds_toArray, List.set_cons_zero, List.set_cons_succ, i64_w, i32_w]
         rfl
        refine pure_ (i := 27) (N := some 88) (v := ?_) (a' := ?_) #[true, true, true, true, true, true, true, true, true, true, true, true, true, true, true, true, true, true, true, true, true, true, true, true, true, true, true, true, false, true, true, false, false] rfl rfl (by kernel_rfl) (fun _ _ _ h => h) (Or.inl ⟨by rfl, ?_⟩) ?_ ?_
        rotate_left
        ·intro w'
         go_simp
         with_reducible rfl
        rotate_left
        ·simp only [Act.put, List.setIfInBounds_toArray, List.set_cons_zero, List.set_cons_succ, i64_w, i32_w]
         rfl
        refine pure_ (i := 28) (N := some 89) (v := ?_) (a' := ?_) #[true, true, true, true, true, true, true, true, true, true, true, true, true, true, true, true, true, true, true, true, true, true, true, true, true, true, true, true, true, true, true, false, false] rfl rfl (by kernel_rfl) (fun _ _ _ h => h) (Or.inl ⟨by rfl, ?_⟩) ?_ ?_
        rotate_left
        ·intro w'
         go_simp
         with_reducible rfl
        rotate_left
        ·simp only [Act.put, List.setIfInBounds_toArray, List.set_cons_zero, List.set_cons_succ, i64_w, i32_w]
         rfl
        refine take_ (i := 31) (N := some 92) (v := ?_) (a' := ?_) #[true, true, true, true, true, true, true, true, true, true, true, true, true, true, true, true, true, true, true, true, true, true, true, true, true, true, true, true, true, true, true, true, false] rfl rfl (by kernel_rfl) (fun _ _ _ h => h) (Or.inl ⟨by rfl, ?_⟩) hHeld ?_ ?_
        rotate_left
        ·intro w' s0
         go_simp
         with_reducible rfl
        rotate_left
        ·simp only [Act.put, List.setIfInBounds_toArray, List.set_cons_zero, List.set_cons_succ, i64_w, i32_w]
         rfl
        refine pure_ (i := 32) (N := some 93) (v := ?_) (a' := ?_) #[true, true, true, true, true, true, true, true, true, true, true, true, true, true, true, true, true, true, true, true, true, true, true, true, true, true, true, true, true, true, true, true, true] rfl rfl (by kernel_rfl) (fun _ _ _ h => h) (Or.inl ⟨by rfl, ?_⟩) ?_ ?_
        rotate_left
        ·intro w'
         go_simp
         with_reducible rfl
        rotate_left
        ·simp only [Act.put, List.setIfInBounds_toArray, List.set_cons_zero, List.set_cons_succ, i64_w, i32_w]
         rfl
        refine done_ (by kernel_rfl) ?_
        have heq : IntKind.u32.wrap (IntKind.u32.wrap (IntKind.u32.wrap (IntKind.u32.wrap (IntKind.u32.wrap b0 * 16777216) + IntKind.u32.wrap (IntKind.u32.wrap b1 * 65536)) + IntKind.u32.wrap (IntKind.u32.wrap b2 * 256)) + IntKind.u32.wrap b3) = z := by
         have h0 := bt_digest Z i 0 HI8.out (by decide)
         have h1 := bt_digest Z i 1 HI8.out (by decide)
         have h2 := bt_digest Z i 2 HI8.out (by decide)
         have h3 := bt_digest Z i 3 HI8.out (by decide)
         rw [HDE.out, HZD.out] at h0 h1 h2 h3
         rw [Nat.add_zero, HQ.out] at h0
         rw [HQ.out, HQ1.out] at h1
         rw [HQ.out, HQ2.out] at h2
         rw [HQ.out, HQ3.out] at h3
         rw [HBS.out.1] at h0
         rw [HBS.out.2.1] at h1
         rw [HBS.out.2.2.1] at h2
         rw [HBS.out.2.2.2] at h3
         have g0 : b0 = z / 16777216 % 256 := h0
         have g1 : b1 = z / 65536 % 256 := h1
         have g2 : b2 = z / 256 % 256 := h2
         have g3 : b3 = z % 256 := h3
         rw [g0, g1, g2, g3]
         refine word_back z (HIN.out z ?_)
         rw [← HZD.out, List.getD_eq_getElem?_getD, List.getElem?_eq_getElem (by rw [HZ.out]; exact HI8.out)]
         exact List.getElem_mem _
        go_wp2
        go_roundg (7 - i)
        case measure => have := HI.out; have := HI8.out; omega
        case rel => exact ⟨i + 1, inc64 i (by have := HI8.out; omega), ⟨by have := HI8.out; omega⟩, ⟨blk_drew HZ6.out⟩, ⟨below_drew HL6.out⟩⟩
       ·have hi8 : i = 8 := by have := HI.out; omega
        subst hi8
        clear hi HI
        go_wp2_with fail
        refine (lives2_walk wr).mono ?_
        rintro e w7 ⟨rfl, hb7⟩
        have HL7 := Aside0.mk (below_step HL6.out hb7)
        clear hb7
        go_wp2_with fail
        go_ret
        exact ⟨rfl, HL7.out⟩
 ·have d0 : decide (1000 < B.length) = true := decide_eq_true (by omega)
  have d0' : decide ((1000 : Int) < (B.length : Int)) = true := decide_eq_true (by omega)
  clear hbig
  go_enter Try.func5, Try.ntmps5
  go_wp2_with fail
  refine (lives2_walk w).mono ?_
  rintro e w7 ⟨rfl, hb7⟩
  have HL7 := Aside0.mk hb7
  clear hb7
  go_wp2_with fail
  go_ret
  exact ⟨rfl, HL7.out⟩
theorem whole.calls (A : Option Addr) (c : Nat) (B : List Int) (r : Bool) (w : World) (hB : (Kd.int .u8).C w A B.length B) (hc : B.length ≤ c) (h : r = true) :
  Calls Try.prog 5 #[.slice A B.length c] w fun e w' => e = .returned (.bool r) ∧ Below w.heap.size w w' := by
 subst h
 exact whole_walk hB hc

end Go.Proofs.Ytcdnmlfnfhoieaa.A

/- What a struct and a list of structs read as, as the walks take it. No condition. -/
namespace Go.Proofs.Ytcdnmlfnfhoieaa.A
open Go.ChangeShapes Go.WideShapes Go.ChangeAt Go.RowKit Go.Joins Go.Deep
open Go.Proofs.YtcdnmlfnfhoieaaW.PrintWords Go.Proofs.YtcdnmlfnfhoieaaW.PrintLast Go.Proofs.YtcdnmlfnfhoieaaW.PrintMore
set_option linter.unusedVariables false

section
variable {H : Type} {enc : TypeId × Value → H} {w : World} {base : Nat} {held : Bool}
/-- A struct of five one-cell fields, by value. -/
theorem open_agg5 {P : Program} {spare : Nat → Bool} {r : Reach} {b0 : Nat} {t : TypeId} {f0 f1 f2 f3 f4 : Field} {v : Value} {d : DataW H} {p : List MemPlace} (hs : P.underlying t = some (.struct #[f0, f1, f2, f3, f4])) (hone : oneCellFields P #[f0, f1, f2, f3, f4] = true) (hC : P.cellsOf t = 5)
  (hv : Value.okWide P w r b0 t v) (h : DataW.Trod enc P w base spare held t v d p) :
  ∃ (v0 v1 v2 v3 v4 : Value) (y0 y1 y2 y3 y4 : DataW H × List MemPlace) (n : Nat), v = .agg #[v0, v1, v2, v3, v4] ∧
   DataW.trod enc P w base spare held n f0.type [v0] = some y0 ∧ DataW.trod enc P w base spare held n f1.type [v1] = some y1 ∧ DataW.trod enc P w base spare held n f2.type [v2] = some y2 ∧ DataW.trod enc P w base spare held n f3.type [v3] = some y3 ∧ DataW.trod enc P w base spare held n f4.type [v4] = some y4 := by
 obtain ⟨cs, rfl, hsz⟩ := okWide_struct hs hv
 obtain ⟨l⟩ := cs
 match l, hsz.trans hC with
 | [c0, c1, c2, c3, c4], _ =>
  obtain ⟨fuel, hf⟩ := h
  obtain ⟨xs, n, _, hx, _, hlen, hg⟩ := DataW.trod_struct hs hf
  obtain ⟨o0, k0⟩ := hone_of hone 0 f0 rfl
  obtain ⟨o1, k1⟩ := hone_of hone 1 f1 rfl
  obtain ⟨o2, k2⟩ := hone_of hone 2 f2 rfl
  obtain ⟨o3, k3⟩ := hone_of hone 3 f3 rfl
  obtain ⟨o4, k4⟩ := hone_of hone 4 f4 rfl
  match xs, hlen with
  | [y0, y1, y2, y3, y4], _ =>
   exact ⟨c0, c1, c2, c3, c4, y0, y1, y2, y3, y4, n, rfl, by simpa [Value.cells, o0, k0] using hg 0 f0 rfl, by simpa [Value.cells, o1, k1] using hg 1 f1 rfl, by simpa [Value.cells, o2, k2] using hg 2 f2 rfl, by simpa [Value.cells, o3, k3] using hg 3 f3 rfl, by simpa [Value.cells, o4, k4] using hg 4 f4 rfl⟩
/-- A struct of three one-cell fields, by value. -/
theorem open_agg3' {P : Program} {spare : Nat → Bool} {r : Reach} {b0 : Nat} {t : TypeId} {f0 f1 f2 : Field} {v : Value} {d : DataW H} {p : List MemPlace} (hs : P.underlying t = some (.struct #[f0, f1, f2])) (hone : oneCellFields P #[f0, f1, f2] = true) (hC : P.cellsOf t = 3)
  (hv : Value.okWide P w r b0 t v) (h : DataW.Trod enc P w base spare held t v d p) :
  ∃ (v0 v1 v2 : Value) (y0 y1 y2 : DataW H × List MemPlace) (n : Nat), v = .agg #[v0, v1, v2] ∧
   DataW.trod enc P w base spare held n f0.type [v0] = some y0 ∧ DataW.trod enc P w base spare held n f1.type [v1] = some y1 ∧ DataW.trod enc P w base spare held n f2.type [v2] = some y2 := by
 obtain ⟨v0, v1, v2, y0, y1, y2, n, h1, _, _, h2⟩ := Go.Joins.open_agg3 hs hone hC hv h
 exact ⟨v0, v1, v2, y0, y1, y2, n, h1, h2⟩
/-- An array of two one-cell elements, by value. -/
theorem open_arr2 {P : Program} {spare : Nat → Bool} {r : Reach} {b0 : Nat} {t e : TypeId} {v : Value} {d : DataW H} {p : List MemPlace} (hs : P.underlying t = some (.array 2 e)) (hC : P.cellsOf t = 2) (he : P.cellsOf e = 1)
  (hv : Value.okWide P w r b0 t v) (h : DataW.Trod enc P w base spare held t v d p) :
  ∃ (v0 v1 : Value) (y0 y1 : DataW H × List MemPlace) (n : Nat), v = .agg #[v0, v1] ∧ DataW.trod enc P w base spare held n e [v0] = some y0 ∧ DataW.trod enc P w base spare held n e [v1] = some y1 := by
 simp only [Value.okWide, hs] at hv
 obtain ⟨cs, rfl, hsz, _⟩ := hv
 obtain ⟨l⟩ := cs
 match l, hsz.trans hC with
 | [c0, c1], _ =>
  obtain ⟨fuel, hf⟩ := h
  obtain ⟨xs, n, _, _, _, hlen, hg⟩ := DataW.trod_array hs hf
  match xs, hlen with
  | [y0, y1], _ => exact ⟨c0, c1, y0, y1, n, rfl, by simpa [Value.cells, he] using hg 0 (by decide), by simpa [Value.cells, he] using hg 1 (by decide)⟩
theorem open_arrint {P : Program} {spare : Nat → Bool} {r : Reach} {b0 : Nat} {t e : TypeId} {v : Value} {d : DataW H} {p : List MemPlace} (hs : P.underlying t = some (.array 2 e)) (hC : P.cellsOf t = 2) (he : P.cellsOf e = 1) (hi : P.underlying e = some (.int .i64))
  (hv : Value.okWide P w r b0 t v) (h : DataW.Trod enc P w base spare held t v d p) : ∃ n0 n1 : Int, v = .agg #[.int .i64 n0, .int .i64 n1] := by
 obtain ⟨v0, v1, y0, y1, n, rfl, h0, h1⟩ := open_arr2 hs hC he hv h
 obtain ⟨a0, e0, _⟩ := DataW.trod_int hi h0
 obtain ⟨a1, e1, _⟩ := DataW.trod_int hi h1
 cases e0
 cases e1
 exact ⟨a0, a1, rfl⟩
theorem open_arrstr {P : Program} {spare : Nat → Bool} {r : Reach} {b0 : Nat} {t e : TypeId} {v : Value} {d : DataW H} {p : List MemPlace} (hs : P.underlying t = some (.array 2 e)) (hC : P.cellsOf t = 2) (he : P.cellsOf e = 1) (hi : P.underlying e = some .string)
  (hv : Value.okWide P w r b0 t v) (h : DataW.Trod enc P w base spare held t v d p) : ∃ s0 s1 : ByteArray, v = .agg #[.string s0, .string s1] := by
 obtain ⟨v0, v1, y0, y1, n, rfl, h0, h1⟩ := open_arr2 hs hC he hv h
 obtain ⟨a0, e0, _⟩ := DataW.trod_string hi h0
 obtain ⟨a1, e1, _⟩ := DataW.trod_string hi h1
 cases e0
 cases e1
 exact ⟨a0, a1, rfl⟩
set_option maxRecDepth 100000 in
/-- A list of entries. -/
theorem open_T64 {n : Nat} {v : Value} {y : DataW H × List MemPlace} (h : DataW.trod enc Try.prog w base (fun _ => true) held n 52 [v] = some y) :
  ∃ (A : Option Addr) (c : Nat) (l : List S64), v = .slice A l.length c ∧ l.length ≤ c ∧ Kd.C k64 w A l.length l := by
 rcases Go.Deep.open_slice Try.underlying52 h with ⟨hcs, _⟩ | ⟨a, len, cap, m, n', D, Pl, hcs, hb, hl, hm, hmm, hx, hall⟩
 ·cases hcs
  exact ⟨none, 0, [], rfl, Nat.le_refl _, rfl, by simp, fun h => absurd h (Nat.lt_irrefl _)⟩
 ·cases hcs
  have hm' : m = cap := by simpa using hmm
  have h5 : Try.prog.cellsOf 64 = 5 := by kernel_rfl
  haveI : Inhabited S64 := ⟨z64⟩
  have each : ∀ i, i < len → ∃ e : S64, ∀ j u, [Value.int .i64 e.f0, .int .i64 e.f1, .int .i64 e.f2, .string e.f3, .int .i64 e.f4][j]? = some u → w.cell? (a.add (i * 5 + j)) = some u := by
   intro i hi
   obtain ⟨cs', h1, h2⟩ := hall i (by omega)
   rw [h5] at h1
   obtain ⟨_, hlen, hcell⟩ := World.cells?_some h1
   obtain ⟨xs, k, hk, hxy, _, hxl, hf⟩ := DataW.trod_struct Try.underlying64 h2
   match xs, hxl, cs', hlen with
   | [y0, y1, y2, y3, y4], _, [v0, v1, v2, v3, v4], _ =>
    have c3 : Try.prog.cellsOf 3 = 1 := by kernel_rfl
    have c9 : Try.prog.cellsOf 9 = 1 := by kernel_rfl
    have c26 : Try.prog.cellsOf 26 = 1 := by kernel_rfl
    have g0 := hf 0 _ rfl
    have g1 := hf 1 _ rfl
    have g2 := hf 2 _ rfl
    have g3 := hf 3 _ rfl
    have g4 := hf 4 _ rfl
    simp [c3, c9, c26] at g0 g1 g2 g3 g4
    obtain ⟨a0, e0, _⟩ := DataW.trod_int Try.underlying3 g0
    obtain ⟨a1, e1, _⟩ := DataW.trod_int Try.underlying3 g1
    obtain ⟨a2, e2, _⟩ := DataW.trod_int Try.underlying3 g2
    obtain ⟨a3, e3, _⟩ := DataW.trod_string Try.underlying9 g3
    obtain ⟨a4, e4, _⟩ := DataW.trod_int Try.underlying26 g4
    cases e0
    cases e1
    cases e2
    cases e3
    cases e4
    refine ⟨⟨a0, a1, a2, a3, a4⟩, fun j u hj => ?_⟩
    have hj5 : j < 5 := by
     rcases Nat.lt_or_ge j 5 with h | h
     ·exact h
     ·rw [List.getElem?_eq_none (by simpa using h)] at hj
      cases hj
    have := hcell j hj5
    rw [Go.Deep.add_add] at this
    rw [this]
    exact hj
  obtain ⟨f, hf⟩ := choose_lt (α := S64) (p := fun i e => ∀ j u, [Value.int .i64 e.f0, .int .i64 e.f1, .int .i64 e.f2, .string e.f3, .int .i64 e.f4][j]? = some u → w.cell? (a.add (i * 5 + j)) = some u) each
  have hlen : ((List.range len).map f).length = len := by simp
  refine ⟨some a, cap, (List.range len).map f, by rw [hlen], by rw [hlen]; exact hl, rfl, ?_, fun _ => ⟨a, rfl, fun j p hj => ?_⟩⟩
  ·rw [hlen]
   simp only [maxLen] at hm
   omega
  ·have hjl : j < len := by
    rcases Nat.lt_or_ge j len with h | h
    ·exact h
    ·rw [List.getElem?_eq_none (by simpa using h)] at hj
     cases hj
   have e : p = f j := by
    rw [List.getElem?_map, List.getElem?_range hjl] at hj
    exact (Option.some.inj hj).symm
   subst e
   exact ⟨_, rfl, k64_mk w (f j), fun i u hi => hf j hjl i u hi⟩
end

end Go.Proofs.Ytcdnmlfnfhoieaa.A

/- ShaWhole, for all bytes: the law answers true, and every argument reads behind the call as before. No condition beyond the row's own. -/
namespace Go.Proofs.Ytcdnmlfnfhoieaa.shaWhole
open Go.ChangeShapes Go.WideShapes Go.ChangeAt Go.RowKit Go.Joins Go.Deep
open Go.ChangeMaps (open_string shut_string)
open Go.Proofs.Ytcdnmlfnfhoieaa.A Go.Proofs.YtcdnmlfnfhoieaaW.PrintWords Go.Proofs.Ytcdnmlfnfhoieaa.Bs
set_option linter.unusedVariables false

theorem own : ownKnob Try.prog.godebug = none := by kernel_rfl
theorem laidOut : laidOutB Try.prog = true := by kernel_rfl

set_option maxRecDepth 100000 in
theorem lifted (os : Os) (started : os.Started) (H : Type) (enc : TypeId × Value → H) :
  ReturnsInHanded {} Try.checked os 5 .any (Rows.shaWholeSpec.pre6 enc Try.prog Try.f5 Rows.shaWholeRow.domain false) (Rows.shaWholeSpec.post enc Try.prog Try.f5 false true false false) := by
 refine returnsInHanded_of_change_sized (C := Try.checked) own started (by kernel_rfl) Try.func5
  (ChangeSpec.witness6 (enc := enc) (C := Try.checked) false ⟨#[], #[.slice none 0 0], []⟩ 8 (by kernel_rfl) (by kernel_rfl) (by kernel_rfl) (by kernel_rfl)) ?_
 intro W base args ds gs before hval0 hW hcnd hsz0 _
 have hsz : (DataW.weightsEach Try.prog (Try.f5.params.toList ++ Rows.shaWholeSpec.plain.varTypes Try.prog) (ds ++ gs)).all (· ≤ reachBytes) = true := hsz0
 have hval : ∀ (j : Nat) t v, Try.f5.params[j]? = some t → args[j]? = some v → Value.okWide Try.prog W .any base t v := hval0
 have hW' := hW
 obtain ⟨p, q, hA0, hV, rfl, hfz, hnd⟩ := hW
 have hA : DataW.TrodAll enc Try.prog W 0 (fun _ => true) true Try.f5.params.toList args.toList ds p := hA0
 rw [Try.params5] at hA hval
 obtain ⟨v0, vs0, d0, ds0, p0, q0, hargs, rfl, rfl, h0, r0⟩ := trodAll_cons hA
 obtain ⟨rfl, rfl, rfl⟩ := trodAll_nil r0
 obtain rfl : args = #[v0] := by cases args; simp_all
 obtain ⟨rfl, rfl⟩ := trodVars_none hV
 have k0 := h0
 have lt0 : ∀ x ∈ p0, x.block < W.heap.size := by obtain ⟨m, hm⟩ := k0; exact DataW.trod_lt m _ _ _ hm
 obtain ⟨aa0, len0, cap0, rfl⟩ := okWide_slice Try.underlying23 (hval 0 23 v0 rfl rfl)
 obtain ⟨z0, w0⟩ : ∃ zs, (aa0 = none ∧ len0 = 0 ∧ cap0 = 0 ∧ zs = []) ∨ ∃ x, aa0 = some x ∧ len0 ≤ cap0 ∧ cap0 ≤ maxLen ∧ zs.length = cap0 ∧ (∀ i, i < zs.length → W.cell? (x.add i) = some (.int .u8 (zs.getD i 0))) ∧ ∀ n ∈ zs, (Lit.int .u8 n).wf = true := by
  obtain ⟨fuel, hf⟩ := h0
  rcases open_ints Try.underlying23 Try.underlying5 (by kernel_rfl) hf with ⟨hcs, _⟩ | ⟨x, l, c, zs, hcs, _, hl, hm, hz, _, hcell, hwz⟩
  ·simp [Value.cells] at hcs
   obtain ⟨rfl, rfl, rfl⟩ := hcs
   exact ⟨[], .inl ⟨rfl, rfl, rfl, rfl⟩⟩
  ·simp [Value.cells] at hcs
   obtain ⟨rfl, rfl, rfl⟩ := hcs
   exact ⟨zs, .inr ⟨_, rfl, hl, hm, by simpa using hz, hcell, hwz⟩⟩
 obtain ⟨l0, rfl, hr0, hm0, hw0, hc0⟩ := ReadsInt.ofRowC w0
 have hb0 : ∀ x ∈ l0, 0 ≤ x ∧ x < 256 := by
  intro x hx
  have := hw0 x hx
  simp [Lit.wf, IntKind.min, IntKind.max, IntKind.signed, IntKind.bits] at this
  omega
 clear hA0 hval0 hsz0 hsz
 refine (whole.calls  aa0 cap0 l0 true W (Kd.C_of_reads (d := (0 : Int)) (h1 := fun _ => rfl) hr0) hc0 (rfl)).mono fun e W' ⟨he, bel⟩ => ?_
 subst he
 exact ⟨_, rfl, _, _, _, [], _, [], hW', trodAll_mk1 (shut_bool Try.underlying4 _), (trodAll_cons_mk (Below.trod laidOut (by kernel_rfl) (of_decide_eq_true (by kernel_rfl)) k0 bel lt0) trodAll_mk0), rfl, bel.frame _, fun h => by cases h⟩
theorem over : Rows.shaWholeRow.holds Try.pinned (OpenSpec.ofChange Rows.shaWholeSpec) :=
 OpenClaim.holds_of_wide 5 Try.f5 rfl rfl rfl rfl rfl rfl rfl ⟨rfl, rfl, rfl, rfl, rfl⟩ rfl rfl rfl rfl rfl (by kernel_rfl) Try.func5 (by kernel_rfl)
  (of_decide_eq_true (by kernel_rfl)) (by unfold Func.isWrapper; first | (rw [if_pos (by decide +kernel)]; kernel_rfl) | (rw [if_neg (by decide +kernel)]; exact ⟨rfl, rfl⟩))
  (fun os started H enc _ => lifted os started H enc)
theorem proved : Rows.ShaWholeSaid := over
#print axioms proved
end Go.Proofs.Ytcdnmlfnfhoieaa.shaWhole
namespace Go.Proofs.Ytcdnmlfnfhoieaa
/-- The row, under a short name, for the claim. -/
theorem shaWhole_holds : Rows.ShaWholeSaid := shaWhole.proved
end Go.Proofs.Ytcdnmlfnfhoieaa
