/- The walk of the reference's Encode, at a right packet. Condition: the packet is right. -/
import Derived.Test.YtlbiodghappdcaaHPkt
namespace Go.Proofs.Ytlbiodghappdcaa.L
open Go.RowKit Go.Proofs.YtlbiodghappdcaaW.PrintWords Go.Proofs.YtlbiodghappdcaaW.PrintLast Go.Proofs.YtlbiodghappdcaaW.PrintMore Go.Proofs.Ytlbiodghappdcaa.Bs
attribute [local go_sem] max2_int min2_int max_two min_two max_three min_three max_four min_four
set_option linter.unusedVariables false
set_option linter.unusedSimpArgs false

set_option maxHeartbeats 400000 in
set_option maxRecDepth 100000 in
/-- The reference's bytes of a right packet. -/
theorem ref_encode_walk (p : S30) (hr : rightB p = true) (w : World) :
    Calls Try.prog 12 #[.agg #[.bool p.f0, .int .i64 p.f1, .bool p.f2, .string p.f3, .int .i64 p.f4]] w fun e w' => e = .returned (.string (strOfNums (encB p))) ∧ Below w.heap.size w w' := by
  obtain ⟨h1, h2, h3, h4, h5⟩ := rightB_bounds hr
  clear hr
  have l2 := putB_len10 (n := p.f1.toNat) (by omega)
  have hp1 := refput_some p.f1.toNat (by omega)
  rw [Int.toNat_of_nonneg h1] at hp1
  have HP1 := Aside0.mk hp1
  clear hp1
  obtain ⟨s1, hs1⟩ : ∃ s, strOfNums (putB p.f1.toNat) = s := ⟨_, rfl⟩
  have hz1 : s1.size ≤ 10 := by rw [← hs1, strOfNums_size]; exact l2
  rw [hs1] at HP1
  have HS1 := Aside0.mk hs1
  clear hs1
  have hu23 := Try.underlying23
  obtain ⟨b0, hb0⟩ : ∃ b, p.f0 = b := ⟨_, rfl⟩
  obtain ⟨b2, hb2⟩ : ∃ b, p.f2 = b := ⟨_, rfl⟩
  have HB0 := Aside0.mk hb0
  have HB2 := Aside0.mk hb2
  rw [hb0, hb2]
  cases b0 with
  | true =>
    obtain ⟨q1, q2, q3, q4⟩ := h4 hb0
    have l4 := putB_len10 (n := p.f4.toNat) (by omega)
    have hp4 := refput_some p.f4.toNat (by omega)
    rw [Int.toNat_of_nonneg q1] at hp4
    obtain ⟨s4, hs4⟩ : ∃ s, strOfNums (putB p.f4.toNat) = s := ⟨_, rfl⟩
    have hz4 : s4.size ≤ 10 := by rw [← hs4, strOfNums_size]; exact l4
    rw [hs4] at hp4
    have HP4 := Aside0.mk hp4
    have HS4 := Aside0.mk hs4
    clear hs4 hp4 h4 h5 hb0 hb2 q3 q4
    go_enter Try.func12, Try.ntmps12
    go_wp2_with fail
    refine (strongroomref01_Put.calls 10 _ _ _ HP1.out).mono ?_
    rintro e w1 ⟨rfl, hbel1⟩
    have hbx := blk_below (blk_new w _) hbel1
    have x4 : w1.cell? ⟨w.heap.size, 4, none⟩ = some (.int .i64 p.f4) := (blk_cell hbx 4).trans rfl
    have x0 : w1.cell? ⟨w.heap.size, 0, none⟩ = some (.bool true) := (blk_cell hbx 0).trans rfl
    have HBB := Aside0.mk (below_step (below_alloc (Below.refl _ _) _) hbel1)
    clear hbx hbel1
    have z1 : 1 + s1.size ≤ 9223372036854775807 := by omega
    go_wp2_with fail
    refine (strongroomref01_Put.calls 10 _ _ _ HP4.out).mono ?_
    rintro e w2 ⟨rfl, hbel2⟩
    have HBC := Aside0.mk (below_step HBB.out hbel2)
    clear hbel2
    have z2 : 1 + s1.size + s4.size ≤ 9223372036854775807 := by omega
    go_wp2_with fail
    go_ret
    have e : strOfNums (encB p) = ((⟨#[3]⟩ : ByteArray) ++ s1) ++ s4 := by
      unfold encB
      rw [HB0.out, if_pos rfl, if_pos rfl, show (3 : Int) :: (putB p.f1.toNat ++ putB p.f4.toNat) = ([3] ++ putB p.f1.toNat) ++ putB p.f4.toNat from by simp, strOfNums_append, strOfNums_append, HS1.out, HS4.out]
      rfl
    exact ⟨congrArg (fun s => Ending.returned (Value.string s)) e.symm, HBC.out⟩
  | false =>
    have l4 := putB_len10 (n := p.f3.size) (by omega)
    have hp4 := reftext_some p.f3 (by omega)
    obtain ⟨s4, hs4⟩ : ∃ s, strOfNums (putB p.f3.size) ++ p.f3 = s := ⟨_, rfl⟩
    have hz4 : s4.size ≤ 300 := by rw [← hs4, ByteArray.size_append, strOfNums_size]; omega
    rw [hs4] at hp4
    have HP4 := Aside0.mk hp4
    have HS4 := Aside0.mk hs4
    clear hs4 hp4 h4 h5 hb0 hb2
    have z1 : 1 + s1.size ≤ 9223372036854775807 := by omega
    have z2 : 1 + s1.size + s4.size ≤ 9223372036854775807 := by omega
    cases b2 with
    | true =>
      go_enter Try.func12, Try.ntmps12
      go_wp2_with fail
      refine (strongroomref01_Put.calls 10 _ _ _ HP1.out).mono ?_
      rintro e w1 ⟨rfl, hbel1⟩
      have hbx := blk_below (blk_new w _) hbel1
      have x3 : w1.cell? ⟨w.heap.size, 3, none⟩ = some (.string p.f3) := (blk_cell hbx 3).trans rfl
      have x0 : w1.cell? ⟨w.heap.size, 0, none⟩ = some (.bool false) := (blk_cell hbx 0).trans rfl
      have x2 : w1.cell? ⟨w.heap.size, 2, none⟩ = some (.bool true) := (blk_cell hbx 2).trans rfl
      have HBB := Aside0.mk (below_step (below_alloc (Below.refl _ _) _) hbel1)
      clear hbx hbel1
      go_wp2_with fail
      refine (strongroomref01_Text.calls 10 _ _ _ HP4.out).mono ?_
      rintro e w2 ⟨rfl, hbel2⟩
      have HBC := Aside0.mk (below_step HBB.out hbel2)
      clear hbel2
      go_wp2_with fail
      go_ret
      have e : strOfNums (encB p) = ((⟨#[2]⟩ : ByteArray) ++ s1) ++ s4 := by
        unfold encB
        rw [HB0.out, HB2.out, if_neg (by decide), if_pos rfl, if_neg (by decide), show (2 : Int) :: (putB p.f1.toNat ++ (putB p.f3.size ++ bytesOf p.f3)) = ([2] ++ putB p.f1.toNat) ++ (putB p.f3.size ++ bytesOf p.f3) from by simp, strOfNums_append, strOfNums_append, strOfNums_append, str_bytesOf, HS1.out, HS4.out]
        rfl
      exact ⟨congrArg (fun s => Ending.returned (Value.string s)) e.symm, HBC.out⟩
    | false =>
      go_enter Try.func12, Try.ntmps12
      go_wp2_with fail
      refine (strongroomref01_Put.calls 10 _ _ _ HP1.out).mono ?_
      rintro e w1 ⟨rfl, hbel1⟩
      have hbx := blk_below (blk_new w _) hbel1
      have x3 : w1.cell? ⟨w.heap.size, 3, none⟩ = some (.string p.f3) := (blk_cell hbx 3).trans rfl
      have x0 : w1.cell? ⟨w.heap.size, 0, none⟩ = some (.bool false) := (blk_cell hbx 0).trans rfl
      have x2 : w1.cell? ⟨w.heap.size, 2, none⟩ = some (.bool false) := (blk_cell hbx 2).trans rfl
      have HBB := Aside0.mk (below_step (below_alloc (Below.refl _ _) _) hbel1)
      clear hbx hbel1
      go_wp2_with fail
      refine (strongroomref01_Text.calls 10 _ _ _ HP4.out).mono ?_
      rintro e w2 ⟨rfl, hbel2⟩
      have HBC := Aside0.mk (below_step HBB.out hbel2)
      clear hbel2
      go_wp2_with fail
      go_ret
      have e : strOfNums (encB p) = ((⟨#[1]⟩ : ByteArray) ++ s1) ++ s4 := by
        unfold encB
        rw [HB0.out, HB2.out, if_neg (by decide), if_neg (by decide), if_neg (by decide), show (1 : Int) :: (putB p.f1.toNat ++ (putB p.f3.size ++ bytesOf p.f3)) = ([1] ++ putB p.f1.toNat) ++ (putB p.f3.size ++ bytesOf p.f3) from by simp, strOfNums_append, strOfNums_append, strOfNums_append, str_bytesOf, HS1.out, HS4.out]
        rfl
      exact ⟨congrArg (fun s => Ending.returned (Value.string s)) e.symm, HBC.out⟩

end Go.Proofs.Ytlbiodghappdcaa.L
