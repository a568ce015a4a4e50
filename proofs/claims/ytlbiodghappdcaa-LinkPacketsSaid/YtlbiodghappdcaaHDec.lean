/- The walk of link.Decode: of any bytes it is a right packet whose bytes they are, or ErrForm where they are none's. Condition: fewer than 2^46 bytes. -/
import Derived.Test.YtlbiodghappdcaaHPkt
import Derived.Test.YtlbiodghappdcaaLf36
namespace Go.Proofs.Ytlbiodghappdcaa.L
open Go.RowKit Go.Proofs.YtlbiodghappdcaaW.PrintWords Go.Proofs.YtlbiodghappdcaaW.PrintLast Go.Proofs.YtlbiodghappdcaaW.PrintMore Go.Proofs.Ytlbiodghappdcaa.Bs
attribute [local go_sem] max2_int min2_int max_two min_two max_three min_three max_four min_four
set_option linter.unusedVariables false
set_option linter.unusedSimpArgs false

/-- What the program's Decode answers of some bytes. -/
def DecS (l : List Int) (q : S30) (er : Int) : Prop := (er = 0 ∧ rightB q = true ∧ encB q = l) ∨ (er = 4 ∧ q = z30 ∧ ∀ q', rightB q' = true → encB q' ≠ l)
def restB (q : S30) : List Int := if q.f0 = true then putB q.f4.toNat else putB q.f3.size ++ bytesOf q.f3
def kindB (q : S30) : Int := if q.f0 = true then 3 else if q.f2 = true then 2 else 1
theorem encB_eq (q : S30) : encB q = kindB q :: (putB q.f1.toNat ++ restB q) := rfl

theorem kindB3 {q : S30} : kindB q = 3 → q.f0 = true := by
  unfold kindB
  cases q.f0 with
  | true => intro _; rfl
  | false =>
    rw [if_neg (by decide)]
    split <;> intro h <;> omega
theorem kindB12 {q : S30} {x : Int} (hx : x = 1 ∨ x = 2) : kindB q = x → q.f0 = false ∧ q.f2 = decide (x = 2) := by
  unfold kindB
  cases q.f0 with
  | true => rw [if_pos rfl]; intro h; omega
  | false =>
    rw [if_neg (by decide)]
    cases q.f2 with
    | true => rw [if_pos rfl]; intro h; exact ⟨rfl, (decide_eq_true (by omega)).symm⟩
    | false => rw [if_neg (by decide)]; intro h; exact ⟨rfl, (decide_eq_false (by omega)).symm⟩

theorem fail_end {w W : World} {g : Nat} {a : Act} (l : List Int) (hno : ∀ q', rightB q' = true → encB q' ≠ l) (hg : W.heap[g]? = some (.cells #[.bool false, .int .i64 0, .bool false, .string ⟨#[]⟩, .int .i64 0] 30 (0, 0)))
    (hp : a.tmps.getD 2 undef = .pointer (some ⟨g, 0, none⟩)) (h3 : a.tmps.getD 3 undef = .int .i64 4) (hd : a.defers = []) (hB : Below w.heap.size w W) :
    bodyPost Try.prog Try.f13 (fun e w' => ∃ q er, e = .returned (.tuple #[.agg #[.bool q.f0, .int .i64 q.f1, .bool q.f2, .string q.f3, .int .i64 q.f4], .int .i64 er]) ∧ DecS l q er ∧ Below w.heap.size w w') .ret a W := by
  refine bodyPost_ret (results_ct (P := Try.prog) (p := 2) (u := 3) (ty := 30) rfl _ _ g 30 _ (0, 0) _ hp hg Try.underlying30 rfl (by kernel_rfl)) hd ?_
  rw [h3]
  exact ⟨z30, 4, rfl, .inr ⟨rfl, rfl, hno⟩, hB⟩

theorem blk5 {W : World} {g t : Nat} {cs : Array Value} (h : W.heap[g]? = some (.cells cs t (0, 0))) (hs : cs.size = 5) (v0 v1 v2 v3 v4 : Value) :
    (((((W.setCell ⟨g, 0, none⟩ v0).setCell ⟨g, 1, none⟩ v1).setCell ⟨g, 2, none⟩ v2).setCell ⟨g, 3, none⟩ v3).setCell ⟨g, 4, none⟩ v4).heap[g]? = some (.cells #[v0, v1, v2, v3, v4] t (0, 0)) := by
  obtain ⟨a0, a1, a2, a3, a4, rfl⟩ : ∃ a0 a1 a2 a3 a4, cs = #[a0, a1, a2, a3, a4] := by
    rcases cs with ⟨l⟩
    match l, hs with
    | [a0, a1, a2, a3, a4], _ => exact ⟨a0, a1, a2, a3, a4, rfl⟩
  exact blk_set (blk_set (blk_set (blk_set (blk_set h 0 v0) 1 v1) 2 v2) 3 v3) 4 v4
theorem below5 {w W : World} {g : Nat} (h : Below w.heap.size w W) (hg : w.heap.size ≤ g) (v0 v1 v2 v3 v4 : Value) :
    Below w.heap.size w (((((W.setCell ⟨g, 0, none⟩ v0).setCell ⟨g, 1, none⟩ v1).setCell ⟨g, 2, none⟩ v2).setCell ⟨g, 3, none⟩ v3).setCell ⟨g, 4, none⟩ v4) :=
  below_set (below_set (below_set (below_set (below_set h hg) hg) hg) hg) hg
theorem end5 {w W : World} {g : Nat} {a : Act} {cs : Array Value} (l : List Int) (q : S30) (er : Int) (hq : DecS l q er) (hg : W.heap[g]? = some (.cells cs 30 (0, 0))) (hs : cs.size = 5) (hgw : w.heap.size ≤ g)
    (hp : a.tmps.getD 2 undef = .pointer (some ⟨g, 0, none⟩)) (h3 : a.tmps.getD 3 undef = .int .i64 er) (hd : a.defers = []) (hB : Below w.heap.size w W) :
    bodyPost Try.prog Try.f13 (fun e w' => ∃ q er, e = .returned (.tuple #[.agg #[.bool q.f0, .int .i64 q.f1, .bool q.f2, .string q.f3, .int .i64 q.f4], .int .i64 er]) ∧ DecS l q er ∧ Below w.heap.size w w') .ret a
      (((((W.setCell ⟨g, 0, none⟩ (.bool q.f0)).setCell ⟨g, 1, none⟩ (.int .i64 q.f1)).setCell ⟨g, 2, none⟩ (.bool q.f2)).setCell ⟨g, 3, none⟩ (.string q.f3)).setCell ⟨g, 4, none⟩ (.int .i64 q.f4)) := by
  refine bodyPost_ret (results_ct (P := Try.prog) (p := 2) (u := 3) (ty := 30) rfl _ _ g 30 _ (0, 0) _ hp (blk5 hg hs _ _ _ _ _) Try.underlying30 rfl (by kernel_rfl)) hd ?_
  rw [h3]
  exact ⟨q, er, rfl, hq, below5 hB hgw _ _ _ _ _⟩

set_option maxHeartbeats 4000000 in
set_option maxRecDepth 100000 in
theorem decode_walk (A : Option Addr) (c : Nat) (l : List Int) (w : World) (hC : Kd.C (Kd.int .u8) w A l.length l) (hc : l.length ≤ c) (hb : ∀ x ∈ l, 0 ≤ x ∧ x < 256) (hl : l.length < 70368744177664) :
    Calls Try.prog 13 #[.slice A l.length c] w fun e w' => ∃ q er, e = .returned (.tuple #[.agg #[.bool q.f0, .int .i64 q.f1, .bool q.f2, .string q.f3, .int .i64 q.f4], .int .i64 er]) ∧ DecS l q er ∧ Below w.heap.size w w' := by
  have hu30 := Try.underlying30
  cases l with
  | nil =>
    have hno : ∀ q', rightB q' = true → encB q' ≠ [] := fun q' _ h => by rw [encB_eq] at h; cases h
    have HNO := Aside0.mk hno
    clear hno hC
    go_enter Try.func13, Try.ntmps13
    go_wp2_with fail
    exact fail_end [] HNO.out (heap_alloc_new w _) rfl rfl rfl (below_alloc (Below.refl _ _) _)
  | cons x t =>
    obtain ⟨L, hL⟩ : ∃ L, x :: t = L := ⟨_, rfl⟩
    rw [hL] at hC hc hb hl ⊢
    have hpos : 0 < L.length := by rw [← hL]; simp
    obtain ⟨b, o, rfl, hbl, hcell⟩ := C_int_lit hC hpos
    have hx := hb x (by rw [← hL]; simp)
    have c0 : w.cell? ⟨b, o, none⟩ = some (.int .u8 x) := by
      have := hcell 0 hpos
      rwa [← hL, Nat.add_zero, List.getD_cons_zero] at this
    have c0x : ∀ ob, (w.alloc ob).cell? ⟨b, o, none⟩ = some (.int .u8 x) := fun ob => (World.cell?_alloc_past _ _ _ hbl).trans c0
    have e1 : ((L.length : Int) == 0) = false := by rw [beq_eq_false_iff_ne]; omega
    have HB := Aside0.mk hb
    have HC := Aside0.mk hC
    have HL := Aside0.mk hL
    have i0 : 0 < L.length := hpos
    clear hb hcell hC hL
    by_cases hk : x < 1 ∨ 3 < x
    · have hno : ∀ q', rightB q' = true → encB q' ≠ L := fun q' _ h => by
        rw [← HL.out, encB_eq] at h
        injection h with h _
        unfold kindB at h
        split at h
        · omega
        · split at h <;> omega
      have HNO := Aside0.mk hno
      clear hno
      rcases hk with hk | hk
      · have k1 : decide (x < 1) = true := decide_eq_true hk
        go_enter Try.func13, Try.ntmps13
        go_wp2_with fail
        exact fail_end L HNO.out (heap_alloc_new w _) rfl rfl rfl (below_alloc (Below.refl _ _) _)
      · have k1 : decide (x < 1) = false := decide_eq_false (by omega)
        have k2 : decide (3 < x) = true := decide_eq_true hk
        go_enter Try.func13, Try.ntmps13
        go_wp2_with fail
        exact fail_end L HNO.out (heap_alloc_new w _) rfl rfl rfl (below_alloc (Below.refl _ _) _)
    · have k1 : decide (x < 1) = false := decide_eq_false (by omega)
      have k2 : decide (3 < x) = false := decide_eq_false (by omega)
      have hxk : x = 1 ∨ x = 2 ∨ x = 3 := by omega
      obtain ⟨res, hres, hgot⟩ := get_some L HB.out 1 (by omega) (by omega)
      obtain ⟨n, j, er⟩ := res
      have HRES : Aside0 (num_Get.f 12 L 1 = some (n, j, er)) := ⟨hres⟩
      have HGOT := Aside0.mk hgot
      clear hres hgot hk
      go_enter Try.func13, Try.ntmps13
      go_wp2_with fail
      (with_reducible refine (num_Get.calls 12 (some ⟨b, o, none⟩) c L 1 n j er _ ?s1 hc HRES.out).mono ?_)
      case s1 => exact Kd.C_alloc HC.out _
      rintro e w1 ⟨rfl, ⟨nd, rfl⟩⟩
      rcases HGOT.out with ⟨N, r, hN, hdr, heq⟩ | ⟨hnone, er', her, heq⟩
      · obtain ⟨K, hK⟩ : ∃ K : Nat, 1 + (putB N).length = K := ⟨_, rfl⟩
        rw [hK] at heq
        cases heq
        have hdr1 : t = putB N ++ r := by
          have h1 := hdr
          rw [← HL.out] at h1
          exact h1
        have hN1 : ∀ q', rightB q' = true → encB q' = L → q'.f1 = (N : Int) ∧ restB q' = r ∧ kindB q' = x := by
          intro q' hq h
          rw [← HL.out, encB_eq] at h
          injection h with h2 h3
          obtain ⟨h4, h5⟩ := putB_one _ _ _ _ (h3.trans hdr1)
          have := rightB_bounds hq
          exact ⟨by omega, h5, h2⟩
        have HN1 := Aside0.mk hN1
        have HDR1 := Aside0.mk hdr1
        have HDR := Aside0.mk hdr
        clear hN1 hdr1 hdr HGOT HRES
        have hl1 : (putB N).length + r.length + 1 = L.length := by
          have h1 := HL.out
          rw [HDR1.out] at h1
          rw [← h1, List.length_cons, List.length_append]
        by_cases hbig : 1099511627776 < N
        · have hno : ∀ q', rightB q' = true → encB q' ≠ L := fun q' hq h => by
            have h1 := (HN1.out q' hq h).1
            have h2 := rightB_bounds hq
            omega
          have HNO := Aside0.mk hno
          clear hno
          have k3 : decide ((1099511627776 : Int) < (N : Int)) = true := decide_eq_true (by omega)
          have HBIG := Aside0.mk hbig
          have HNN := Aside0.mk hN
          have HLL := Aside0.mk hl1
          clear hbig hN hl1
          go_wp2_with fail
          exact end5 L z30 4 (.inr ⟨rfl, rfl, HNO.out⟩) (blk_drewN (blk_new w _) nd) rfl (Nat.le_refl _) rfl rfl rfl (pw_below_drewN (below_alloc (Below.refl _ _) _) nd)
        · have k3 : decide ((1099511627776 : Int) < (N : Int)) = false := decide_eq_false (by omega)
          have HNN := Aside0.mk hN
          clear hN
          have hdrK : L.drop K = r := by
            rw [← hK, ← List.drop_drop, HDR.out, List.drop_left]
          have hKL : K ≤ L.length := by omega
          have HK := Aside0.mk hK
          have HDK := Aside0.mk hdrK
          clear hK hdrK hl1
          by_cases hx3 : x = 3
          · subst hx3
            clear hxk hx k1 k2
            obtain ⟨res2, hres2, hgot2⟩ := get_some L HB.out K (by omega) hKL
            obtain ⟨n2, j2, er2⟩ := res2
            have HRES2 := Aside0.mk hres2
            have HGOT2 := Aside0.mk hgot2
            clear hres2 hgot2
            go_wp2
            go_region
            go_wp2_with fail
            (with_reducible refine (num_Get.calls 12 (some ⟨b, o, none⟩) c L K n2 j2 er2 _ ?s2 hc HRES2.out).mono ?_)
            case s2 => exact Kd.C_alloc (Kd.C_drewN (Kd.C_alloc HC.out _) _) _
            rintro e w2 ⟨rfl, ⟨nd2, rfl⟩⟩
            rcases HGOT2.out with ⟨B, r2, hB2, hdr2, heq⟩ | ⟨hnone, er', her, heq⟩
            · obtain ⟨J, hJ⟩ : ∃ J : Nat, K + (putB B).length = J := ⟨_, rfl⟩
              rw [hJ] at heq
              cases heq
              have hr : r = putB B ++ r2 := by rw [← HDK.out, hdr2]
              have hJL : J + r2.length = L.length := by
                have h1 := congrArg List.length hdr2
                rw [List.length_drop, List.length_append] at h1
                have := putB_pos B
                omega
              have hB1 : ∀ q', rightB q' = true → encB q' = L → q'.f4 = (B : Int) ∧ r2 = [] ∧ q' = ⟨true, N, false, ⟨#[]⟩, B⟩ := by
                intro q' hq h
                obtain ⟨h1, h2, h3⟩ := HN1.out q' hq h
                have h4 := kindB3 h3
                rw [restB, if_pos h4, hr] at h2
                obtain ⟨h5, h6⟩ := putB_one q'.f4.toNat B [] r2 (by rw [List.append_nil]; exact h2)
                obtain ⟨z0, z1, z2, z3, z4⟩ := rightB_bounds hq
                obtain ⟨y0, y1, y2, y3⟩ := z3 h4
                have hd : q'.f3 = ⟨#[]⟩ := by
                  apply ByteArray.ext
                  exact Array.eq_empty_of_size_eq_zero y3
                have hf4 : q'.f4 = (B : Int) := by omega
                refine ⟨hf4, h6.symm, ?_⟩
                rcases q' with ⟨f0, f1, f2, f3, f4⟩
                simp only at h4 h1 y2 hd hf4
                subst h4 h1 y2 hd hf4
                rfl
              have HB1 := Aside0.mk hB1
              have HR := Aside0.mk hr
              have HJL := Aside0.mk hJL
              have HJ := Aside0.mk hJ
              have HB2 := Aside0.mk hB2
              clear hB1 hr hJL hJ hB2 hdr2 HGOT2 HRES2
              by_cases hb6 : 65536 ≤ B
              · have hno : ∀ q', rightB q' = true → encB q' ≠ L := fun q' hq h => by
                  obtain ⟨h1, h2, h3⟩ := HB1.out q' hq h
                  have h4 := (rightB_bounds hq).2.2.2.1 (by rw [h3])
                  omega
                have HNO := Aside0.mk hno
                have k4 : decide ((65536 : Int) ≤ (B : Int)) = true := decide_eq_true (by omega)
                clear hno
                go_wp2_with fail
                exact end5 L z30 4 (.inr ⟨rfl, rfl, HNO.out⟩) (by repeat (first | exact blk_new w _ | refine blk_drewN ?_ _ | refine blk_alloc ?_ _ | refine blk_drew ?_)) rfl (Nat.le_refl _) rfl rfl rfl (by repeat (first | exact Below.refl _ _ | apply pw_below_drewN | apply below_alloc))
              · have k4 : decide ((65536 : Int) ≤ (B : Int)) = false := decide_eq_false (by omega)
                by_cases hend : J = L.length
                · have k5 : ((J : Int) != (L.length : Int)) = false := by rw [bne_eq_false_iff_eq]; omega
                  have k6 : (J == L.length) = true := by rw [beq_iff_eq]; exact hend
                  have HEND := Aside0.mk hend
                  clear hend
                  have hright := link_right_some ⟨true, N, false, ⟨#[]⟩, B⟩
                  obtain ⟨rb, hrb⟩ : ∃ rb, rightB ⟨true, N, false, ⟨#[]⟩, B⟩ = rb := ⟨_, rfl⟩
                  rw [hrb] at hright
                  have HRIGHT := Aside0.mk hright
                  have HRB := Aside0.mk hrb
                  clear hright hrb
                  go_wp2_with fail
                  (with_reducible refine (link_Right.calls 1 true N false ⟨#[]⟩ B rb _ HRIGHT.out).mono ?_)
                  rintro e w3 ⟨rfl, hbel⟩
                  have hg0 : w3.heap[w.heap.size]? = some (.cells #[.bool false, .int .i64 0, .bool false, .string ⟨#[]⟩, .int .i64 0] 30 (0, 0)) := blk_below (blk_far (by repeat (first | exact blk_new w _ | refine blk_drewN ?_ _ | refine blk_alloc ?_ _)) (by simp) _) hbel
                  have hgq : (((w.alloc (.cells #[.bool false, .int .i64 0, .bool false, .string ⟨#[]⟩, .int .i64 0] 30)).drewN (nd + 1)).alloc (.cells #[.bool true, .int .i64 N, .bool false, .string ⟨#[]⟩, .int .i64 0] 30)).heap[w.heap.size + 1]? = some (.cells #[.bool true, .int .i64 N, .bool false, .string ⟨#[]⟩, .int .i64 0] 30 (0, 0)) := by
                    have e : ((w.alloc (.cells #[.bool false, .int .i64 0, .bool false, .string ⟨#[]⟩, .int .i64 0] 30)).drewN (nd + 1)).heap.size = w.heap.size + 1 := World.size_alloc _ _
                    rw [← e]
                    exact blk_new _ _
                  have hgp : w3.heap[w.heap.size + 1]? = some (.cells #[.bool true, .int .i64 N, .bool false, .string ⟨#[]⟩, .int .i64 B] 30 (0, 0)) := blk_below (blk_set (blk_drewN hgq _) 4 (.int .i64 B)) hbel
                  have hb3 : Below w.heap.size w w3 := below_step (below_set (by repeat (first | exact Below.refl _ _ | apply pw_below_drewN | apply below_alloc)) (Nat.le_succ _)) hbel
                  have HG0 := Aside0.mk hg0
                  have HB3 := Aside0.mk hb3
                  have p0 : w3.cell? ⟨w.heap.size + 1, 0, none⟩ = some (.bool true) := (blk_cell hgp 0).trans rfl
                  have p1 : w3.cell? ⟨w.heap.size + 1, 1, none⟩ = some (.int .i64 N) := (blk_cell hgp 1).trans rfl
                  have p2 : w3.cell? ⟨w.heap.size + 1, 2, none⟩ = some (.bool false) := (blk_cell hgp 2).trans rfl
                  have p3 : w3.cell? ⟨w.heap.size + 1, 3, none⟩ = some (.string ⟨#[]⟩) := (blk_cell hgp 3).trans rfl
                  have p4 : w3.cell? ⟨w.heap.size + 1, 4, none⟩ = some (.int .i64 B) := (blk_cell hgp 4).trans rfl
                  have q0 : w3.cell? ⟨w.heap.size, 0, none⟩ = some (.bool false) := (blk_cell hg0 0).trans rfl
                  have q1 : w3.cell? ⟨w.heap.size, 1, none⟩ = some (.int .i64 0) := (blk_cell hg0 1).trans rfl
                  have q2 : w3.cell? ⟨w.heap.size, 2, none⟩ = some (.bool false) := (blk_cell hg0 2).trans rfl
                  have q3 : w3.cell? ⟨w.heap.size, 3, none⟩ = some (.string ⟨#[]⟩) := (blk_cell hg0 3).trans rfl
                  have q4 : w3.cell? ⟨w.heap.size, 4, none⟩ = some (.int .i64 0) := (blk_cell hg0 4).trans rfl
                  have fz : ∀ i, w3.frozen? ⟨w.heap.size, i, none⟩ = false := fun i => blk_frozen hg0 i
                  clear hg0 hgp hgq hb3 hbel
                  cases rb with
                  | true =>
                    have hdone : DecS L ⟨true, N, false, ⟨#[]⟩, B⟩ 0 := by
                      refine .inl ⟨rfl, HRB.out, ?_⟩
                      have h1 : r2 = [] := List.eq_nil_of_length_eq_zero (by have := HJL.out; have := HEND.out; omega)
                      rw [← HL.out, HDR1.out, HR.out, h1, encB_eq, restB, kindB, if_pos rfl, if_pos rfl, Int.toNat_natCast, Int.toNat_natCast, List.append_nil]
                    have HDONE := Aside0.mk hdone
                    clear hdone
                    go_wp2_with fail
                    exact end5 L ⟨true, N, false, ⟨#[]⟩, B⟩ 0 HDONE.out HG0.out rfl (Nat.le_refl _) rfl rfl rfl HB3.out
                  | false =>
                    have hno : ∀ q', rightB q' = true → encB q' ≠ L := fun q' hq h => by
                      obtain ⟨h1, h2, h3⟩ := HB1.out q' hq h
                      rw [h3, HRB.out] at hq
                      cases hq
                    have HNO := Aside0.mk hno
                    clear hno
                    go_wp2_with fail
                    exact end5 L z30 4 (.inr ⟨rfl, rfl, HNO.out⟩) HG0.out rfl (Nat.le_refl _) rfl rfl rfl HB3.out
                · have hno : ∀ q', rightB q' = true → encB q' ≠ L := fun q' hq h => by
                    obtain ⟨h1, h2, h3⟩ := HB1.out q' hq h
                    have h4 := HJL.out
                    rw [h2, List.length_nil] at h4
                    omega
                  have HNO := Aside0.mk hno
                  have k5 : ((J : Int) != (L.length : Int)) = true := by rw [bne_iff_ne]; omega
                  have k6 : (J == L.length) = false := by rw [beq_eq_false_iff_ne]; exact hend
                  clear hno hend
                  go_wp2_with fail
                  exact end5 L z30 4 (.inr ⟨rfl, rfl, HNO.out⟩) (blk_far (by repeat (first | exact blk_new w _ | refine blk_drewN ?_ _ | refine blk_alloc ?_ _)) (by simp) _) rfl (Nat.le_refl _) rfl rfl rfl (by repeat (first | exact Below.refl _ _ | apply pw_below_drewN | apply below_alloc | refine below_set ?_ (Nat.le_succ _)))
            · cases heq
              have hno : ∀ q', rightB q' = true → encB q' ≠ L := fun q' hq h => by
                obtain ⟨h1, h2, h3⟩ := HN1.out q' hq h
                have h4 := kindB3 h3
                refine hnone q'.f4.toNat [] (by have := (rightB_bounds hq).2.2.2.1 h4; omega) ?_
                rw [HDK.out, ← h2, restB, if_pos h4, List.append_nil]
              have HNO := Aside0.mk hno
              have m1 : (er2 == 0) = false := beq_eq_false_iff_ne.mpr her
              have m2 : (er2 != 0) = true := bne_iff_ne.mpr her
              clear hnone hno
              go_wp2_with fail
              exact end5 L z30 4 (.inr ⟨rfl, rfl, HNO.out⟩) (by repeat (first | exact blk_new w _ | refine blk_drewN ?_ _ | refine blk_alloc ?_ _ | refine blk_drew ?_)) rfl (Nat.le_refl _) rfl rfl rfl (by repeat (first | exact Below.refl _ _ | apply pw_below_drewN | apply below_alloc))
          · have hx12 : x = 1 ∨ x = 2 := by omega
            obtain ⟨res2, hres2, hgot2⟩ := gettext_some L HB.out K 200 (by omega) hKL (by omega)
            obtain ⟨n2, j2, er2⟩ := res2
            have HRES2 : Aside0 (num_GetText.f 12 L K 200 = some (n2, j2, er2)) := ⟨hres2⟩
            have HGOT2 := Aside0.mk hgot2
            have HGOT2X : True := trivial
            clear hres2 hgot2 hx3
            rcases hx12 with rfl | rfl
            · have hbbq : ∀ q', rightB q' = true → encB q' = L → q'.f0 = false ∧ q'.f2 = false ∧ q'.f1 = (N : Int) ∧ q'.f4 = 0 ∧ putB q'.f3.size ++ bytesOf q'.f3 = r := by
                intro q' hq h
                obtain ⟨h1, h2, h3⟩ := HN1.out q' hq h
                obtain ⟨h4, h5⟩ := kindB12 (by omega) h3
                rw [restB, if_neg (by rw [h4]; decide)] at h2
                exact ⟨h4, h5, h1, (rightB_bounds hq).2.2.2.2 h4, h2⟩
              have HBB := Aside0.mk hbbq
              clear hbbq hxk hx k1 k2 HGOT2X
              go_wp2
              go_region
              go_wp2_with fail
              (with_reducible refine (num_GetText.calls 12 (some ⟨b, o, none⟩) c L K 200 n2 j2 er2 _ ?s2 hc HRES2.out).mono ?_)
              case s2 => exact Kd.C_alloc (Kd.C_drewN (Kd.C_alloc HC.out _) _) _
              rintro e w2 ⟨rfl, hbel⟩
              have hgq : (((w.alloc (.cells #[.bool false, .int .i64 0, .bool false, .string ⟨#[]⟩, .int .i64 0] 30)).drewN (nd + 1)).alloc (.cells #[.bool false, .int .i64 N, .bool false, .string ⟨#[]⟩, .int .i64 0] 30)).heap[w.heap.size + 1]? = some (.cells #[.bool false, .int .i64 N, .bool false, .string ⟨#[]⟩, .int .i64 0] 30 (0, 0)) := by
                have e : ((w.alloc (.cells #[.bool false, .int .i64 0, .bool false, .string ⟨#[]⟩, .int .i64 0] 30)).drewN (nd + 1)).heap.size = w.heap.size + 1 := World.size_alloc _ _
                rw [← e]
                exact blk_new _ _
              have hg0 : w2.heap[w.heap.size]? = some (.cells #[.bool false, .int .i64 0, .bool false, .string ⟨#[]⟩, .int .i64 0] 30 (0, 0)) := blk_below (by repeat (first | exact blk_new w _ | refine blk_drewN ?_ _ | refine blk_alloc ?_ _)) hbel
              have hgp := blk_below hgq hbel
              have hb2 : Below w.heap.size w w2 := below_step (by repeat (first | exact Below.refl _ _ | apply pw_below_drewN | apply below_alloc)) hbel
              have HG0 := Aside0.mk hg0
              have HGP := Aside0.mk hgp
              have HBW := Aside0.mk hb2
              have p3 : w2.cell? ⟨w.heap.size + 1, 3, none⟩ = some (.string ⟨#[]⟩) := (blk_cell hgp 3).trans rfl
              have fp : ∀ i, w2.frozen? ⟨w.heap.size + 1, i, none⟩ = false := fun i => blk_frozen hgp i
              have q0 : w2.cell? ⟨w.heap.size, 0, none⟩ = some (.bool false) := (blk_cell hg0 0).trans rfl
              have q1 : w2.cell? ⟨w.heap.size, 1, none⟩ = some (.int .i64 0) := (blk_cell hg0 1).trans rfl
              have q2 : w2.cell? ⟨w.heap.size, 2, none⟩ = some (.bool false) := (blk_cell hg0 2).trans rfl
              have q3 : w2.cell? ⟨w.heap.size, 3, none⟩ = some (.string ⟨#[]⟩) := (blk_cell hg0 3).trans rfl
              have q4 : w2.cell? ⟨w.heap.size, 4, none⟩ = some (.int .i64 0) := (blk_cell hg0 4).trans rfl
              have fz : ∀ i, w2.frozen? ⟨w.heap.size, i, none⟩ = false := fun i => blk_frozen hg0 i
              clear hgq hg0 hgp hbel hb2 c0 c0x
              rcases HGOT2.out with ⟨T, r2, hT, hdr2, heq⟩ | ⟨hnone, er', her, heq⟩
              · obtain ⟨J, hJ⟩ : ∃ J : Nat, K + (putB T.size).length + T.size = J := ⟨_, rfl⟩
                rw [hJ] at heq
                cases heq
                obtain ⟨T, hTT⟩ : ∃ T, T = n2 := ⟨_, rfl⟩
                subst hTT
                have hr : r = putB T.size ++ (bytesOf T ++ r2) := by rw [← HDK.out, hdr2, List.append_assoc]
                have hJL : J + r2.length = L.length := by
                  have h1 := congrArg List.length hdr2
                  rw [List.length_drop, List.length_append, List.length_append, bytesOf_length] at h1
                  have := putB_pos T.size
                  omega
                have hT1 : ∀ q', rightB q' = true → encB q' = L → r2 = [] ∧ q' = ⟨false, N, false, T, 0⟩ := by
                  intro q' hq h
                  obtain ⟨h0, h1, h2, h3, h4⟩ := HBB.out q' hq h
                  rw [hr] at h4
                  obtain ⟨h5, h6⟩ := putB_one q'.f3.size T.size _ _ h4
                  have h7 : bytesOf q'.f3 = bytesOf T ∧ r2 = [] := by
                    have h8 := List.append_inj (s₁ := bytesOf q'.f3) (s₂ := bytesOf T) (t₁ := []) (t₂ := r2) (by rw [List.append_nil]; exact h6) (by rw [bytesOf_length, bytesOf_length, h5])
                    exact ⟨h8.1, h8.2.symm⟩
                  have h8 : q'.f3 = T := by rw [← str_bytesOf q'.f3, h7.1, str_bytesOf]
                  refine ⟨h7.2, ?_⟩
                  rcases q' with ⟨f0, f1, f2, f3, f4⟩
                  simp only at h0 h1 h2 h3 h8
                  subst h0 h1 h2 h3 h8
                  rfl
                have HT1 := Aside0.mk hT1
                have HR := Aside0.mk hr
                have HJL := Aside0.mk hJL
                have HJ := Aside0.mk hJ
                clear hT1 hr hJL hJ hdr2 HGOT2 HRES2 HBB
                by_cases hend : J = L.length
                · have k5 : ((J : Int) != (L.length : Int)) = false := by rw [bne_eq_false_iff_eq]; omega
                  have k6 : (J == L.length) = true := by rw [beq_iff_eq]; exact hend
                  have HEND := Aside0.mk hend
                  clear hend
                  have hright := link_right_some ⟨false, N, false, T, 0⟩
                  obtain ⟨rb, hrb⟩ : ∃ rb, rightB ⟨false, N, false, T, 0⟩ = rb := ⟨_, rfl⟩
                  rw [hrb] at hright
                  have HRIGHT := Aside0.mk hright
                  have HRB := Aside0.mk hrb
                  clear hright hrb
                  have p0 : w2.cell? ⟨w.heap.size + 1, 0, none⟩ = some (.bool false) := (blk_cell HGP.out 0).trans rfl
                  have p1 : w2.cell? ⟨w.heap.size + 1, 1, none⟩ = some (.int .i64 N) := (blk_cell HGP.out 1).trans rfl
                  have p2 : w2.cell? ⟨w.heap.size + 1, 2, none⟩ = some (.bool false) := (blk_cell HGP.out 2).trans rfl
                  have p4 : w2.cell? ⟨w.heap.size + 1, 4, none⟩ = some (.int .i64 0) := (blk_cell HGP.out 4).trans rfl
                  go_wp2_with fail
                  (with_reducible refine (link_Right.calls 1 false N false T 0 rb _ HRIGHT.out).mono ?_)
                  rintro e w3 ⟨rfl, hbel⟩
                  have hg0 : w3.heap[w.heap.size]? = some (.cells #[.bool false, .int .i64 0, .bool false, .string ⟨#[]⟩, .int .i64 0] 30 (0, 0)) := blk_below (blk_far HG0.out (by simp) _) hbel
                  have hgp : w3.heap[w.heap.size + 1]? = some (.cells #[.bool false, .int .i64 N, .bool false, .string T, .int .i64 0] 30 (0, 0)) := blk_below (blk_set HGP.out 3 (.string T)) hbel
                  have hb3 : Below w.heap.size w w3 := below_step (below_set HBW.out (Nat.le_succ _)) hbel
                  have HG03 := Aside0.mk hg0
                  have HB3 := Aside0.mk hb3
                  clear p0 p1 p2 p3 p4 fp q0 q1 q2 q3 q4 fz
                  have p0 : w3.cell? ⟨w.heap.size + 1, 0, none⟩ = some (.bool false) := (blk_cell hgp 0).trans rfl
                  have p1 : w3.cell? ⟨w.heap.size + 1, 1, none⟩ = some (.int .i64 N) := (blk_cell hgp 1).trans rfl
                  have p2 : w3.cell? ⟨w.heap.size + 1, 2, none⟩ = some (.bool false) := (blk_cell hgp 2).trans rfl
                  have p3 : w3.cell? ⟨w.heap.size + 1, 3, none⟩ = some (.string T) := (blk_cell hgp 3).trans rfl
                  have p4 : w3.cell? ⟨w.heap.size + 1, 4, none⟩ = some (.int .i64 0) := (blk_cell hgp 4).trans rfl
                  have q0 : w3.cell? ⟨w.heap.size, 0, none⟩ = some (.bool false) := (blk_cell hg0 0).trans rfl
                  have q1 : w3.cell? ⟨w.heap.size, 1, none⟩ = some (.int .i64 0) := (blk_cell hg0 1).trans rfl
                  have q2 : w3.cell? ⟨w.heap.size, 2, none⟩ = some (.bool false) := (blk_cell hg0 2).trans rfl
                  have q3 : w3.cell? ⟨w.heap.size, 3, none⟩ = some (.string ⟨#[]⟩) := (blk_cell hg0 3).trans rfl
                  have q4 : w3.cell? ⟨w.heap.size, 4, none⟩ = some (.int .i64 0) := (blk_cell hg0 4).trans rfl
                  have fz : ∀ i, w3.frozen? ⟨w.heap.size, i, none⟩ = false := fun i => blk_frozen hg0 i
                  clear hg0 hgp hb3 hbel
                  cases rb with
                  | true =>
                    have hdone : DecS L ⟨false, N, false, T, 0⟩ 0 := by
                      refine .inl ⟨rfl, HRB.out, ?_⟩
                      have h1 : r2 = [] := List.eq_nil_of_length_eq_zero (by have := HJL.out; have := HEND.out; omega)
                      rw [← HL.out, HDR1.out, HR.out, h1, List.append_nil]
                      rfl
                    have HDONE := Aside0.mk hdone
                    clear hdone
                    go_wp2_with fail
                    exact end5 L ⟨false, N, false, T, 0⟩ 0 HDONE.out HG03.out rfl (Nat.le_refl _) rfl rfl rfl HB3.out
                  | false =>
                    have hno : ∀ q', rightB q' = true → encB q' ≠ L := fun q' hq h => by
                      obtain ⟨h1, h2⟩ := HT1.out q' hq h
                      rw [h2, HRB.out] at hq
                      cases hq
                    have HNO := Aside0.mk hno
                    clear hno
                    go_wp2_with fail
                    exact end5 L z30 4 (.inr ⟨rfl, rfl, HNO.out⟩) HG03.out rfl (Nat.le_refl _) rfl rfl rfl HB3.out
                · have hno : ∀ q', rightB q' = true → encB q' ≠ L := fun q' hq h => by
                    obtain ⟨h1, h2⟩ := HT1.out q' hq h
                    have h4 := HJL.out
                    rw [h1, List.length_nil] at h4
                    omega
                  have HNO := Aside0.mk hno
                  have k5 : ((J : Int) != (L.length : Int)) = true := by rw [bne_iff_ne]; omega
                  have k6 : (J == L.length) = false := by rw [beq_eq_false_iff_ne]; exact hend
                  clear hno hend
                  go_wp2_with fail
                  exact end5 L z30 4 (.inr ⟨rfl, rfl, HNO.out⟩) (blk_far HG0.out (by simp) _) rfl (Nat.le_refl _) rfl rfl rfl (below_set HBW.out (Nat.le_succ _))
              · cases heq
                have hno : ∀ q', rightB q' = true → encB q' ≠ L := fun q' hq h => by
                  obtain ⟨h0, h1, h2, h3, h4⟩ := HBB.out q' hq h
                  refine hnone q'.f3 [] (rightB_bounds hq).2.2.1 ?_
                  rw [HDK.out, ← h4, List.append_nil]
                have HNO := Aside0.mk hno
                have m1 : (er2 == 0) = false := beq_eq_false_iff_ne.mpr her
                have m2 : (er2 != 0) = true := bne_iff_ne.mpr her
                clear hnone hno p3 fp
                go_wp2_with fail
                exact end5 L z30 4 (.inr ⟨rfl, rfl, HNO.out⟩) HG0.out rfl (Nat.le_refl _) rfl rfl rfl HBW.out
            · have hbbq : ∀ q', rightB q' = true → encB q' = L → q'.f0 = false ∧ q'.f2 = true ∧ q'.f1 = (N : Int) ∧ q'.f4 = 0 ∧ putB q'.f3.size ++ bytesOf q'.f3 = r := by
                intro q' hq h
                obtain ⟨h1, h2, h3⟩ := HN1.out q' hq h
                obtain ⟨h4, h5⟩ := kindB12 (by omega) h3
                rw [restB, if_neg (by rw [h4]; decide)] at h2
                exact ⟨h4, h5, h1, (rightB_bounds hq).2.2.2.2 h4, h2⟩
              have HBB := Aside0.mk hbbq
              clear hbbq hxk hx k1 k2 HGOT2X
              go_wp2
              go_region
              go_wp2_with fail
              (with_reducible refine (num_GetText.calls 12 (some ⟨b, o, none⟩) c L K 200 n2 j2 er2 _ ?s2 hc HRES2.out).mono ?_)
              case s2 => exact Kd.C_alloc (Kd.C_drewN (Kd.C_alloc HC.out _) _) _
              rintro e w2 ⟨rfl, hbel⟩
              have hgq : (((w.alloc (.cells #[.bool false, .int .i64 0, .bool false, .string ⟨#[]⟩, .int .i64 0] 30)).drewN (nd + 1)).alloc (.cells #[.bool false, .int .i64 N, .bool true, .string ⟨#[]⟩, .int .i64 0] 30)).heap[w.heap.size + 1]? = some (.cells #[.bool false, .int .i64 N, .bool true, .string ⟨#[]⟩, .int .i64 0] 30 (0, 0)) := by
                have e : ((w.alloc (.cells #[.bool false, .int .i64 0, .bool false, .string ⟨#[]⟩, .int .i64 0] 30)).drewN (nd + 1)).heap.size = w.heap.size + 1 := World.size_alloc _ _
                rw [← e]
                exact blk_new _ _
              have hg0 : w2.heap[w.heap.size]? = some (.cells #[.bool false, .int .i64 0, .bool false, .string ⟨#[]⟩, .int .i64 0] 30 (0, 0)) := blk_below (by repeat (first | exact blk_new w _ | refine blk_drewN ?_ _ | refine blk_alloc ?_ _)) hbel
              have hgp := blk_below hgq hbel
              have hb2 : Below w.heap.size w w2 := below_step (by repeat (first | exact Below.refl _ _ | apply pw_below_drewN | apply below_alloc)) hbel
              have HG0 := Aside0.mk hg0
              have HGP := Aside0.mk hgp
              have HBW := Aside0.mk hb2
              have p3 : w2.cell? ⟨w.heap.size + 1, 3, none⟩ = some (.string ⟨#[]⟩) := (blk_cell hgp 3).trans rfl
              have fp : ∀ i, w2.frozen? ⟨w.heap.size + 1, i, none⟩ = false := fun i => blk_frozen hgp i
              have q0 : w2.cell? ⟨w.heap.size, 0, none⟩ = some (.bool false) := (blk_cell hg0 0).trans rfl
              have q1 : w2.cell? ⟨w.heap.size, 1, none⟩ = some (.int .i64 0) := (blk_cell hg0 1).trans rfl
              have q2 : w2.cell? ⟨w.heap.size, 2, none⟩ = some (.bool false) := (blk_cell hg0 2).trans rfl
              have q3 : w2.cell? ⟨w.heap.size, 3, none⟩ = some (.string ⟨#[]⟩) := (blk_cell hg0 3).trans rfl
              have q4 : w2.cell? ⟨w.heap.size, 4, none⟩ = some (.int .i64 0) := (blk_cell hg0 4).trans rfl
              have fz : ∀ i, w2.frozen? ⟨w.heap.size, i, none⟩ = false := fun i => blk_frozen hg0 i
              clear hgq hg0 hgp hbel hb2 c0 c0x
              rcases HGOT2.out with ⟨T, r2, hT, hdr2, heq⟩ | ⟨hnone, er', her, heq⟩
              · obtain ⟨J, hJ⟩ : ∃ J : Nat, K + (putB T.size).length + T.size = J := ⟨_, rfl⟩
                rw [hJ] at heq
                cases heq
                obtain ⟨T, hTT⟩ : ∃ T, T = n2 := ⟨_, rfl⟩
                subst hTT
                have hr : r = putB T.size ++ (bytesOf T ++ r2) := by rw [← HDK.out, hdr2, List.append_assoc]
                have hJL : J + r2.length = L.length := by
                  have h1 := congrArg List.length hdr2
                  rw [List.length_drop, List.length_append, List.length_append, bytesOf_length] at h1
                  have := putB_pos T.size
                  omega
                have hT1 : ∀ q', rightB q' = true → encB q' = L → r2 = [] ∧ q' = ⟨false, N, true, T, 0⟩ := by
                  intro q' hq h
                  obtain ⟨h0, h1, h2, h3, h4⟩ := HBB.out q' hq h
                  rw [hr] at h4
                  obtain ⟨h5, h6⟩ := putB_one q'.f3.size T.size _ _ h4
                  have h7 : bytesOf q'.f3 = bytesOf T ∧ r2 = [] := by
                    have h8 := List.append_inj (s₁ := bytesOf q'.f3) (s₂ := bytesOf T) (t₁ := []) (t₂ := r2) (by rw [List.append_nil]; exact h6) (by rw [bytesOf_length, bytesOf_length, h5])
                    exact ⟨h8.1, h8.2.symm⟩
                  have h8 : q'.f3 = T := by rw [← str_bytesOf q'.f3, h7.1, str_bytesOf]
                  refine ⟨h7.2, ?_⟩
                  rcases q' with ⟨f0, f1, f2, f3, f4⟩
                  simp only at h0 h1 h2 h3 h8
                  subst h0 h1 h2 h3 h8
                  rfl
                have HT1 := Aside0.mk hT1
                have HR := Aside0.mk hr
                have HJL := Aside0.mk hJL
                have HJ := Aside0.mk hJ
                clear hT1 hr hJL hJ hdr2 HGOT2 HRES2 HBB
                by_cases hend : J = L.length
                · have k5 : ((J : Int) != (L.length : Int)) = false := by rw [bne_eq_false_iff_eq]; omega
                  have k6 : (J == L.length) = true := by rw [beq_iff_eq]; exact hend
                  have HEND := Aside0.mk hend
                  clear hend
                  have hright := link_right_some ⟨false, N, true, T, 0⟩
                  obtain ⟨rb, hrb⟩ : ∃ rb, rightB ⟨false, N, true, T, 0⟩ = rb := ⟨_, rfl⟩
                  rw [hrb] at hright
                  have HRIGHT := Aside0.mk hright
                  have HRB := Aside0.mk hrb
                  clear hright hrb
                  have p0 : w2.cell? ⟨w.heap.size + 1, 0, none⟩ = some (.bool false) := (blk_cell HGP.out 0).trans rfl
                  have p1 : w2.cell? ⟨w.heap.size + 1, 1, none⟩ = some (.int .i64 N) := (blk_cell HGP.out 1).trans rfl
                  have p2 : w2.cell? ⟨w.heap.size + 1, 2, none⟩ = some (.bool true) := (blk_cell HGP.out 2).trans rfl
                  have p4 : w2.cell? ⟨w.heap.size + 1, 4, none⟩ = some (.int .i64 0) := (blk_cell HGP.out 4).trans rfl
                  go_wp2_with fail
                  (with_reducible refine (link_Right.calls 1 false N true T 0 rb _ HRIGHT.out).mono ?_)
                  rintro e w3 ⟨rfl, hbel⟩
                  have hg0 : w3.heap[w.heap.size]? = some (.cells #[.bool false, .int .i64 0, .bool false, .string ⟨#[]⟩, .int .i64 0] 30 (0, 0)) := blk_below (blk_far HG0.out (by simp) _) hbel
                  have hgp : w3.heap[w.heap.size + 1]? = some (.cells #[.bool false, .int .i64 N, .bool true, .string T, .int .i64 0] 30 (0, 0)) := blk_below (blk_set HGP.out 3 (.string T)) hbel
                  have hb3 : Below w.heap.size w w3 := below_step (below_set HBW.out (Nat.le_succ _)) hbel
                  have HG03 := Aside0.mk hg0
                  have HB3 := Aside0.mk hb3
                  clear p0 p1 p2 p3 p4 fp q0 q1 q2 q3 q4 fz
                  have p0 : w3.cell? ⟨w.heap.size + 1, 0, none⟩ = some (.bool false) := (blk_cell hgp 0).trans rfl
                  have p1 : w3.cell? ⟨w.heap.size + 1, 1, none⟩ = some (.int .i64 N) := (blk_cell hgp 1).trans rfl
                  have p2 : w3.cell? ⟨w.heap.size + 1, 2, none⟩ = some (.bool true) := (blk_cell hgp 2).trans rfl
                  have p3 : w3.cell? ⟨w.heap.size + 1, 3, none⟩ = some (.string T) := (blk_cell hgp 3).trans rfl
                  have p4 : w3.cell? ⟨w.heap.size + 1, 4, none⟩ = some (.int .i64 0) := (blk_cell hgp 4).trans rfl
                  have q0 : w3.cell? ⟨w.heap.size, 0, none⟩ = some (.bool false) := (blk_cell hg0 0).trans rfl
                  have q1 : w3.cell? ⟨w.heap.size, 1, none⟩ = some (.int .i64 0) := (blk_cell hg0 1).trans rfl
                  have q2 : w3.cell? ⟨w.heap.size, 2, none⟩ = some (.bool false) := (blk_cell hg0 2).trans rfl
                  have q3 : w3.cell? ⟨w.heap.size, 3, none⟩ = some (.string ⟨#[]⟩) := (blk_cell hg0 3).trans rfl
                  have q4 : w3.cell? ⟨w.heap.size, 4, none⟩ = some (.int .i64 0) := (blk_cell hg0 4).trans rfl
                  have fz : ∀ i, w3.frozen? ⟨w.heap.size, i, none⟩ = false := fun i => blk_frozen hg0 i
                  clear hg0 hgp hb3 hbel
                  cases rb with
                  | true =>
                    have hdone : DecS L ⟨false, N, true, T, 0⟩ 0 := by
                      refine .inl ⟨rfl, HRB.out, ?_⟩
                      have h1 : r2 = [] := List.eq_nil_of_length_eq_zero (by have := HJL.out; have := HEND.out; omega)
                      rw [← HL.out, HDR1.out, HR.out, h1, List.append_nil]
                      rfl
                    have HDONE := Aside0.mk hdone
                    clear hdone
                    go_wp2_with fail
                    exact end5 L ⟨false, N, true, T, 0⟩ 0 HDONE.out HG03.out rfl (Nat.le_refl _) rfl rfl rfl HB3.out
                  | false =>
                    have hno : ∀ q', rightB q' = true → encB q' ≠ L := fun q' hq h => by
                      obtain ⟨h1, h2⟩ := HT1.out q' hq h
                      rw [h2, HRB.out] at hq
                      cases hq
                    have HNO := Aside0.mk hno
                    clear hno
                    go_wp2_with fail
                    exact end5 L z30 4 (.inr ⟨rfl, rfl, HNO.out⟩) HG03.out rfl (Nat.le_refl _) rfl rfl rfl HB3.out
                · have hno : ∀ q', rightB q' = true → encB q' ≠ L := fun q' hq h => by
                    obtain ⟨h1, h2⟩ := HT1.out q' hq h
                    have h4 := HJL.out
                    rw [h1, List.length_nil] at h4
                    omega
                  have HNO := Aside0.mk hno
                  have k5 : ((J : Int) != (L.length : Int)) = true := by rw [bne_iff_ne]; omega
                  have k6 : (J == L.length) = false := by rw [beq_eq_false_iff_ne]; exact hend
                  clear hno hend
                  go_wp2_with fail
                  exact end5 L z30 4 (.inr ⟨rfl, rfl, HNO.out⟩) (blk_far HG0.out (by simp) _) rfl (Nat.le_refl _) rfl rfl rfl (below_set HBW.out (Nat.le_succ _))
              · cases heq
                have hno : ∀ q', rightB q' = true → encB q' ≠ L := fun q' hq h => by
                  obtain ⟨h0, h1, h2, h3, h4⟩ := HBB.out q' hq h
                  refine hnone q'.f3 [] (rightB_bounds hq).2.2.1 ?_
                  rw [HDK.out, ← h4, List.append_nil]
                have HNO := Aside0.mk hno
                have m1 : (er2 == 0) = false := beq_eq_false_iff_ne.mpr her
                have m2 : (er2 != 0) = true := bne_iff_ne.mpr her
                clear hnone hno p3 fp
                go_wp2_with fail
                exact end5 L z30 4 (.inr ⟨rfl, rfl, HNO.out⟩) HG0.out rfl (Nat.le_refl _) rfl rfl rfl HBW.out
      · cases heq
        have hno : ∀ q', rightB q' = true → encB q' ≠ L := fun q' hq h => by
          refine hnone q'.f1.toNat (restB q') (by have := rightB_bounds hq; omega) ?_
          rw [← h, encB_eq]
          rfl
        have HNO := Aside0.mk hno
        have m1 : (er == 0) = false := beq_eq_false_iff_ne.mpr her
        have m2 : (er != 0) = true := bne_iff_ne.mpr her
        clear hnone hno
        go_wp2_with fail
        exact end5 L z30 4 (.inr ⟨rfl, rfl, HNO.out⟩) (blk_drewN (blk_new w _) nd) rfl (Nat.le_refl _) rfl rfl rfl (pw_below_drewN (below_alloc (Below.refl _ _) _) nd)

end Go.Proofs.Ytlbiodghappdcaa.L
