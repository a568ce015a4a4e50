/- The Sender's Put. Conditions: the bounds that its callers keep (room, the numbers' bound). -/
import Derived.Test.YtlbiodghappdcaaHSnd
import Derived.Test.YtlbiodghappdcaaLf38
import Derived.Deep.RegionLaw
namespace Go.Proofs.Ytlbiodghappdcaa.L
open Go.RowKit Go.Proofs.YtlbiodghappdcaaW.PrintWords Go.Proofs.YtlbiodghappdcaaW.PrintLast Go.Proofs.YtlbiodghappdcaaW.PrintMore Go.Proofs.Ytlbiodghappdcaa.Bs
attribute [local go_sem] max2_int min2_int max_two min_two max_three min_three max_four min_four
set_option linter.unusedVariables false
set_option linter.unusedSimpArgs false

/-- A message's parts, unnumbered. -/
def cutS : Nat → ByteArray → List S30
  | 0, m => [⟨false, 0, true, m, 0⟩]
  | k + 1, m => if 200 < m.size then ⟨false, 0, false, m.extract 0 200, 0⟩ :: cutS k (m.extract 200 m.size) else [⟨false, 0, true, m, 0⟩]
/-- Parts as they wait, numbered from a number on. -/
def numbered : Int → List S30 → List S86
  | _, [] => []
  | f, p :: l => ⟨⟨p.f0, f, p.f2, p.f3, p.f4⟩, false, 0, false⟩ :: numbered (f + 1) l
theorem numbered_length : ∀ (f : Int) (l : List S30), (numbered f l).length = l.length
  | _, [] => rfl
  | f, p :: l => by simp [numbered, numbered_length (f + 1) l]
theorem numbered_snoc : ∀ (f : Int) (l : List S30) (p : S30), numbered f (l ++ [p]) = numbered f l ++ [⟨⟨p.f0, f + l.length, p.f2, p.f3, p.f4⟩, false, 0, false⟩]
  | f, [], p => by simp [numbered]
  | f, q :: l, p => by
    have e : f + 1 + (l.length : Int) = f + ((q :: l).length : Int) := by simp only [List.length_cons]; omega
    simp only [List.cons_append, numbered, numbered_snoc (f + 1) l p, e]
theorem cut_ev (m : ByteArray) : ∀ (d k : Nat) (m : ByteArray) (acc : List S30), m.size ≤ 200 * d + 200 → acc.length + d < 1000 → d < k → link_cut.l0 k m acc = some (acc ++ cutS d m) := by
  intro d
  induction d with
  | zero =>
    intro k m acc h1 h2 hk
    obtain ⟨k, rfl⟩ : ∃ j, k = j + 1 := ⟨k - 1, by omega⟩
    simp only [link_cut.l0]
    rw [if_neg (by omega), if_pos (by omega)]
    rfl
  | succ d ih =>
    intro k m acc h1 h2 hk
    obtain ⟨k, rfl⟩ : ∃ j, k = j + 1 := ⟨k - 1, by omega⟩
    simp only [link_cut.l0, cutS]
    by_cases h : 200 < m.size
    · rw [if_pos (by omega), if_pos (by omega), if_pos (by omega), if_pos (by omega), if_pos h, ih k _ _ (by rw [ByteArray.size_extract]; omega) (by simp; omega) (by omega)]
      simp
    · rw [if_neg (by omega), if_pos (by omega), if_neg h]

theorem put_round {w wr w1 : World} {g : Nat} {P : Nat → Prop} {f n : Int} {o : Obj} {A1 : Option Addr} {m1 k1 : Nat} {v2 v0 : Value} {ys : List S86} {x : S86} {l : List S30}
    (HF : Fr w wr (fun k => k = g ∨ P k)) (HG : (wr.drew.drew.alloc o).grownBy w1 (Value.slice A1 m1 k1).ownBlock) (HQ : Kd.Q k86 86 wr 0 (fun k => P k ∨ w.heap.size ≤ k) (.slice A1 m1 k1) ys)
    (HQ1 : Kd.Q k86 86 w1 0 (fun k => P k ∨ w.heap.size ≤ k) v2 (ys ++ [x])) (HB : w1.heap[g]? = some (.cells #[.slice A1 m1 k1, .int .i64 f, .int .i64 n] 77 (0, 0)))
    (HR : Kd.R k30 30 wr w.heap.size (fun _ => True) v0 l) :
    Fr w (w1.setCell ⟨g, 0, none⟩ v2) (fun k => k = g ∨ P k) ∧ Snd (w1.setCell ⟨g, 0, none⟩ v2) g (fun k => P k ∨ w.heap.size ≤ k) (ys ++ [x]) f n ∧ Kd.R k30 30 (w1.setCell ⟨g, 0, none⟩ v2) w.heap.size (fun _ => True) v0 l := by
  refine ⟨?_, ⟨v2, by simpa using blk_set HB 0 v2, Kd.Q_set HQ1 HB (by decide) 0 v2⟩, ?_⟩
  · refine Fr.setCell (Fr.grown ((HF.drew.drew).alloc o) HG (fun k hk => ?_)) (.inl (.inl rfl)) v2
    exact (HQ.1 k hk).elim (fun h => .inl (.inr h)) .inr
  · refine Kd.R_set (Kd.R_over' (Kd.R_alloc (w := wr.drew.drew) HR o) (e' := 86) (fun k hk => ?_) (by decide) HG) HB (by decide) 0 v2
    exact Kd.Q_typed (Kd.Q_alloc (w := wr.drew.drew) HQ o) k hk

theorem info86 : (Try.prog.info? 86).map (fun i => (i.zero, i.size, i.bytes)) = some (some (.agg #[(.bool false), (.int .i64 0), (.bool false), (.string ⟨#[]⟩), (.int .i64 0), (.bool false), (.int .i64 0), (.bool false)]), 8, 72) := by kernel_rfl
set_option maxHeartbeats 400000 in
set_option maxRecDepth 100000 in
theorem snd_put_loop {w : World} {g : Nat} {P : Nat → Prop} {xs : List S86} {f n : Int} (m : ByteArray) (h : Snd w g P xs f n) (hg : ¬ P g) (hm : m.size ≤ 4096) (hx : xs.length + (cutS 20 m).length ≤ 64) (hf0 : 0 ≤ f) (hf : f + xs.length + (cutS 20 m).length - 1 ≤ 1099511627776) :
    Calls Try.prog 22 #[.pointer (some ⟨g, 0, none⟩), .string m] w fun e w' => e = .returned (.int .i64 0) ∧ Snd w' g (fun k => P k ∨ w.heap.size ≤ k) (xs ++ numbered (f + xs.length) (cutS 20 m)) f n ∧ Fr w w' (fun k => k = g ∨ P k) := by
  have hcut : link_cut.f 21 m = some (cutS 20 m) := by
    unfold link_cut.f
    exact cut_ev m 20 21 m [] (by omega) (by simp) (by omega)
  obtain ⟨l, hl⟩ : ∃ l, l = cutS 20 m := ⟨_, rfl⟩
  rw [← hl] at hx hf hcut ⊢
  clear hl
  obtain ⟨v, hb, hq⟩ := h
  obtain ⟨A, c, rfl, hc, hC⟩ := Kd.Q_reads hq
  have h0 : w.cell? ⟨g, 0, none⟩ = some (.slice A xs.length c) := (blk_cell hb 0).trans rfl
  have h1 : w.cell? ⟨g, 1, none⟩ = some (.int .i64 f) := (blk_cell hb 1).trans rfl
  have hu77 := Try.underlying77
  have hu86 := Try.underlying86
  have hu30 := Try.underlying30
  have HC := Aside0.mk hC
  have HQ := Aside0.mk hq
  have HB := Aside0.mk hb
  have HCUT := Aside0.mk hcut
  clear hC hq hb hcut
  go_enter Try.func22, Try.ntmps22
  go_wp2_with fail
  refine (link_cut.calls 21 m l _ HCUT.out).mono ?_
  rintro e w1 ⟨v0, rfl, hR, hbel⟩
  obtain ⟨A0, c0, rfl, hc0, hC0⟩ := Kd.R_reads hR
  replace h0 := pw_cell_below hbel h0
  replace h1 := pw_cell_below hbel h1
  have HR := Aside0.mk hR
  have HC0 := Aside0.mk hC0
  have HBEL := Aside0.mk hbel
  clear hR hC0 hbel HCUT
  have d0 : decide ((64 : Int) < (xs.length : Int) + (l.length : Int)) = false := decide_eq_false (by omega)
  have d1 : decide ((1099511627776 : Int) < f + (xs.length : Int) + (l.length : Int) - 1) = false := decide_eq_false (by omega)
  go_wp2
  go_quiet (fail)
  go_wp2
  have HF := Aside0.mk (((Fr.refl w (fun k => k = g ∨ P k)).below HBEL.out).drewN nq)
  have HS : Aside0 (Snd (w1.drewN nq) g (fun k => P k ∨ w.heap.size ≤ k) (xs ++ numbered (f + xs.length) (l.take 0)) f n) := by
    refine ⟨?_⟩
    rw [List.take_zero, numbered, List.append_nil]
    exact ⟨_, blk_drewN (blk_below HB.out HBEL.out) nq, Kd.Q_mono (Kd.Q_drewN (Kd.Q_below HQ.out HBEL.out) nq) (fun k hk => .inl hk)⟩
  replace HR : Aside0 (Kd.R k30 30 (w1.drewN nq) w.heap.size (fun _ => True) (.slice A0 l.length c0) l) := HR
  clear h0 h1 HC0 HC HQ HB HBEL d0 d1
  have hl64 : l.length ≤ 64 := by omega
  have hi0 : l.length + 0 = l.length := rfl
  go_loopg [43] l.length (fun kq v w' => ∃ i : Nat, v = .int .i64 i ∧ Aside0 (i + kq = l.length) ∧ Aside0 (Fr w w' (fun k => k = g ∨ P k)) ∧ Aside0 (Snd w' g (fun k => P k ∨ w.heap.size ≤ k) (xs ++ numbered (f + xs.length) (l.take i)) f n) ∧ Aside0 (Kd.R k30 30 w' w.heap.size (fun _ => True) (.slice A0 l.length c0) l))
  case atStart => exact ⟨0, rfl, ⟨by omega⟩, HF, HS, HR⟩
  case round =>
    clear HF HS HR hi0
    obtain ⟨i, rfl, HI, HF, HS, HR⟩ := hrel
    by_cases hi : i < l.length
    · obtain ⟨v, hb, hq⟩ := HS.out
      obtain ⟨A1, k1, rfl, hc1, hC1⟩ := Kd.Q_reads hq
      have hlen : (xs ++ numbered (f + xs.length) (l.take i)).length = xs.length + i := by rw [List.length_append, numbered_length, List.length_take]; omega
      rw [hlen] at hb hq hc1
      have h0 : wr.cell? ⟨g, 0, none⟩ = some (.slice A1 (xs.length + i) k1) := (blk_cell hb 0).trans rfl
      have h1 : wr.cell? ⟨g, 1, none⟩ = some (.int .i64 f) := (blk_cell hb 1).trans rfl
      have f0 : wr.frozen? ⟨g, 0, none⟩ = false := blk_frozen hb 0
      have hgl : g < wr.heap.size := blk_lt hb
      obtain ⟨ad, e0, c0, c1, c2, c3, c4⟩ := at_T30 (Kd.R_reads' HR.out).2.2 i (by omega) (by omega)
      cases e0
      rw [Int.toNat_natCast] at c0 c1 c2 c3 c4
      obtain ⟨p, hp⟩ : ∃ p, rd_T30 l (i : Int) = p := ⟨_, rfl⟩
      rw [hp] at c0 c1 c2 c3 c4
      have HP := Aside0.mk hp
      clear hp
      have h0x : ∀ o, (wr.alloc o).cell? ⟨g, 0, none⟩ = some (.slice A1 (xs.length + i) k1) := fun o => (World.cell?_alloc_past _ _ _ hgl).trans h0
      have h1x : ∀ o, (wr.alloc o).cell? ⟨g, 1, none⟩ = some (.int .i64 f) := fun o => (World.cell?_alloc_past _ _ _ hgl).trans h1
      have f0x : ∀ o, (wr.alloc o).frozen? ⟨g, 0, none⟩ = false := fun o => (World.frozen?_alloc_past _ _ _ hgl).trans f0
      have HB := Aside0.mk hb
      have HQ := Aside0.mk hq
      have HC1 := Aside0.mk hC1
      have HLEN := Aside0.mk hlen
      clear hb hq hC1 hlen
      go_wp2
      go_region
      go_wp2
      have hQ2 : ∀ o, k86.Q 86 (wr.drew.drew.alloc o) 0 (fun k => P k ∨ w.heap.size ≤ k) (.slice A1 (xs.length + i) k1) (xs ++ numbered (f + xs.length) (l.take i)) := fun o => Kd.Q_alloc (w := wr.drew.drew) HQ.out o
      have hfresh : ∀ o k, (wr.drew.drew.alloc o).heap.size ≤ k → P k ∨ w.heap.size ≤ k := fun o k hk => .inr (by have := HF.out.size; rw [World.size_alloc, World.size_drew, World.size_drew] at hk; omega)
      have hlim : ((xs ++ numbered (f + xs.length) (l.take i)).length + 1) * 72 ≤ 140737488355328 := by rw [HLEN.out]; omega
      have hmk : ∀ o, k86.M (wr.drew.drew.alloc o) 0 (fun _ => False) (⟨⟨p.f0, f + ((xs.length : Int) + (i : Int)), p.f2, p.f3, p.f4⟩, false, 0, false⟩ : S86) [.bool p.f0, .int .i64 (f + ((xs.length : Int) + (i : Int))), .bool p.f2, .string p.f3, .int .i64 p.f4, .bool false, .int .i64 0, .bool false] := fun o => k86_mkM _ _ _ _
      have H1 := Aside0.mk hQ2
      have H2 := Aside0.mk hfresh
      have H3 := Aside0.mk hlim
      have H4 := Aside0.mk hmk
      have H5 : Aside0 (∀ o, (wr.drew.drew.alloc o).heap[g]? = some (.cells #[.slice A1 (xs.length + i) k1, .int .i64 f, .int .i64 n] 77 (0, 0))) := ⟨fun o => blk_alloc (w := wr.drew.drew) HB.out o⟩
      have H6 : Aside0 (some g ≠ (Value.slice A1 (xs.length + i) k1).ownBlock) := ⟨Kd.Q_ne HQ.out HB.out (by decide)⟩
      clear hQ2 hfresh hlim hmk
      go_region_law (refine Eq.mpr (if_pos ?e0) ?_; (case e0 => rfl); simp only [← World.alloc_drew]; refine Q_append_wp k86 (w0 := wr.drew.drew.alloc _) 0 (.tmp 62) (.tmp 65) 75 86 _ 72 ?e1 Try.underlying75 info86 ?e2 (by decide) (by decide) (.slice A1 (xs.length + i) k1) _ _ _ _ _ ?e3 ?e4 (H4.out _) (fun _ h => h.elim) (H2.out _) (H1.out _) (Below.refl _ _) (Nat.zero_le _) H3.out ?_; (case e1 => rfl); (case e2 => rfl); (case e3 => rfl); (case e4 => simp [Act.eval, Act.put]); intro v1 w1 hq1 hb1 hg1 hat1; clear hat1; have HQ1 := Aside0.mk hq1; have HG1 := Aside0.mk hg1; have HB1 := Aside0.mk (blk_grown (H5.out _) hg1 H6.out); clear hq1 hb1 hg1; obtain ⟨A2, N2, k2, e2⟩ := Q_shape HQ1.out; cases e2; have g0 : w1.cell? ⟨g, 0, none⟩ = some (.slice A1 (xs.length + i) k1) := (blk_cell HB1.out 0).trans rfl; have z0 : w1.frozen? ⟨g, 0, none⟩ = false := blk_frozen HB1.out 0)
      all_goals
        go_wp2
        go_roundg (gk - 1)
        case measure => have := HI.out; omega
        case rel =>
          have hh := put_round HF.out HG1.out HQ.out HQ1.out HB1.out HR.out
          have hp : p = l[i] := by rw [← HP.out]; simp [rd_T30, hi]
          refine ⟨i + 1, by go_num, ⟨by have := HI.out; omega⟩, ⟨hh.1⟩, ⟨?_⟩, ⟨hh.2.2⟩⟩
          rw [List.take_succ_eq_append_getElem hi, numbered_snoc, ← List.append_assoc, ← hp]
          have e : f + ((xs.length : Int) + (i : Int)) = f + (xs.length : Int) + ((l.take i).length : Int) := by rw [List.length_take]; omega
          rw [← e]
          exact hh.2.1
    · have hie : i = l.length := by have := HI.out; omega
      have HIE := Aside0.mk hie
      clear hie
      go_wp2
      go_ret
      refine ⟨rfl, ?_, HF.out⟩
      have := HS.out
      rw [HIE.out, List.take_length] at this
      exact this

theorem Snd.bound {w : World} {g : Nat} {P : Nat → Prop} {xs : List S86} {f n : Int} (h : Snd w g P xs f n) : Snd w g (fun k => P k ∧ k < w.heap.size) xs f n := by
  obtain ⟨v, hb, hq⟩ := h
  exact ⟨v, hb, Kd.Q_mono (Kd.Q_bound hq) (fun k hk => ⟨hk.1, hk.2.2.1⟩)⟩
theorem cut_some (m : ByteArray) (hm : m.size ≤ 4096) : link_cut.f 21 m = some (cutS 20 m) := by
  unfold link_cut.f
  exact cut_ev m 20 21 m [] (by omega) (by simp) (by omega)

set_option maxHeartbeats 400000 in
set_option maxRecDepth 100000 in
theorem snd_put_long {w : World} {g : Nat} (m : ByteArray) (hm : 4096 < m.size) :
    Calls Try.prog 22 #[.pointer (some ⟨g, 0, none⟩), .string m] w fun e w' => e = .returned (.int .i64 2) ∧ w' = w := by
  have d0 : decide ((4096 : Int) < (m.size : Int)) = true := decide_eq_true (by omega)
  have d1 : decide (4096 < m.size) = true := decide_eq_true (by omega)
  go_enter Try.func22, Try.ntmps22
  go_wp2
  go_ret
  exact ⟨rfl, rfl⟩
set_option maxHeartbeats 400000 in
set_option maxRecDepth 100000 in
theorem snd_put_full {w : World} {g : Nat} {P : Nat → Prop} {xs : List S86} {f n : Int} (m : ByteArray) (h : Snd w g P xs f n) (hm : m.size ≤ 4096) (hx0 : xs.length ≤ 64) (hx : 64 < xs.length + (cutS 20 m).length) (hl : (cutS 20 m).length ≤ 64) :
    Calls Try.prog 22 #[.pointer (some ⟨g, 0, none⟩), .string m] w fun e w' => e = .returned (.int .i64 5) ∧ Below w.heap.size w w' := by
  have hcut := cut_some m hm
  obtain ⟨l, hl⟩ : ∃ l, l = cutS 20 m := ⟨_, rfl⟩
  rw [← hl] at hx hcut
  rename_i hll
  rw [← hl] at hll
  clear hl
  obtain ⟨v, hb, hq⟩ := h
  obtain ⟨A, c, rfl, hc, hC⟩ := Kd.Q_reads hq
  have h0 : w.cell? ⟨g, 0, none⟩ = some (.slice A xs.length c) := (blk_cell hb 0).trans rfl
  have hu77 := Try.underlying77
  have HCUT := Aside0.mk hcut
  clear hC hq hb hcut
  go_enter Try.func22, Try.ntmps22
  go_wp2_with fail
  refine (link_cut.calls 21 m l _ HCUT.out).mono ?_
  rintro e w1 ⟨v0, rfl, hR, hbel⟩
  obtain ⟨A0, c0, rfl, hc0, hC0⟩ := Kd.R_reads hR
  replace h0 := pw_cell_below hbel h0
  have HBEL := Aside0.mk hbel
  clear hR hC0 hbel HCUT
  have d0 : decide ((64 : Int) < (xs.length : Int) + (l.length : Int)) = true := decide_eq_true (by omega)
  go_wp2
  go_quiet (fail)
  go_wp2
  go_ret
  exact ⟨rfl, pw_below_drewN HBEL.out _⟩

end Go.Proofs.Ytlbiodghappdcaa.L
