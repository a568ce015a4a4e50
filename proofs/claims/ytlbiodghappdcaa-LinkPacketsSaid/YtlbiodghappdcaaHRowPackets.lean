/- LinkPackets, for every packet and all bytes: the law answers true, and both arguments read behind the call as before. No condition beyond the row's own. -/
import Derived.Test.YtlbiodghappdcaaRows
import Derived.Test.YtlbiodghappdcaaLf3
import Derived.WalkKit
import Derived.ProofKit
import Derived.OpenShut
import Derived.ShutString
import Derived.ChangeOld
import Derived.Below
import Derived.SizedLaws
import Derived.Lib.SmallJoins
namespace Go.Proofs.Ytlbiodghappdcaa.linkPackets
open Go.ChangeShapes Go.WideShapes Go.ChangeAt Go.RowKit Go.Joins Go.Deep
open Go.ChangeMaps (open_string shut_string)
open Go.Proofs.Ytlbiodghappdcaa.L Go.Proofs.YtlbiodghappdcaaW.PrintWords Go.Proofs.Ytlbiodghappdcaa.Bs
set_option linter.unusedVariables false

/-- The pure statement: the printed function answers true. -/
theorem pure (p : S30) (l : List Int) (hb : ∀ x ∈ l, 0 ≤ x ∧ x < 256) : strongroomlaw26_LinkPackets.f 20 p.f0 p.f1 p.f2 p.f3 p.f4 l = some true := by
  have hj2 : ∀ k, 5 ≤ k → l.length ≤ 2000 → strongroomlaw26_LinkPackets.j2 k l = some true := by
    intro k hk hl
    obtain ⟨k, rfl⟩ : ∃ m, k = m + 1 := ⟨k - 1, by omega⟩
    simp only [strongroomlaw26_LinkPackets.j2]
    rcases link_Decode.of_any l hb (by omega) with ⟨q, h1, h2, h3⟩ | h3
    · rw [h3, Option.bind_some]
      simp only [if_true, strongroomlaw26_theirs.f, Option.bind_some]
      rw [at_rounds (strongroomref26_Right.mono _ _ _ _ _) (show 1 ≤ k by omega) (ref_right_some q), Option.bind_some, h1, if_pos rfl]
      have he : strongroomref26_Encode.f q.f0 q.f1 q.f2 q.f3 q.f4 = some (strOfNums (encB q)) := by
        unfold strongroomref26_Encode.f
        rw [if_pos h1]
      rw [he, Option.bind_some, h2, if_pos rfl]
      rfl
    · rw [h3, Option.bind_some]
      simp [strongroomlaw26_lives.f]
  unfold strongroomlaw26_LinkPackets.f
  by_cases h1 : (p.f3.size : Int) > 1000
  · rw [if_pos h1]
    simp [strongroomlaw26_LinkPackets.j0, strongroomlaw26_lives.f]
  · rw [if_neg h1]
    by_cases h2 : (l.length : Int) > 2000
    · rw [decide_eq_true h2]
      simp [strongroomlaw26_LinkPackets.j0, strongroomlaw26_lives.f]
    · rw [decide_eq_false h2]
      rw [show (20 : Nat) = 19 + 1 from rfl]
      simp only [strongroomlaw26_LinkPackets.j0]
      rw [if_neg (by decide), at_rounds (strongroomref26_Right.mono _ _ _ _ _) (by decide : 1 ≤ 19) (ref_right_some p), Option.bind_some]
      simp only [strongroomlaw26_mine.f, Option.bind_some]
      rw [at_rounds (link_Encode.mono _ _ _ _ _) (by decide : 11 ≤ 19) (link_encode_some p), Option.bind_some, at_rounds (link_Right.mono _ _ _ _ _) (by decide : 1 ≤ 19) (link_right_some p), Option.bind_some]
      rw [if_neg (by simp)]
      have hj2' := hj2 18 (by decide) (by omega)
      by_cases hr : rightB p = true
      · rw [if_pos hr, hr]
        simp only
        rw [if_neg (by decide), if_pos trivial]
        have he : strongroomref26_Encode.f p.f0 p.f1 p.f2 p.f3 p.f4 = some (strOfNums (encB p)) := by
          unfold strongroomref26_Encode.f
          rw [if_pos hr]
        rw [he, Option.bind_some, if_pos rfl]
        rw [show (19 : Nat) = 18 + 1 from rfl]
        simp only [strongroomlaw26_LinkPackets.j1]
        rw [if_neg (by decide), if_pos trivial]
        have hlen : (encB p).length < 70368744177664 := by
          have hbd := rightB_bounds hr
          have h3 := putB_len10 (n := p.f1.toNat) (by omega)
          unfold encB
          rw [List.length_cons, List.length_append]
          split
          · rename_i h0
            have h4 := putB_len10 (n := p.f4.toNat) (by have := hbd.2.2.2.1 h0; omega)
            omega
          · have h4 := putB_len10 (n := p.f3.size) (by omega)
            rw [List.length_append, Go.Proofs.Ytlbiodghappdcaa.L.bytesOf_length]
            omega
        rw [link_Decode.of_right p hr hlen, Option.bind_some]
        simp only [if_true, strongroomlaw26_theirs.f, Option.bind_some]
        rw [if_neg (by simp)]
        exact hj2'
      · have hr' : rightB p = false := by simpa using hr
        rw [if_neg hr, hr']
        simp only
        rw [if_neg (by decide), if_neg (by decide), if_neg (by simp)]
        rw [show (19 : Nat) = 18 + 1 from rfl]
        simp only [strongroomlaw26_LinkPackets.j1]
        rw [if_neg (by decide), if_neg (by decide)]
        exact hj2'

theorem own : ownKnob Try.prog.godebug = none := by kernel_rfl
theorem laidOut : laidOutB Try.prog = true := by kernel_rfl

section
variable {H : Type} {enc : TypeId × Value → H} {P : Program} {w : World} {base : Nat} {spare : Nat → Bool} {held : Bool}
/-- A struct of five one-cell fields, by value. -/
theorem open_agg5 {r : Reach} {b0 : Nat} {t : TypeId} {f0 f1 f2 f3 f4 : Field} {v : Value} {d : DataW H} {p : List MemPlace} (hs : P.underlying t = some (.struct #[f0, f1, f2, f3, f4])) (hone : oneCellFields P #[f0, f1, f2, f3, f4] = true) (hC : P.cellsOf t = 5)
    (hv : Value.okWide P w r b0 t v) (h : DataW.Trod enc P w base spare held t v d p) :
    ∃ (v0 v1 v2 v3 v4 : Value) (y0 y1 y2 y3 y4 : DataW H × List MemPlace) (n : Nat), v = .agg #[v0, v1, v2, v3, v4] ∧
      DataW.trod enc P w base spare held n f0.type [v0] = some y0 ∧ DataW.trod enc P w base spare held n f1.type [v1] = some y1 ∧ DataW.trod enc P w base spare held n f2.type [v2] = some y2 ∧ DataW.trod enc P w base spare held n f3.type [v3] = some y3 ∧ DataW.trod enc P w base spare held n f4.type [v4] = some y4 := by
  obtain ⟨cs, rfl, hsz⟩ := okWide_struct hs hv
  obtain ⟨l⟩ := cs
  match l, hsz.trans hC with
  | [c0, c1, c2, c3, c4], _ =>
    obtain ⟨fuel, hf⟩ := h
    obtain ⟨xs, n, _, hx, _, hlen, hg⟩ := DataW.trod_struct hs hf
    obtain ⟨o0, k0⟩ := hone_of hone 0 f0 rfl
    obtain ⟨o1, k1⟩ := hone_of hone 1 f1 rfl
    obtain ⟨o2, k2⟩ := hone_of hone 2 f2 rfl
    obtain ⟨o3, k3⟩ := hone_of hone 3 f3 rfl
    obtain ⟨o4, k4⟩ := hone_of hone 4 f4 rfl
    match xs, hlen with
    | [y0, y1, y2, y3, y4], _ =>
      exact ⟨c0, c1, c2, c3, c4, y0, y1, y2, y3, y4, n, rfl, by simpa [Value.cells, o0, k0] using hg 0 f0 rfl, by simpa [Value.cells, o1, k1] using hg 1 f1 rfl, by simpa [Value.cells, o2, k2] using hg 2 f2 rfl, by simpa [Value.cells, o3, k3] using hg 3 f3 rfl, by simpa [Value.cells, o4, k4] using hg 4 f4 rfl⟩
end

set_option maxRecDepth 100000 in
theorem lifted (os : Os) (started : os.Started) (H : Type) (enc : TypeId × Value → H) :
    ReturnsInHanded {} Try.checked os 3 .any (Rows.linkPacketsSpec.pre6 enc Try.prog Try.f3 Rows.linkPacketsRow.domain false) (Rows.linkPacketsSpec.post enc Try.prog Try.f3 false true false false) := by
  refine returnsInHanded_of_change_sized (C := Try.checked) own started (by kernel_rfl) Try.func3
    (ChangeSpec.witness6 (enc := enc) (C := Try.checked) false ⟨#[], #[.agg #[.bool false, .int .i64 0, .bool false, .string ByteArray.empty, .int .i64 0], .slice none 0 0], []⟩ 8 (by kernel_rfl) (by kernel_rfl) (by kernel_rfl) (by kernel_rfl)) ?_
  intro W base args ds gs before hval0 hW hcnd hsz0 _
  have hval : ∀ (j : Nat) t v, Try.f3.params[j]? = some t → args[j]? = some v → Value.okWide Try.prog W .any base t v := hval0
  have hW' := hW
  obtain ⟨p, q, hA0, hV, rfl, hfz, hnd⟩ := hW
  have hA : DataW.TrodAll enc Try.prog W 0 (fun _ => true) true Try.f3.params.toList args.toList ds p := hA0
  rw [Try.params3] at hA hval
  obtain ⟨v0, vs0, d0, ds0, p0, q0, hargs, rfl, rfl, h0, r0⟩ := trodAll_cons hA
  obtain ⟨v1, vs1, d1, ds1, p1, q1, rfl, rfl, rfl, h1, r1⟩ := trodAll_cons r0
  obtain ⟨rfl, rfl, rfl⟩ := trodAll_nil r1
  obtain rfl : args = #[v0, v1] := by cases args; simp_all
  obtain ⟨rfl, rfl⟩ := trodVars_none hV
  have k0 := h0
  have lt0 : ∀ x ∈ p0, x.block < W.heap.size := by obtain ⟨m, hm⟩ := k0; exact DataW.trod_lt m _ _ _ hm
  obtain ⟨u0, u1, u2, u3, u4, y0, y1, y2, y3, y4, n, rfl, t0, t1, t2, t3, t4⟩ := open_agg5 Try.underlying23 (by kernel_rfl) (by kernel_rfl) (hval 0 23 v0 rfl rfl) h0
  obtain ⟨a0, e0, _⟩ := DataW.trod_bool Try.underlying4 t0
  obtain ⟨a1, e1, _, _⟩ := DataW.trod_int Try.underlying3 t1
  obtain ⟨a2, e2, _⟩ := DataW.trod_bool Try.underlying4 t2
  obtain ⟨a3, e3, _, _⟩ := DataW.trod_string Try.underlying9 t3
  obtain ⟨a4, e4, _, _⟩ := DataW.trod_int Try.underlying3 t4
  cases e0
  cases e1
  cases e2
  cases e3
  cases e4
  obtain ⟨aa, len, cap, rfl⟩ := okWide_slice Try.underlying24 (hval 1 24 v1 rfl rfl)
  have k1 := h1
  have lt1 : ∀ x ∈ p1, x.block < W.heap.size := by obtain ⟨m, hm⟩ := k1; exact DataW.trod_lt m _ _ _ hm
  obtain ⟨z1, w1⟩ : ∃ zs, (aa = none ∧ len = 0 ∧ cap = 0 ∧ zs = []) ∨ ∃ x, aa = some x ∧ len ≤ cap ∧ cap ≤ maxLen ∧ zs.length = cap ∧ (∀ i, i < zs.length → W.cell? (x.add i) = some (.int .u8 (zs.getD i 0))) ∧ ∀ n ∈ zs, (Lit.int .u8 n).wf = true := by
    obtain ⟨fuel, hf⟩ := h1
    rcases open_ints Try.underlying24 Try.underlying5 (by kernel_rfl) hf with ⟨hcs, _⟩ | ⟨x, l, c, zs, hcs, _, hl, hm, hz, _, hcell, hwz⟩
    · simp [Value.cells] at hcs
      obtain ⟨rfl, rfl, rfl⟩ := hcs
      exact ⟨[], .inl ⟨rfl, rfl, rfl, rfl⟩⟩
    · simp [Value.cells] at hcs
      obtain ⟨rfl, rfl, rfl⟩ := hcs
      exact ⟨zs, .inr ⟨_, rfl, hl, hm, by simpa using hz, hcell, hwz⟩⟩
  obtain ⟨l1, rfl, hr1, hm1, hw1, hc1⟩ := ReadsInt.ofRowC w1
  have hb1 : ∀ x ∈ l1, 0 ≤ x ∧ x < 256 := by
    intro x hx
    have := hw1 x hx
    simp [Lit.wf, IntKind.min, IntKind.max, IntKind.signed, IntKind.bits] at this
    omega
  clear hA0 hval0 hsz0
  refine (strongroomlaw26_LinkPackets.calls 20 a0 a1 a2 a3 a4 aa cap l1 true W (Kd.C_of_reads (d := (0 : Int)) (h1 := fun _ => rfl) hr1) hc1 (pure ⟨a0, a1, a2, a3, a4⟩ l1 hb1)).mono fun e W' ⟨he, bel⟩ => ?_
  subst he
  exact ⟨_, rfl, _, _, _, [], _, [], hW', trodAll_mk1 (shut_bool Try.underlying4 _), (trodAll_cons_mk (Below.trod laidOut (by kernel_rfl) (of_decide_eq_true (by kernel_rfl)) k0 bel lt0) (trodAll_cons_mk (Below.trod laidOut (by kernel_rfl) (of_decide_eq_true (by kernel_rfl)) k1 bel lt1) trodAll_mk0)), rfl, bel.frame _, fun h => by cases h⟩
theorem over : Rows.linkPacketsRow.holds Try.pinned (OpenSpec.ofChange Rows.linkPacketsSpec) :=
  OpenClaim.holds_of_wide 3 Try.f3 rfl rfl rfl rfl rfl rfl rfl ⟨rfl, rfl, rfl, rfl, rfl⟩ rfl rfl rfl rfl rfl (by kernel_rfl) Try.func3 (by kernel_rfl)
    (of_decide_eq_true (by kernel_rfl)) (by unfold Func.isWrapper; first | (rw [if_pos (by decide +kernel)]; kernel_rfl) | (rw [if_neg (by decide +kernel)]; exact ⟨rfl, rfl⟩))
    (fun os started H enc _ => lifted os started H enc)
theorem proved : Rows.LinkPacketsSaid := over
#print axioms proved
end Go.Proofs.Ytlbiodghappdcaa.linkPackets
namespace Go.Proofs.Ytlbiodghappdcaa
/-- The row, under a short name, for the claim. -/
theorem linkPackets_holds : Rows.LinkPacketsSaid := linkPackets.proved
end Go.Proofs.Ytlbiodghappdcaa
