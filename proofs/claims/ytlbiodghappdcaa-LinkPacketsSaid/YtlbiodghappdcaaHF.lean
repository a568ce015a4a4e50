/- Frames: what a call leaves as it was (all blocks but those of a set), and how frames are put together. No condition. -/
import Derived.Test.YtlbiodghappdcaaHB
import Derived.Test.YtlbiodghappdcaaWKept
import Derived.Test.YtlbiodghappdcaaWQPut
namespace Go.Proofs.Ytlbiodghappdcaa.Bs
open Go.RowKit Go.Proofs.YtlbiodghappdcaaW.PrintWords Go.Proofs.YtlbiodghappdcaaW.PrintLast Go.Proofs.YtlbiodghappdcaaW.PrintMore

/-- All that was there is as it was, but the blocks of S; the streams are as they were. -/
structure Fr (w w' : World) (S : Nat → Prop) : Prop where
  os : w'.os = w.os
  tape : w'.tape = w.tape
  output : w'.output = w.output
  size : w.heap.size ≤ w'.heap.size
  block : ∀ i, i < w.heap.size → ¬ S i → w'.heap[i]? = w.heap[i]?

section
variable {w w1 w2 : World} {S S2 S' : Nat → Prop}
theorem Fr.refl (w : World) (S : Nat → Prop) : Fr w w S := ⟨rfl, rfl, rfl, Nat.le_refl _, fun _ _ _ => rfl⟩
theorem Fr.trans (h : Fr w w1 S) (k : Fr w1 w2 S2) (hs : ∀ k, S2 k → S k ∨ w.heap.size ≤ k) : Fr w w2 S :=
  ⟨k.os.trans h.os, k.tape.trans h.tape, k.output.trans h.output, Nat.le_trans h.size k.size,
   fun i hi hn => (k.block i (Nat.lt_of_lt_of_le hi h.size) (fun h2 => (hs i h2).elim hn (fun h3 => by omega))).trans (h.block i hi hn)⟩
theorem Fr.mono (h : Fr w w1 S) (hs : ∀ k, S k → S' k) : Fr w w1 S' := ⟨h.os, h.tape, h.output, h.size, fun i hi hn => h.block i hi (fun hk => hn (hs i hk))⟩
theorem Fr.of_below (h : Below w.heap.size w w1) (S : Nat → Prop) : Fr w w1 S := ⟨h.os, h.tape, h.output, h.size, fun i hi _ => h.block i hi⟩
theorem Fr.below (h : Fr w w1 S) (hb : Below w1.heap.size w1 w2) : Fr w w2 S := h.trans (Fr.of_below hb (fun _ => False)) (fun _ hk => hk.elim)
theorem Fr.alloc (h : Fr w w1 S) (o : Obj) : Fr w (w1.alloc o) S := h.below (below_alloc (Below.refl _ _) o)
theorem Fr.drew (h : Fr w w1 S) : Fr w w1.drew S := ⟨h.os, h.tape, h.output, h.size, h.block⟩
theorem Fr.drewN (h : Fr w w1 S) (n : Nat) : Fr w (w1.drewN n) S := ⟨h.os, h.tape, h.output, h.size, h.block⟩
theorem Fr.setCell (h : Fr w w1 S) {p : Addr} (hp : S p.block ∨ w.heap.size ≤ p.block) (u : Value) : Fr w (w1.setCell p u) S :=
  h.trans (S2 := fun k => k = p.block) ⟨rfl, rfl, rfl, by simp [World.setCell], fun i _ hn => Below.heap_setCell w1 p u i hn⟩ (fun k hk => by rw [hk]; exact hp)
theorem Fr.grown (h : Fr w w1 S) {row : Option Nat} (hg : w1.grownBy w2 row) (hr : ∀ k, row = some k → S k ∨ w.heap.size ≤ k) : Fr w w2 S :=
  h.trans (S2 := fun k => row = some k) ⟨hg.os, hg.tape, hg.output, hg.size, fun i hi hn => hg.block i hi (fun he => hn he.symm)⟩ hr
/-- What lies from B on alone was written: below B all is as it was. -/
theorem Fr.to_below (h : Fr w w1 S) {B : Nat} (hB : B ≤ w.heap.size) (hS : ∀ k, S k → B ≤ k) : Below B w w1 :=
  ⟨h.os, h.tape, h.output, h.size, fun i hi => h.block i (by omega) (fun hk => by have := hS i hk; omega)⟩
theorem Fr.blk {g : Nat} {o : Obj} (h : Fr w w1 S) (hb : w.heap[g]? = some o) (hne : ¬ S g) : w1.heap[g]? = some o := (h.block g (blk_lt hb) hne).trans hb
theorem Fr.cell {a : Addr} {v : Value} (h : Fr w w1 S) (hc : w.cell? a = some v) (hne : ¬ S a.block) : w1.cell? a = some v := by
  have := h.block a.block (World.block_lt_of_cell? w a hc) hne
  simpa [World.cell?, this] using hc
theorem Fr.kept (h : Fr w w1 S) : Kept w w1 S := ⟨h.size, h.block⟩
theorem Fr.rowQ {α : Type} {d : Kd α} {e base : Nat} {ok : Nat → Prop} {v : Value} {xs : List α} (h : Fr w w1 S) (hq : d.Q e w base ok v xs) (hne : ∀ k, ok k → ¬ S k) : d.Q e w1 base ok v xs := Kd.Q_kept hq h.kept hne
theorem Fr.rowR {α : Type} {d : Kd α} {e base : Nat} {ok : Nat → Prop} {v : Value} {xs : List α} (h : Fr w w1 S) (hq : d.R e w base ok v xs) (hne : ∀ k, ok k → ¬ S k) : d.R e w1 base ok v xs := Kd.R_kept hq h.kept hne
end

theorem Q_shape {α : Type} {d : Kd α} {e : Nat} {w : World} {base : Nat} {ok : Nat → Prop} {v : Value} {xs : List α} (h : d.Q e w base ok v xs) : ∃ A n c, v = .slice A n c := by
  obtain ⟨A, c, e, _⟩ := Kd.Q_reads h
  exact ⟨A, _, c, e⟩
theorem R_shape {α : Type} {d : Kd α} {e : Nat} {w : World} {base : Nat} {ok : Nat → Prop} {v : Value} {xs : List α} (h : d.R e w base ok v xs) : ∃ A n c, v = .slice A n c := by
  obtain ⟨A, c, e, _⟩ := Kd.R_reads h
  exact ⟨A, _, c, e⟩

section
variable {P : Program} {o : Oper} {a : Act} {Q' : Exit → Act → World → Prop} {Kc : Act → World → Prop} {α : Type}
/-- append(v, x) of one element, as one step of a region that draws its order: behind 'rw [if_pos ..]'. -/
theorem Q_append_wp (d : Kd α) {w0 W : World} (base : Nat) (s x : Operand) (t e : TypeId) (z : Value) (bytes : Nat)
    (ho : o.op = .call { callee := .builtin .append, args := #[s, x], argTypes := #[t, t] })
    (ht : P.underlying t = some (.slice e)) (hinfo : (P.info? e).map (fun i => (i.zero, i.size, i.bytes)) = some (some z, d.sz, bytes)) (hz : z.cells.size = d.sz) (hs0 : 0 < d.sz) (hb0 : 0 < bytes)
    (v : Value) (xs : List α) (p : α) (cs : List Value) (ok okp : Nat → Prop) (hs : a.eval s = v) (hx : a.eval x = .slice (some ⟨W.heap.size, 0, none⟩) 1 1) (hp : d.M W base okp p cs) (hokp : ∀ k, okp k → ok k ∧ some k ≠ v.ownBlock) (hfresh : ∀ k, W.heap.size ≤ k → ok k)
    (HO : d.Q e W base ok v xs) (HB : Below base w0 W) (hbase : base ≤ W.heap.size) (hl : (xs.length + 1) * bytes ≤ 140737488355328)
    (h : ∀ v1 w1, d.Q e w1 base ok v1 (xs ++ [p]) → Below base w0 w1 → W.grownBy w1 v.ownBlock → (v1.ownBlock = v.ownBlock ∨ ∃ b, v1.ownBlock = some b ∧ W.heap.size ≤ b) → Kc (a.put o.dst v1) w1) :
    Oper.wp P o a (W.alloc (.cells cs.toArray e)) Kc Q' := by
  obtain ⟨v1, w1, hr, h1, h2, h3, h4⟩ := Kd.Q_run (P := P) d base t o.type e z bytes ht hinfo hz hs0 hb0 v xs p cs ok okp hp hokp hfresh HO HB hbase hl
  unfold Oper.wp execOp
  simp only [ho, resolve, invoke, builtin, Sem.run_bind, Sem.run_pure, Result.andThen_ok, List.map_toArray, List.map_cons, List.map_nil, hs, hx, hr]
  exact h v1 w1 h1 h2 h3 h4
end

/-- Where a row of whole numbers lies. -/
theorem C_int_lit {k : IntKind} {w : World} {A : Option Addr} {n : Nat} {xs : List Int} (h : Kd.C (Kd.int k) w A n xs) (hn : 0 < n) : ∃ b o, A = some ⟨b, o, none⟩ ∧ b < w.heap.size ∧ ∀ j, j < n → w.cell? ⟨b, o + j, none⟩ = some (.int k (xs.getD j 0)) := by
  have h2 := h
  obtain ⟨hl, _, hc⟩ := h2
  obtain ⟨ad, rfl, _⟩ := hc hn
  have hcell : ∀ j, j < n → w.cell? (ad.add j) = some (.int k (xs.getD j 0)) := by
    intro j hj
    obtain ⟨ad', c, e, _, hK, hcc⟩ := Kd.C_get h 0 j (by omega) (by omega)
    cases e
    have hK' : c = [.int k (xs.getD (j : Int).toNat 0)] := hK
    subst hK'
    have := hcc 0 _ rfl
    rw [Int.toNat_natCast, show (Kd.int k).sz = 1 from rfl, Nat.mul_one, Nat.add_zero] at this
    exact this
  obtain ⟨b, o, s⟩ := ad
  have h0 := hcell 0 hn
  have hs : s = none := by
    cases s with
    | none => rfl
    | some s =>
      exfalso
      unfold Addr.add at h0
      simp [World.cell?] at h0
      split at h0 <;> simp at h0
  subst hs
  refine ⟨b, o, rfl, ?_, fun j hj => ?_⟩
  · have := World.block_lt_of_cell? w _ h0
    rwa [add_block] at this
  · have := hcell j hj
    rwa [add_at] at this

end Go.Proofs.Ytlbiodghappdcaa.Bs
