/- What the program's num package computes (lay, own, Put, PutText, Get, GetText), by the bytes of numbers. Conditions: the lengths that its callers keep. -/
import Derived.Test.YtlbiodghappdcaaHNumP
import Derived.Test.YtlbiodghappdcaaLf35
import Derived.Test.YtlbiodghappdcaaLf31
import Derived.Test.YtlbiodghappdcaaLf32
import Derived.Test.YtlbiodghappdcaaLf36
import Derived.Test.YtlbiodghappdcaaLf33
import Derived.Test.YtlbiodghappdcaaLf34
set_option linter.unusedVariables false
namespace Go.Proofs.Ytlbiodghappdcaa.L
open Go.RowKit Go.Proofs.YtlbiodghappdcaaW.PrintWords Go.Proofs.YtlbiodghappdcaaW.PrintLast Go.Proofs.YtlbiodghappdcaaW.PrintMore Go.Proofs.Ytlbiodghappdcaa.Bs

theorem lay_ev (d : Nat) : ∀ (k n : Nat) (acc : List Int), n < 128 ^ (d + 1) → n < 18446744073709551616 → d < k → acc.length + d < 140737488355328 → num_lay.l0 k acc (n : Int) = some (acc ++ putB n) := by
  induction d with
  | zero =>
    intro k n acc h1 _ hk hl
    obtain ⟨k, rfl⟩ : ∃ m, k = m + 1 := ⟨k - 1, by omega⟩
    simp only [num_lay.l0]
    rw [if_neg (by omega), if_pos (by omega), putB_small (by omega)]
    rw [show (n : Int) % 256 = (n : Int) by omega]
  | succ d ih =>
    intro k n acc h1 h2 hk hl
    obtain ⟨k, rfl⟩ : ∃ m, k = m + 1 := ⟨k - 1, by omega⟩
    simp only [num_lay.l0]
    by_cases hn : n < 128
    · rw [if_neg (by omega), if_pos (by omega), putB_small hn]
      rw [show (n : Int) % 256 = (n : Int) by omega]
    · rw [if_pos (by omega), if_pos (by omega), putB_big (by omega)]
      have e : (n : Int) % 256 = ((n % 256 : Nat) : Int) := by omega
      have e2 : (n : Int) / 128 = ((n / 128 : Nat) : Int) := by omega
      rw [e, or128 _ (by omega), e2, ih k (n / 128) _ (by rw [Nat.pow_succ] at h1; omega) (by omega) (by omega) (by rw [List.length_append, List.length_singleton]; omega)]
      rw [List.append_assoc, show (n % 256 % 128 + 128) = n % 128 + 128 by omega]
      rfl
theorem lay_some (n : Nat) (acc : List Int) (h : n < 18446744073709551616) (hl : acc.length < 140737488355000) : num_lay.f 10 acc (n : Int) = some (acc ++ putB n) := by
  unfold num_lay.f
  exact lay_ev 9 10 n acc (by omega) h (by omega) (by omega)
theorem own_some (l : List Int) (hl : l.length < 140737488355328) : num_own.f l = some l := by
  unfold num_own.f
  simp only [Option.bind_some, List.length_nil, List.nil_append]
  rw [if_pos (by omega)]
theorem put_some (n : Nat) (l : List Int) (h : n < 18446744073709551616) (hl : l.length < 140737488355000) : num_Put.f 10 l (n : Int) = some (l ++ putB n) := by
  unfold num_Put.f
  rw [own_some l (by omega), Option.bind_some, lay_some n l h hl]
  rfl
theorem puttext_some (l : List Int) (s : ByteArray) (hl : l.length + s.size < 140737488355000) : num_PutText.f 10 l s = some (l ++ putB s.size ++ bytesOf s) := by
  unfold num_PutText.f
  rw [own_some l (by omega), Option.bind_some, wrap_u64 _ (by omega) (by omega), lay_some s.size l (by omega) (by omega), Option.bind_some]
  rw [if_pos (by rw [List.length_append]; have := putB_len10 (n := s.size) (by omega); omega)]

/-- What reading a number answers: its value and the place behind it where its bytes stand there; else none. -/
def GotN (l : List Int) (at_ : Nat) (i : Nat) (acc : Nat) (res : Int × Int × Int) : Prop :=
  (∃ n r, n < 2 ^ (64 - 7 * i) ∧ (0 < i → 0 < n) ∧ l.drop (at_ + i) = putB n ++ r ∧ res = (((acc + n * 2 ^ (7 * i) : Nat) : Int), ((at_ + i + (putB n).length : Nat) : Int), 0)) ∨
  ((∀ n r, n < 2 ^ (64 - 7 * i) → (0 < i → 0 < n) → l.drop (at_ + i) ≠ putB n ++ r) ∧ ∃ c, c ≠ 0 ∧ res = (0, 0, c))

theorem pow_step (i : Nat) (h : i ≤ 8) : (2 : Nat) ^ (64 - 7 * i) = 128 * 2 ^ (64 - 7 * (i + 1)) := by
  have e : 64 - 7 * i = 7 + (64 - 7 * (i + 1)) := by omega
  rw [e, Nat.pow_add]
theorem pow_split (i : Nat) (h : i ≤ 9) : (2 : Nat) ^ (64 - 7 * i) * 2 ^ (7 * i) = 18446744073709551616 := by
  rw [← Nat.pow_add, show 64 - 7 * i + 7 * i = 64 by omega]
theorem pow_8 (i : Nat) (h : i ≤ 8) : 256 ≤ (2 : Nat) ^ (64 - 7 * i) := by
  have : (2 : Nat) ^ 8 ≤ 2 ^ (64 - 7 * i) := Nat.pow_le_pow_right (by omega) (by omega)
  omega

theorem bt_cases (l : List Int) (hb : ∀ x ∈ l, 0 ≤ x ∧ x < 256) (j : Nat) (hj : j < l.length) : ∃ x : Nat, x < 256 ∧ rd l (j : Int) = (x : Int) ∧ l.drop j = (x : Int) :: l.drop (j + 1) := by
  have h := hb _ (List.getElem_mem hj)
  refine ⟨l[j].toNat, by omega, ?_, ?_⟩
  · unfold rd
    rw [Int.toNat_natCast, List.getD_eq_getElem?_getD, List.getElem?_eq_getElem hj]
    show l[j] = _
    omega
  · rw [List.drop_eq_getElem_cons hj]
    congr 1
    omega

theorem mul_lt_of (i x : Nat) (hi : i ≤ 9) (h : x < 2 ^ (64 - 7 * i)) : x * 2 ^ (7 * i) < 18446744073709551616 := by
  have e := pow_split i hi
  have h2 := (Nat.mul_lt_mul_right (Nat.two_pow_pos (7 * i))).2 h
  rw [e] at h2
  exact h2
theorem acc_next (i acc y : Nat) (h : acc < 2 ^ (7 * i)) (hy : y ≤ 127) : acc + y * 2 ^ (7 * i) < 2 ^ (7 * (i + 1)) := by
  have e : (2 : Nat) ^ (7 * (i + 1)) = 128 * 2 ^ (7 * i) := by rw [show 7 * (i + 1) = 7 + 7 * i from by omega, Nat.pow_add]
  have h4 : y * 2 ^ (7 * i) ≤ 127 * 2 ^ (7 * i) := Nat.mul_le_mul_right _ hy
  rw [e]
  generalize (2 : Nat) ^ (7 * i) = p at h h4 ⊢
  generalize y * p = z at h4 ⊢
  omega
theorem acc_lt (i acc : Nat) (hi : i ≤ 9) (h : acc < 2 ^ (7 * i)) : acc < 18446744073709551616 := by
  have h1 : (2 : Nat) ^ (7 * i) ≤ 2 ^ 64 := Nat.pow_le_pow_right (by omega) (by omega)
  have h2 : (2 : Nat) ^ 64 = 18446744073709551616 := by decide
  rw [h2] at h1
  exact Nat.lt_of_lt_of_le h h1
theorem val_step (i acc y n : Nat) : acc + y * 2 ^ (7 * i) + n * 2 ^ (7 * (i + 1)) = acc + (y + 128 * n) * 2 ^ (7 * i) := by
  rw [show 7 * (i + 1) = 7 + 7 * i from by omega, Nat.pow_add, Nat.add_mul, show (2 : Nat) ^ 7 = 128 from by decide, ← Nat.mul_assoc, Nat.mul_comm n 128, Nat.add_assoc]
theorem lt_step (i y n : Nat) (hi : i ≤ 8) (hy : y ≤ 127) (h : n < 2 ^ (64 - 7 * (i + 1))) : y + 128 * n < 2 ^ (64 - 7 * i) := by
  rw [pow_step i hi]
  generalize (2 : Nat) ^ (64 - 7 * (i + 1)) = p at h ⊢
  omega
theorem lt_back (i n : Nat) (hi : i ≤ 8) (h : n < 2 ^ (64 - 7 * i)) : n / 128 < 2 ^ (64 - 7 * (i + 1)) := by
  rw [pow_step i hi] at h
  generalize (2 : Nat) ^ (64 - 7 * (i + 1)) = p at h ⊢
  omega
theorem lt_pow8 (i x : Nat) (hi : i ≤ 8) (hx : x < 256) : x < 2 ^ (64 - 7 * i) := Nat.lt_of_lt_of_le hx (pow_8 i hi)
/-- What stands at the head, if a number does. -/
theorem first_byte (l : List Int) (j x : Nat) (hx : x < 256) (hdr : l.drop j = (x : Int) :: l.drop (j + 1)) (n : Nat) (r : List Int) (he : l.drop j = putB n ++ r) :
    (n < 128 ∧ x = n ∧ l.drop (j + 1) = r) ∨ (128 ≤ n ∧ x = n % 128 + 128 ∧ l.drop (j + 1) = putB (n / 128) ++ r) := by
  rw [hdr] at he
  by_cases hn : n < 128
  · rw [putB_small hn] at he
    simp only [List.cons_append, List.nil_append, List.cons.injEq] at he
    exact .inl ⟨hn, by omega, he.2⟩
  · rw [putB_big (by omega)] at he
    simp only [List.cons_append, List.cons.injEq] at he
    exact .inr ⟨by omega, by omega, he.2⟩
theorem got_good (l : List Int) (at_ i acc x : Nat) (hi : i ≤ 9) (hacc : acc < 2 ^ (7 * i)) (hs : x < 128) (hdr : l.drop (at_ + i) = (x : Int) :: l.drop (at_ + i + 1)) (h1 : x < 2 ^ (64 - 7 * i)) (h2 : 0 < i → 0 < x) :
    GotN l at_ i acc (Go.bits .or .u64 (acc : Int) (shl .u64 (IntKind.u64.wrap (x : Int)) ((7 * i : Nat) : Int)), ((at_ + i + 1 : Nat) : Int), 0) := by
  have h3 := mul_lt_of i x hi h1
  have ewx : IntKind.u64.wrap (x : Int) = (x : Int) := wrap_u64 _ (Int.natCast_nonneg _) (by clear h1 h3 hacc; omega)
  have h64 : 7 * i ≤ 64 := by clear h1 h3 hacc; omega
  rw [ewx, shl_u64 x (7 * i) h64 h3, or_join (7 * i) acc x hacc h3 (acc_lt i acc hi hacc)]
  exact .inl ⟨x, l.drop (at_ + i + 1), h1, h2, by rw [hdr, putB_small hs]; rfl, by rw [putB_small hs]; rfl⟩
theorem got_bad (l : List Int) (at_ i acc x : Nat) (hx : x < 128) (hdr : l.drop (at_ + i) = (x : Int) :: l.drop (at_ + i + 1)) (h : x < 2 ^ (64 - 7 * i) → ¬ (0 < i → 0 < x)) : GotN l at_ i acc (0, 0, 4) := by
  refine .inr ⟨fun n r h1 h2 he => ?_, 4, by decide, rfl⟩
  rcases first_byte l _ x (by clear h h1; omega) hdr n r he with ⟨h3, h4, _⟩ | ⟨_, h4, _⟩
  · subst h4
    exact h h1 h2
  · clear h h1
    omega
theorem got_more (l : List Int) (at_ i acc x : Nat) (hi : i ≤ 8) (h128 : 128 ≤ x) (hx : x < 256) (hdr : l.drop (at_ + i) = (x : Int) :: l.drop (at_ + i + 1)) (res : Int × Int × Int)
    (hgot : GotN l at_ (i + 1) (acc + (x - 128) * 2 ^ (7 * i)) res) : GotN l at_ i acc res := by
  rcases hgot with ⟨n, r, h4, h5, h6, h7⟩ | ⟨h4, c, h5, h6⟩
  · have h8 := h5 (Nat.succ_pos i)
    have e1 : (x - 128 + 128 * n) / 128 = n := by clear h4 h7; omega
    have e2 : (x - 128 + 128 * n) % 128 + 128 = x := by clear h4 h7; omega
    have e3 : 128 ≤ x - 128 + 128 * n := by clear h4 h7; omega
    refine .inl ⟨x - 128 + 128 * n, r, lt_step i (x - 128) n hi (by clear h4 h7; omega) h4, fun _ => by clear h4 h7; omega, ?_, ?_⟩
    · rw [hdr, putB_big e3, e1, e2]
      rw [show at_ + i + 1 = at_ + (i + 1) from rfl, h6]
      rfl
    · rw [h7, putB_big e3, e1, List.length_cons, ← val_step]
      have e4 : at_ + (i + 1) + (putB n).length = at_ + i + ((putB n).length + 1) := by clear h4 h7; omega
      rw [e4]
  · refine .inr ⟨fun n r h1 h2 he => ?_, c, h5, h6⟩
    rcases first_byte l _ x hx hdr n r he with ⟨h7, h8, _⟩ | ⟨h7, h8, h9⟩
    · clear h1 h4 h6
      omega
    · exact h4 (n / 128) r (lt_back i n hi h1) (fun _ => by clear h1 h4 h6; omega) h9

theorem get_ev (l : List Int) (hb : ∀ x ∈ l, 0 ≤ x ∧ x < 256) (at_ : Nat) (hl : l.length < 4611686018427387904) (d : Nat) : ∀ (k i acc : Nat), i + d = 10 → at_ + i ≤ l.length → d < k → Aside0 (i ≤ 9 → acc < 2 ^ (7 * i)) →
    ∃ res, num_Get.l0 k l (at_ : Int) (acc : Int) (i : Int) = some res ∧ GotN l at_ i acc res := by
  induction d with
  | zero =>
    intro k i acc hi _ hk _
    obtain ⟨k, rfl⟩ : ∃ m, k = m + 1 := ⟨k - 1, by omega⟩
    refine ⟨(0, 0, 4), ?_, .inr ⟨fun n r hn hp => ?_, 4, by decide, rfl⟩⟩
    · simp only [num_Get.l0]
      rw [if_neg (show ¬ (i : Int) < 10 from by omega)]
    · have : i = 10 := by clear hn; omega
      subst this
      have h0 := hp (by decide)
      have e : (2 : Nat) ^ (64 - 7 * 10) = 1 := by decide
      rw [e] at hn
      omega
  | succ d ih =>
    intro k i acc hi hat hk hacc
    obtain ⟨k, rfl⟩ : ∃ m, k = m + 1 := ⟨k - 1, by omega⟩
    have hi9 : i ≤ 9 := by omega
    have ew : wrap64 ((at_ : Int) + (i : Int)) = ((at_ + i : Nat) : Int) := by rw [wrap64_id _ (by omega) (by omega)]; omega
    have e7 : wrap64 (7 * (i : Int)) = ((7 * i : Nat) : Int) := by rw [wrap64_id _ (by omega) (by omega)]; omega
    have ei : wrap64 ((i : Int) + 1) = ((i + 1 : Nat) : Int) := by rw [wrap64_id _ (by omega) (by omega)]; omega
    have ej : wrap64 (((at_ + i : Nat) : Int) + 1) = ((at_ + i + 1 : Nat) : Int) := by rw [wrap64_id _ (by omega) (by omega)]; omega
    have c10 : (i : Int) < 10 := by omega
    have c0 : (0 : Int) ≤ ((at_ + i : Nat) : Int) := by omega
    have c7 : (0 : Int) ≤ ((7 * i : Nat) : Int) := by omega
    simp only [num_Get.l0, ew, e7, ei, ej]
    rw [if_pos c10]
    by_cases hend : at_ + i = l.length
    · rw [if_pos (show ((at_ + i : Nat) : Int) = (l.length : Int) from by omega)]
      refine ⟨_, rfl, .inr ⟨fun n r _ _ he => ?_, 3, by decide, rfl⟩⟩
      rw [List.drop_eq_nil_of_le (by omega)] at he
      have h1 := putB_pos n
      have h2 := congrArg List.length he
      rw [List.length_append, List.length_nil] at h2
      omega
    · rw [if_neg (show ¬ ((at_ + i : Nat) : Int) = (l.length : Int) from by omega), if_pos c0, if_pos (show ((at_ + i : Nat) : Int) < (l.length : Int) from by omega)]
      obtain ⟨x, hx, hrd, hdr⟩ := bt_cases l hb (at_ + i) (by omega)
      rw [hrd]
      by_cases hs : x < 128
      · rw [if_pos (show (x : Int) < 128 from by omega)]
        by_cases h0 : x = 0
        · rw [if_pos (show (x : Int) = 0 from by omega)]
          by_cases hi0 : 0 < i
          · rw [if_pos (show (i : Int) > 0 from by omega)]
            exact ⟨_, rfl, got_bad l at_ i acc x hs hdr (fun _ h => by have := h hi0; omega)⟩
          · rw [if_neg (show ¬ (i : Int) > 0 from by omega), if_neg (show ¬ (i : Int) = 9 from by omega), if_pos c7]
            exact ⟨_, rfl, got_good l at_ i acc x hi9 (hacc.out hi9) hs hdr (lt_pow8 i x (by omega) hx) (fun h => absurd h hi0)⟩
        · rw [if_neg (show ¬ (x : Int) = 0 from by omega)]
          by_cases h9 : i = 9
          · rw [if_pos (show (i : Int) = 9 from by omega)]
            have e9 : (2 : Nat) ^ (64 - 7 * i) = 2 := by subst h9; decide
            by_cases h1 : x > 1
            · rw [if_pos (show (x : Int) > 1 from by omega)]
              exact ⟨_, rfl, got_bad l at_ i acc x hs hdr (fun h => by rw [e9] at h; omega)⟩
            · rw [if_neg (show ¬ (x : Int) > 1 from by omega), if_pos c7]
              exact ⟨_, rfl, got_good l at_ i acc x hi9 (hacc.out hi9) hs hdr (by rw [e9]; omega) (fun _ => by omega)⟩
          · rw [if_neg (show ¬ (i : Int) = 9 from by omega), if_pos c7]
            exact ⟨_, rfl, got_good l at_ i acc x hi9 (hacc.out hi9) hs hdr (lt_pow8 i x (by omega) hx) (fun _ => by omega)⟩
      · rw [if_neg (show ¬ (x : Int) < 128 from by omega), if_pos c7, and127 x (by omega) hx]
        have ewx : IntKind.u64.wrap ((x - 128 : Nat) : Int) = ((x - 128 : Nat) : Int) := wrap_u64 _ (by omega) (by omega)
        rw [ewx]
        by_cases h9 : i = 9
        · obtain ⟨k, rfl⟩ : ∃ m, k = m + 1 := ⟨k - 1, by omega⟩
          refine ⟨(0, 0, 4), ?_, .inr ⟨fun n r h1 h2 he => ?_, 4, by decide, rfl⟩⟩
          · simp only [num_Get.l0]
            rw [if_neg (show ¬ ((i + 1 : Nat) : Int) < 10 from by omega)]
          · have e9 : (2 : Nat) ^ (64 - 7 * i) = 2 := by subst h9; decide
            rw [e9] at h1
            rcases first_byte l _ x hx hdr n r he with ⟨h3, h4, _⟩ | ⟨h3, h4, _⟩ <;> omega
        · have hi8 : i ≤ 8 := by omega
          have hy : x - 128 ≤ 127 := by omega
          have h64 : 7 * i ≤ 64 := by omega
          have hA := hacc.out hi9
          rw [shl_u64 (x - 128) (7 * i) h64 (mul_lt_of i (x - 128) hi9 (lt_pow8 i (x - 128) hi8 (Nat.lt_of_le_of_lt (Nat.sub_le _ _) hx))), or_join (7 * i) acc (x - 128) hA (mul_lt_of i (x - 128) hi9 (lt_pow8 i (x - 128) hi8 (Nat.lt_of_le_of_lt (Nat.sub_le _ _) hx))) (acc_lt i acc hi9 hA)]
          have hnext := Aside0.mk (acc_next i acc (x - 128) hA hy)
          clear hA
          obtain ⟨res, hres, hgot⟩ := ih k (i + 1) (acc + (x - 128) * 2 ^ (7 * i)) (by omega) (by omega) (by omega) ⟨fun _ => hnext.out⟩
          exact ⟨res, hres, got_more l at_ i acc x hi8 (by omega) hx hdr res hgot⟩

/-- What reading a number answers. -/
def Got (l : List Int) (at_ : Nat) (res : Int × Int × Int) : Prop :=
  (∃ (n : Nat) (r : List Int), n < 18446744073709551616 ∧ l.drop at_ = putB n ++ r ∧ res = ((n : Int), ((at_ + (putB n).length : Nat) : Int), 0)) ∨
  ((∀ (n : Nat) (r : List Int), n < 18446744073709551616 → l.drop at_ ≠ putB n ++ r) ∧ ∃ c, c ≠ 0 ∧ res = (0, 0, c))
theorem get_some (l : List Int) (hb : ∀ x ∈ l, 0 ≤ x ∧ x < 256) (at_ : Nat) (hl : l.length < 4611686018427387904) (hat : at_ ≤ l.length) : ∃ res, num_Get.f 12 l (at_ : Int) = some res ∧ Got l at_ res := by
  obtain ⟨res, hres, hgot⟩ := get_ev l hb at_ hl 10 11 0 0 rfl (by omega) (by omega) ⟨fun _ => by decide⟩
  refine ⟨res, ?_, ?_⟩
  · unfold num_Get.f
    rw [if_neg (by omega), show decide ((at_ : Int) > (l.length : Int)) = false from decide_eq_false (by omega)]
    simp only [num_Get.j0]
    rw [if_neg (by simp)]
    exact hres
  · have e : (2 : Nat) ^ (64 - 7 * 0) = 18446744073709551616 := by decide
    rcases hgot with ⟨n, r, h1, h2, h3, h4⟩ | ⟨h1, c, h2, h3⟩
    · refine .inl ⟨n, r, by rw [e] at h1; exact h1, h3, ?_⟩
      rw [h4]
      simp
    · exact .inr ⟨fun n r hn => h1 n r (by rw [e]; exact hn) (fun h => absurd h (by omega)), c, h2, h3⟩

/-- What reading a text answers. -/
def GotT (l : List Int) (at_ most : Nat) (res : ByteArray × Int × Int) : Prop :=
  (∃ (t : ByteArray) (r : List Int), t.size ≤ most ∧ l.drop at_ = putB t.size ++ bytesOf t ++ r ∧ res = (t, ((at_ + (putB t.size).length + t.size : Nat) : Int), 0)) ∨
  ((∀ (t : ByteArray) (r : List Int), t.size ≤ most → l.drop at_ ≠ putB t.size ++ bytesOf t ++ r) ∧ ∃ c, c ≠ 0 ∧ res = ((⟨#[]⟩ : ByteArray), 0, c))
theorem bytesOf_str (l : List Int) (hb : ∀ x ∈ l, 0 ≤ x ∧ x < 256) : bytesOf (strOfNums l) = l := by
  unfold bytesOf
  rw [strOfNums_data, List.map_map]
  apply List.ext_getElem
  · simp
  · intro i h1 h2
    have := hb _ (List.getElem_mem h2)
    simp only [List.getElem_map, Function.comp]
    show ((UInt8.ofNat l[i].toNat).toNat : Int) = l[i]
    rw [UInt8.toNat_ofNat']
    omega
theorem str_bytesOf (s : ByteArray) : strOfNums (bytesOf s) = s := by
  unfold strOfNums bytesOf
  rw [List.map_map]
  have : (s.data.toList.map ((fun n : Int => UInt8.ofNat n.toNat) ∘ fun b : UInt8 => (b.toNat : Int))) = s.data.toList := by
    apply List.ext_getElem
    · simp
    · intro i h1 h2
      simp
  rw [this]
theorem bytesOf_length (s : ByteArray) : (bytesOf s).length = s.size := by
  show (s.data.toList.map _).length = s.data.size
  rw [List.length_map, Array.length_toList]
theorem bytesOf_byte (s : ByteArray) : ∀ x ∈ bytesOf s, 0 ≤ x ∧ x < 256 := by
  intro x hx
  unfold bytesOf at hx
  obtain ⟨b, _, rfl⟩ := List.mem_map.1 hx
  have := b.toNat_lt
  omega
theorem gettext_some (l : List Int) (hb : ∀ x ∈ l, 0 ≤ x ∧ x < 256) (at_ most : Nat) (hl : l.length < 4611686018427387904) (hat : at_ ≤ l.length) (hm : most < 4611686018427387904) :
    ∃ res, num_GetText.f 12 l (at_ : Int) (most : Int) = some res ∧ GotT l at_ most res := by
  obtain ⟨res, hres, hgot⟩ := get_some l hb at_ hl hat
  have emx : IntKind.u64.wrap (mx (most : Int) 0) = (most : Int) := by
    unfold mx
    rw [if_neg (by omega), wrap_u64 _ (by omega) (by omega)]
  unfold num_GetText.f
  rw [hres, Option.bind_some, emx]
  rcases hgot with ⟨n, r, h1, h2, rfl⟩ | ⟨h1, c, h2, rfl⟩
  · have hlen : at_ + (putB n).length + r.length = l.length := by
      have := congrArg List.length h2
      rw [List.length_drop, List.length_append] at this
      have := putB_pos n
      omega
    simp only
    rw [if_pos trivial]
    -- a text that stands there has n bytes
    have only : ∀ (t : ByteArray) (r' : List Int), l.drop at_ = putB t.size ++ bytesOf t ++ r' → t.size < 18446744073709551616 → t.size = n ∧ r = bytesOf t ++ r' := by
      intro t r' he hs
      rw [h2, List.append_assoc] at he
      obtain ⟨h3, h4⟩ := putB_one n t.size r _ he
      exact ⟨h3.symm, h4⟩
    by_cases hm1 : most < n
    · rw [if_pos (by omega)]
      exact ⟨_, rfl, .inr ⟨fun t r' ht he => by have := only t r' he (by omega); omega, 2, by decide, rfl⟩⟩
    · rw [if_neg (by omega)]
      have e3 : IntKind.u64.wrap (wrap64 ((l.length : Int) - ((at_ + (putB n).length : Nat) : Int))) = (r.length : Int) := by
        rw [wrap64_id _ (by omega) (by omega), wrap_u64 _ (by omega) (by omega)]
        omega
      rw [e3]
      by_cases hr : r.length < n
      · rw [if_pos (by omega)]
        refine ⟨_, rfl, .inr ⟨fun t r' ht he => ?_, 3, by decide, rfl⟩⟩
        obtain ⟨h3, h4⟩ := only t r' he (by omega)
        have := congrArg List.length h4
        rw [List.length_append, bytesOf_length] at this
        omega
      · rw [if_neg (by omega), if_pos (by omega)]
        have e4 : wrap64 (((at_ + (putB n).length : Nat) : Int) + wrap64 (n : Int)) = ((at_ + (putB n).length + n : Nat) : Int) := by
          rw [wrap64_id (n : Int) (by omega) (by omega), wrap64_id _ (by omega) (by omega)]
          omega
        rw [e4, if_pos (by omega), if_pos (by omega)]
        have hseg : (l.take (((at_ + (putB n).length + n : Nat) : Int)).toNat).drop (((at_ + (putB n).length : Nat) : Int)).toNat = r.take n := by
          rw [Int.toNat_natCast, Int.toNat_natCast, List.drop_take]
          have : l.drop (at_ + (putB n).length) = r := by
            rw [← List.drop_drop, h2, List.drop_left]
          rw [this]
          congr 1
          omega
        rw [hseg]
        have hbr : ∀ x ∈ r.take n, 0 ≤ x ∧ x < 256 := fun x hx => hb x (List.mem_of_mem_drop (i := at_) (by rw [h2]; exact List.mem_append_right _ (List.mem_of_mem_take hx)))
        have hsz : (strOfNums (r.take n)).size = n := by rw [strOfNums_size, List.length_take]; omega
        refine ⟨_, rfl, .inl ⟨strOfNums (r.take n), r.drop n, by omega, ?_, by rw [hsz]⟩⟩
        rw [hsz, bytesOf_str _ hbr, h2, List.append_assoc, List.take_append_drop]
  · simp only
    rw [if_neg h2]
    exact ⟨_, rfl, .inr ⟨fun t r' ht he => h1 t.size (bytesOf t ++ r') (by omega) (by rw [he, List.append_assoc]), c, h2, rfl⟩⟩

theorem strOfNums_append (a b : List Int) : strOfNums (a ++ b) = strOfNums a ++ strOfNums b := by
  apply ByteArray.ext
  simp [strOfNums]
theorem refput_ev (d : Nat) : ∀ (k n : Nat), n < 128 ^ (d + 1) → n < 18446744073709551616 → d < k → d < 20 → strongroomref01_Put.f k (n : Int) = some (strOfNums (putB n)) := by
  induction d with
  | zero =>
    intro k n h1 _ hk _
    obtain ⟨k, rfl⟩ : ∃ m, k = m + 1 := ⟨k - 1, by omega⟩
    simp only [strongroomref01_Put.f]
    rw [if_pos (by omega), putB_small (by omega), show (n : Int) % 256 = (n : Int) by omega]
  | succ d ih =>
    intro k n h1 h2 hk hd
    obtain ⟨k, rfl⟩ : ∃ m, k = m + 1 := ⟨k - 1, by omega⟩
    simp only [strongroomref01_Put.f]
    by_cases hn : n < 128
    · rw [if_pos (by omega), putB_small hn, show (n : Int) % 256 = (n : Int) by omega]
    · rw [if_neg (by omega), Option.bind_some]
      have e1 : IntKind.u64.wrap (Int.tmod (n : Int) 128 + 128) % 256 = ((n % 128 + 128 : Nat) : Int) := by
        rw [Int.tmod_eq_emod_of_nonneg (by omega), wrap_u64 _ (by omega) (by omega)]
        omega
      have e2 : IntKind.u64.wrap (Int.tdiv (n : Int) 128) = ((n / 128 : Nat) : Int) := by
        rw [Int.tdiv_eq_ediv_of_nonneg (by omega), wrap_u64 _ (by omega) (by omega)]
        omega
      rw [e1, e2, ih k (n / 128) (by rw [Nat.pow_succ] at h1; omega) (by omega) (by omega) (by omega), Option.bind_some]
      have := putB_len10 (n := n / 128) (by omega)
      rw [if_pos (by rw [strOfNums_size, strOfNums_size, List.length_singleton]; omega), ← strOfNums_append, putB_big (n := n) (by omega)]
      rfl
theorem refput_some (n : Nat) (h : n < 18446744073709551616) : strongroomref01_Put.f 10 (n : Int) = some (strOfNums (putB n)) := refput_ev 9 10 n (by omega) h (by omega) (by omega)
theorem reftext_some (s : ByteArray) (h : s.size < 140737488355328) : strongroomref01_Text.f 10 s = some (strOfNums (putB s.size) ++ s) := by
  unfold strongroomref01_Text.f
  rw [wrap_u64 _ (by omega) (by omega), refput_some s.size (by omega), Option.bind_some]
  have := putB_len10 (n := s.size) (by omega)
  rw [if_pos (by rw [strOfNums_size]; omega)]

end Go.Proofs.Ytlbiodghappdcaa.L
