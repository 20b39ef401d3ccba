/- FnAngles returns true for every byte slice; no condition. -/
import Derived.Test.YtolepbdmbedloadWSized
import Derived.Laws.Bits128
import Derived.Test.YtolepbdmbedloadHFnAnglesx3
namespace Go.Proofs.Ytolepbdmbedload.PrintWords
/-- The name by which the printed row calls it. -/
theorem sized_ints {H : Type} {enc : TypeId × Value → H} {P : Program} {W : World} {base : Nat} {spare : Nat → Bool} {held : Bool} {t e : TypeId} {k : IntKind} {a : Option Addr} {len cap : Nat} {d : DataW H} {ps : List MemPlace} {ts : List TypeId} {ds : List (DataW H)} {j : Nat}
    (hsz : (DataW.weightsEach P ts ds).all (· ≤ reachBytes) = true) (ht : ts[j]? = some t) (hd : ds[j]? = some d) (hu : P.underlying t = some (.slice e)) (he : P.underlying e = some (.int k)) (hc : P.cellsOf e = 1) {B : Nat} (hB : P.bytesOf e = B)
    (h : DataW.Trod enc P W base spare held t (.slice a len cap) d ps) : len * B ≤ 140737488351232 := Go.Proofs.YtolepbdmbedloadW.PrintWords.sized_ints hsz ht hd hu he hc hB h
end Go.Proofs.Ytolepbdmbedload.PrintWords
namespace Go.Proofs.Ytolepbdmbedload.Pure
open Go.RowKit Go.Proofs.Ytolepbdmbedload.PFnAngles Go.Proofs.YtolepbdmbedloadW.PrintWords Go.Proofs.YtolepbdmbedloadW.PrintLast
set_option linter.unusedVariables false
set_option linter.unusedSimpArgs false

theorem u_w64 {x : Int} (h1 : -9223372036854775808 ≤ x) (h2 : x ≤ 9223372036854775807) : wrap64 x = x := by unfold wrap64; omega
theorem u_tmod_add (p : Int) {q : Int} (hq : 0 < q) : (p.tmod q + q).tmod q = p % q := by
  have h1 := Int.tmod_lt_of_pos p hq
  have h2 : -q < p.tmod q := by
    rcases Int.le_total 0 p with h | h
    · have := Int.tmod_nonneg q h; omega
    · have h3 : (-p).tmod q = -(p.tmod q) := Int.neg_tmod _ _
      have h4 := Int.tmod_lt_of_pos (-p) hq
      omega
  rw [Int.tmod_eq_emod_of_nonneg (by omega), Int.add_emod_right]
  have := Int.tmod_eq_emod (a := p) (b := q)
  rw [this]
  split
  · simp
  · rw [Int.sub_emod]
    have : ((q.natAbs : Int)) % q = 0 := by
      have : (q.natAbs : Int) = q := by omega
      rw [this]; exact Int.emod_self
    rw [this]; simp
theorem u_tmod_fix (p : Int) {q : Int} (hq : 0 < q) : (if p.tmod q < 0 then p.tmod q + q else p.tmod q) = p % q := by
  have h1 := Int.tmod_lt_of_pos p hq
  have h2 : -q < p.tmod q := by
    rcases Int.le_total 0 p with h | h
    · have := Int.tmod_nonneg q h; omega
    · have h3 : (-p).tmod q = -(p.tmod q) := Int.neg_tmod _ _
      have h4 := Int.tmod_lt_of_pos (-p) hq
      omega
  have h3 := u_tmod_add p hq
  split
  · rw [Int.tmod_eq_emod_of_nonneg (by omega)] at h3
    rw [← h3, Int.emod_eq_of_lt (by omega) (by omega)]
  · rw [Int.tmod_eq_emod_of_nonneg (by omega), Int.add_emod_right, Int.emod_eq_of_lt (by omega) (by omega)] at h3
    exact h3
theorem u_tmod_bd (p : Int) {q : Int} (hq : 0 < q) : -q < p.tmod q ∧ p.tmod q < q := by
  have h1 := Int.tmod_lt_of_pos p hq
  refine ⟨?_, h1⟩
  rcases Int.le_total 0 p with h | h
  · have := Int.tmod_nonneg q h; omega
  · have h3 : (-p).tmod q = -(p.tmod q) := Int.neg_tmod _ _
    have h4 := Int.tmod_lt_of_pos (-p) hq
    omega
theorem u_imod (a : Int) {q : Int} (h1 : 1 ≤ q) (h2 : q ≤ 1000000000000) : impl_Mod.f a q = some (a % q) := by
  unfold impl_Mod.f impl_InRange.f
  have hb := u_tmod_bd a (q := q) (by omega)
  simp only [h1, if_true, h2, decide_true, Option.bind_some, show ¬ q = 0 by omega, if_false]
  rw [u_w64 (by omega) (by omega), ← u_tmod_fix a (q := q) (by omega)]
  split <;> rfl
theorem u_imod0 (a : Int) {q : Int} (h : q < 1 ∨ 1000000000000 < q) : impl_Mod.f a q = some 0 := by
  unfold impl_Mod.f impl_InRange.f
  by_cases h1 : 1 ≤ q
  · simp [h1, show ¬ q ≤ 1000000000000 by omega]
  · simp [h1]
theorem u_iangle (a : Int) : impl_AngleOf.f a = some (a % 360) := by
  unfold impl_AngleOf.f; rw [u_imod a (by omega) (by omega)]; rfl
def u_gap (a b : Int) : Int := if 360 - (a % 360 - b % 360) % 360 < (a % 360 - b % 360) % 360 then 360 - (a % 360 - b % 360) % 360 else (a % 360 - b % 360) % 360
theorem u_igap (a b : Int) : impl_GapOf.f a b = some (u_gap a b) := by
  unfold impl_GapOf.f u_gap mn
  simp only [u_iangle, Option.bind_some]
  rw [u_w64 (x := a % 360 - b % 360) (by omega) (by omega), u_w64 (x := 360 - (a % 360 - b % 360) % 360) (by omega) (by omega)]
theorem u_gap_facts (a b : Int) : u_gap a b = u_gap b a ∧ 0 ≤ u_gap a b ∧ u_gap a b ≤ 180 ∧ (u_gap a b = 0 ↔ a % 360 = b % 360) := by
  unfold u_gap; split <;> split <;> omega
def u_mid (s w : Int) : Int := if 0 ≤ w ∧ w ≤ 359 then (s % 360 + w / 2) % 360 else s % 360
theorem u_imid (s w : Int) : impl_MiddleOf.f s w = some (u_mid s w) := by
  unfold impl_MiddleOf.f u_mid impl_isWidth.f
  simp only [u_iangle, Option.bind_some]
  unfold impl_InRange.f
  by_cases h1 : 0 ≤ w
  · by_cases h2 : w ≤ 359
    · rw [Int.tdiv_eq_ediv_of_nonneg h1, u_w64 (x := w / 2) (by omega) (by omega), u_w64 (x := s % 360 + w / 2) (by omega) (by omega)]
      simp only [h1, h2, if_true, decide_true, Option.bind_some, and_self]
    · simp only [h1, h2, if_true, decide_false, Option.bind_some, and_false, if_false, Bool.false_eq_true]
  · simp only [h1, if_false, Option.bind_some, false_and, Bool.false_eq_true]
def u_arc (s w a : Int) : Bool := decide (0 ≤ w ∧ (a % 360 - s % 360) % 360 ≤ w)
theorem u_arc_iff (s w a : Int) : u_arc s w a = true ↔ 0 ≤ w ∧ (a % 360 - s % 360) % 360 ≤ w := by unfold u_arc; exact decide_eq_true_iff
theorem u_arc_not (s w a : Int) : u_arc s w a = false ↔ ¬ (0 ≤ w ∧ (a % 360 - s % 360) % 360 ≤ w) := by unfold u_arc; exact decide_eq_false_iff_not
theorem u_iinarc (s w a : Int) : impl_InArc.f s w a = some (u_arc s w a) := by
  unfold impl_InArc.f u_arc
  simp only [u_iangle, Option.bind_some]
  rw [u_w64 (by omega) (by omega)]
  congr 1
  exact decide_eq_decide.2 ⟨fun h => ⟨by omega, h⟩, fun h => h.2⟩
theorem u_evloop {ρ : Type} (g : Nat → Nat → Option ρ) (n : Nat) (r : ρ) (hs : ∀ i, i < n → ∃ K, ∀ k, K ≤ k → g (k + 1) i = g k (i + 1)) (he : ∃ K, ∀ k, K ≤ k → g (k + 1) n = some r) : Ev (fun k => g k 0) r := by
  have h : ∀ d i, i + d = n → Ev (fun k => g k i) r := by
    intro d
    induction d with
    | zero =>
      intro i hi
      obtain ⟨K, hK⟩ := he
      refine ⟨K + 1, fun k hk => ?_⟩
      obtain ⟨k, rfl⟩ : ∃ m, k = m + 1 := ⟨k - 1, by omega⟩
      obtain rfl : i = n := by omega
      exact hK k (by omega)
    | succ d ih =>
      intro i hi
      obtain ⟨K, hK⟩ := hs i (by omega)
      obtain ⟨L, hL⟩ := ih (i + 1) (by omega)
      refine ⟨K + L + 1, fun k hk => ?_⟩
      obtain ⟨k, rfl⟩ : ∃ m, k = m + 1 := ⟨k - 1, by omega⟩
      show g (k + 1) i = some r
      rw [hK k (by omega)]
      exact hL k (by omega)
  exact h n 0 (by omega)
theorem u_ev_ite {α : Type} {c : Prop} [Decidable c] {f g : Nat → Option α} {r : α} (h1 : c → Ev f r) (h2 : ¬ c → Ev g r) : Ev (fun k => if c then f k else g k) r := by
  by_cases h : c
  · simpa [h] using h1 h
  · simpa [h] using h2 h
theorem u_arcsmeet (s w t v : Int) : Ev (fun k => impl_ArcsMeet.f k s w t v) (decide (0 ≤ w ∧ 0 ≤ v) && (u_arc s w t || u_arc t v s)) := by
  by_cases hex : ∃ d : Nat, d < 360 ∧ u_arc s w d = true ∧ u_arc t v d = true
  · obtain ⟨d, hd⟩ := hex
    have hmin : ∃ n : Nat, (n < 360 ∧ u_arc s w n = true ∧ u_arc t v n = true) ∧ ∀ m : Nat, m < n → ¬ (m < 360 ∧ u_arc s w m = true ∧ u_arc t v m = true) := by
      induction d using Nat.strongRecOn with
      | ind d ih =>
        by_cases h : ∃ m : Nat, m < d ∧ (m < 360 ∧ u_arc s w m = true ∧ u_arc t v m = true)
        · obtain ⟨m, hm, hp⟩ := h; exact ih m hm hp
        · exact ⟨d, hd, fun m hm hp => h ⟨m, hm, hp⟩⟩
    obtain ⟨n, ⟨hn, ha, hb⟩, hl⟩ := hmin
    have hr : (decide (0 ≤ w ∧ 0 ≤ v) && (u_arc s w t || u_arc t v s)) = true := by
      simp only [Bool.and_eq_true, Bool.or_eq_true, decide_eq_true_iff]
      rw [u_arc_iff] at *
      rw [u_arc_iff] at *
      refine ⟨⟨ha.1, hb.1⟩, ?_⟩
      by_cases hc : ((n : Int) % 360 - s % 360) % 360 ≤ ((n : Int) % 360 - t % 360) % 360
      · right; omega
      · left; omega
    rw [hr]
    refine u_evloop (fun k i => impl_ArcsMeet.l0 k (i : Int) s w t v) n true (fun i hi => ⟨0, fun k _ => ?_⟩) ⟨0, fun k _ => ?_⟩
    · have hni := hl i hi
      simp only [impl_ArcsMeet.l0, u_iinarc, Option.bind_some]
      rw [if_pos (by omega), u_w64 (by omega) (by omega)]
      cases h1 : u_arc s w i with
      | false => simp
      | true =>
        cases h2 : u_arc t v i with
        | false => simp
        | true => exact absurd ⟨by omega, h1, h2⟩ hni
    · simp only [impl_ArcsMeet.l0, u_iinarc, Option.bind_some]
      rw [if_pos (by omega), if_pos ha, if_pos hb]
  · have hr : (decide (0 ≤ w ∧ 0 ≤ v) && (u_arc s w t || u_arc t v s)) = false := by
      rw [← Bool.not_eq_true]
      simp only [Bool.and_eq_true, Bool.or_eq_true, decide_eq_true_iff]
      rintro ⟨⟨h1, h2⟩, h | h⟩
      · exact hex ⟨(t % 360).toNat, by omega, by rw [u_arc_iff] at *; omega, by rw [u_arc_iff] at *; omega⟩
      · exact hex ⟨(s % 360).toNat, by omega, by rw [u_arc_iff] at *; omega, by rw [u_arc_iff] at *; omega⟩
    rw [hr]
    refine u_evloop (fun k i => impl_ArcsMeet.l0 k (i : Int) s w t v) 360 false (fun i hi => ⟨0, fun k _ => ?_⟩) ⟨0, fun k _ => ?_⟩
    · simp only [impl_ArcsMeet.l0, u_iinarc, Option.bind_some]
      rw [if_pos (by omega), u_w64 (by omega) (by omega)]
      cases h1 : u_arc s w i with
      | false => simp
      | true =>
        cases h2 : u_arc t v i with
        | false => simp
        | true => exact absurd ⟨i, by omega, h1, h2⟩ hex
    · simp only [impl_ArcsMeet.l0]
      rw [if_neg (by omega)]
def u_widen (s w b : Int) : Int × Int := if (0 ≤ b ∧ b ≤ 360) ∧ 0 ≤ w ∧ w ≤ 359 then ((s % 360 - b) % 360, if w + 2 * b ≤ 359 then w + 2 * b else 359) else (s % 360, w)
theorem u_iwiden (s w b : Int) : impl_WidenArc.f s w b = some (u_widen s w b) := by
  unfold impl_WidenArc.f u_widen impl_isWidth.f
  simp only [u_iangle, Option.bind_some]
  unfold impl_InRange.f
  by_cases h1 : 0 ≤ b <;> by_cases h2 : b ≤ 360 <;> by_cases h3 : 0 ≤ w <;> by_cases h4 : w ≤ 359 <;> simp only [h1, h2, h3, h4, if_true, if_false, decide_true, decide_false, Option.bind_some, Bool.false_eq_true, and_true, true_and, false_and, and_false]
  rw [u_w64 (x := s % 360 - b) (by omega) (by omega), u_w64 (x := 2 * b) (by omega) (by omega), u_w64 (x := w + 2 * b) (by omega) (by omega)]
  unfold mn
  by_cases h5 : 359 < w + 2 * b
  · rw [if_pos h5, if_neg (by omega)]
  · rw [if_neg h5, if_pos (by omega)]
theorem u_rd (xs : List Int) (i : Nat) : rd xs (i : Int) = xs.getD i 0 := by simp [rd]
theorem u_set_fill {α : Type} (xs : List α) (z d : α) (i : Nat) (h : i < xs.length) : (xs.take i ++ List.replicate (xs.length - i) z).set i (xs.getD i d) = xs.take (i + 1) ++ List.replicate (xs.length - (i + 1)) z := by
  apply List.ext_getElem?
  intro j
  have hl : (xs.take i).length = i := by simp; omega
  rcases Nat.lt_trichotomy j i with h1 | h1 | h1
  · rw [List.getElem?_set_ne (by omega), List.getElem?_append_left (by omega), List.getElem?_append_left (by simp; omega)]
    simp [List.getElem?_take, h1, show j < i + 1 by omega]
  · subst h1
    rw [List.getElem?_set_self (by simp; omega), List.getElem?_append_left (by simp; omega)]
    simp [List.getElem?_take, List.getD_eq_getElem?_getD, List.getElem?_eq_getElem h]
  · rw [List.getElem?_set_ne (by omega), List.getElem?_append_right (by omega), List.getElem?_append_right (by simp; omega)]
    simp only [List.getElem?_replicate, hl, List.length_take]
    have e : min (i + 1) xs.length = i + 1 := by omega
    rw [e]
    by_cases h2 : j < xs.length
    · rw [if_pos (by omega), if_pos (by omega)]
    · rw [if_neg (by omega), if_neg (by omega)]
/-- What mark writes: the counters from k on. -/
def u_marks (f : Int → Int) (k : Int) (n : Nat) : List Int := (List.range n).map fun i : Nat => f (k + (i : Int))
theorem u_marks_len (f : Int → Int) (k : Int) (n : Nat) : (u_marks f k n).length = n := by simp [u_marks]
theorem u_marks_get (f : Int → Int) (k : Int) (n i : Nat) (h : i < n) : (u_marks f k n).getD i 0 = f (k + i) := by simp [u_marks, List.getD_eq_getElem?_getD, List.getElem?_map, List.getElem?_range h]
theorem u_marks_set (f : Int → Int) (k : Int) (xs : List Int) (i : Nat) (h : i < xs.length) : (u_marks f k i ++ xs.drop i).set i (f (k + i)) = u_marks f k (i + 1) ++ xs.drop (i + 1) := by
  have e : u_marks f k (i + 1) = u_marks f k i ++ [f (k + i)] := by simp [u_marks, List.range_succ]
  rw [e, List.set_append_right _ _ (by rw [u_marks_len]; omega), u_marks_len, Nat.sub_self, List.append_assoc]
  congr 1
  rw [List.drop_eq_getElem_cons h]
  rfl
theorem u_take_succ {α : Type} (xs : List α) (d : α) (i : Nat) (h : i < xs.length) : xs.take (i + 1) = xs.take i ++ [xs.getD i d] := by
  rw [List.take_succ_eq_append_getElem h]; simp [List.getD_eq_getElem?_getD, List.getElem?_eq_getElem h]
theorem u_evsucc {α : Type} {g : Nat → Option α} {r : α} (h : Ev (fun k => g (k + 1)) r) : Ev g r := by
  obtain ⟨K, hK⟩ := h
  refine ⟨K + 1, fun k hk => ?_⟩
  obtain ⟨k, rfl⟩ : ∃ m, k = m + 1 := ⟨k - 1, by omega⟩
  exact hK k (by omega)
theorem u_ev_pos {α : Type} {c : Prop} [Decidable c] {f g : Nat → Option α} {r : α} (hc : c) (h : Ev f r) : Ev (fun k => if c then f k else g k) r := by simpa [hc] using h
theorem u_ev_neg {α : Type} {c : Prop} [Decidable c] {f g : Nat → Option α} {r : α} (hc : ¬ c) (h : Ev g r) : Ev (fun k => if c then f k else g k) r := by simpa [hc] using h
theorem u_and255 (n : Int) : Go.bits .and .i64 n 255 = n % 256 := by
  have h : (BitVec.ofInt 64 255).toNat = 2 ^ 8 - 1 := by decide
  have key : (BitVec.ofInt 64 n &&& BitVec.ofInt 64 255).toNat = (n % ((2 ^ 64 : Nat) : Int)).toNat % 2 ^ 8 := by
    rw [BitVec.toNat_and, BitVec.toNat_ofInt, h, Nat.and_two_pow_sub_one_eq_mod]
  show IntKind.i64.wrap ((BitVec.ofInt 64 n &&& BitVec.ofInt 64 255).toNat : Nat) = n % 256
  rw [key, IntKind.wrap_i64]
  omega
/-- A draw answers, its cursor stays in place, and what it draws is as p says. -/
def u_dr {α : Type} (o : Option (α × Int × Int)) (p : α → Prop) : Prop := ∃ r i h, o = some (r, i, h) ∧ 0 ≤ i ∧ p r
theorem u_drew {α β : Type} {o : Option (α × Int × Int)} {p : α → Prop} {f : α × Int × Int → Option (β × Int × Int)} {q : β → Prop} (h : u_dr o p) (k : ∀ r i h, 0 ≤ i → p r → u_dr (f (r, i, h)) q) : u_dr (o.bind f) q := by
  obtain ⟨r, i, h, rfl, h0, hp⟩ := h
  exact k r i h h0 hp
theorem u_done {α : Type} {r : α} {i h : Int} {p : α → Prop} (h0 : 0 ≤ i) (hp : p r) : u_dr (some (r, i, h)) p := ⟨r, i, h, rfl, h0, hp⟩
theorem u_new (b : List Int) (hb : b.length ≤ 1048576) : ∃ h, Ev (fun k => spec_l1New.f k b) (b, 0, h) := by
  unfold spec_l1New.f
  have hx : ∀ (d : Nat) (h : Int) (i : Nat), i + d = b.length → ∃ r, Ev (fun k => spec_l1New.l0 k b h i) (b, 0, r) := by
    intro d
    induction d with
    | zero =>
      intro h i hi
      refine ⟨h, u_evsucc ?_⟩
      simp only [spec_l1New.l0]
      exact u_ev_neg (by omega) (Ev.now _)
    | succ d ih =>
      intro h i hi
      by_cases h4 : (i : Int) < 4000
      · obtain ⟨r, hr⟩ := ih (Go.bits .and .i64 (wrap64 ((wrap64 ((wrap64 (h * 137)) + (wrap64 (rd b i)))) + 11)) 1073741823) (i + 1) (by omega)
        refine ⟨r, u_evsucc ?_⟩
        simp only [spec_l1New.l0]
        refine u_ev_pos (by omega) (u_ev_pos h4 (u_ev_pos (by omega) ?_))
        rw [u_w64 (x := (i : Int) + 1) (by omega) (by omega)]
        exact hr
      · refine ⟨h, u_evsucc ?_⟩
        simp only [spec_l1New.l0]
        exact u_ev_pos (by omega) (u_ev_neg h4 (Ev.now _))
  exact hx b.length _ 0 (by omega)
theorem u_byte (b : List Int) (i h : Int) (hb : b.length ≤ 1048576) (hi : 0 ≤ i) : u_dr (spec_l1Byte.f b i h) (fun r => 0 ≤ r ∧ r ≤ 255) := by
  unfold spec_l1Byte.f
  by_cases hl : i < (b.length : Int)
  · rw [if_pos hl, if_pos hi, u_and255, u_and255, u_w64 (x := i + 1) (by omega) (by omega)]
    exact u_done (by omega) (by omega)
  · rw [if_neg hl, u_and255]
    exact u_done hi (by omega)
theorem u_below (b : List Int) (i h n : Int) (hb : b.length ≤ 1048576) (hi : 0 ≤ i) : u_dr (spec_l1Below.f b i h n) (fun r => 0 ≤ r ∧ (r < n ∨ n ≤ 0 ∧ r = 0)) := by
  unfold spec_l1Below.f
  split
  · exact u_done hi (by omega)
  · rename_i hn
    split
    · refine u_drew (u_byte b i h hb hi) fun r i h hi hr => ?_
      rw [if_neg (by omega)]
      dsimp only
      have := Int.tmod_lt_of_pos r (show 0 < n by omega)
      have := Int.tmod_nonneg n hr.1
      exact u_done hi (by omega)
    · refine u_drew (u_byte b i h hb hi) fun r i h hi hr => u_drew (u_byte b i h hb hi) fun r2 i h hi hr2 => u_drew (u_byte b i h hb hi) fun r3 i h hi hr3 => ?_
      rw [if_neg (by omega)]
      dsimp only
      rw [u_w64 (x := r * 65536) (by omega) (by omega), u_w64 (x := r2 * 256) (by omega) (by omega), u_w64 (x := r * 65536 + r2 * 256) (by omega) (by omega), u_w64 (x := r * 65536 + r2 * 256 + r3) (by omega) (by omega)]
      have := Int.tmod_lt_of_pos (r * 65536 + r2 * 256 + r3) (show 0 < n by omega)
      have := Int.tmod_nonneg n (show 0 ≤ r * 65536 + r2 * 256 + r3 by omega)
      exact u_done hi (by omega)
theorem u_once (b : List Int) (i h n : Int) (hb : b.length ≤ 1048576) (hi : 0 ≤ i) : u_dr (spec_l1Once.f b i h n) (fun _ => True) := by
  unfold spec_l1Once.f
  exact u_drew (u_below b i h n hb hi) fun r i h hi hr => u_done hi trivial
theorem u_pick (b : List Int) (i h : Int) (l : List Int) (hb : b.length ≤ 1048576) (hi : 0 ≤ i) (hl : l ≠ []) : u_dr (spec_l1Int.f b i h l) (fun r => r ∈ l) := by
  unfold spec_l1Int.f
  refine u_drew (u_below b i h _ hb hi) fun r i h hi hr => ?_
  have hp := List.length_pos_iff.2 hl
  rw [if_pos hr.1, if_pos (by omega)]
  refine u_done hi ?_
  unfold rd
  rw [List.getD_eq_getElem?_getD, List.getElem?_eq_getElem (by omega)]
  exact List.getElem_mem _
theorem u_angle5 (b : List Int) (i h : Int) (hb : b.length ≤ 1048576) (hi : 0 ≤ i) : u_dr (spec_l5Angle.f b i h) (fun r => -9223372036854775808 ≤ r ∧ r ≤ 9223372036854775807) := by
  unfold spec_l5Angle.f
  refine u_drew (u_once b i h 6 hb hi) fun r i h hi hr => ?_
  cases r with
  | true =>
    simp only [if_true]
    refine u_drew (u_pick b i h _ hb hi (by simp)) fun r i h hi hr => u_done hi ?_
    simp only [List.mem_cons, List.not_mem_nil, or_false] at hr; omega
  | false =>
    simp only [Bool.false_eq_true, if_false]
    exact u_drew (u_below b i h 360 hb hi) fun r i h hi hr => u_done hi (by omega)
theorem u_arc5 (b : List Int) (i h : Int) (hb : b.length ≤ 1048576) (hi : 0 ≤ i) : ∃ s w i' h', spec_l5Arc.f b i h = some (s, w, i', h') ∧ 0 ≤ i' ∧ (-9223372036854775808 ≤ s ∧ s ≤ 9223372036854775807) ∧ (-9223372036854775808 ≤ w ∧ w ≤ 9223372036854775807) := by
  unfold spec_l5Arc.f
  obtain ⟨s, i1, h1, e1, hi1, hs⟩ := u_angle5 b i h hb hi
  obtain ⟨w, i2, h2, e2, hi2, hw⟩ := u_below b i1 h1 80 hb hi1
  obtain ⟨o, i3, h3, e3, hi3, _⟩ := u_once b i2 h2 6 hb hi2
  simp only [e1, e2, e3, Option.bind_some]
  cases o with
  | true =>
    obtain ⟨q, i4, h4, e4, hi4, hq⟩ := u_pick b i3 h3 ([(-1), 0, 359, 360, 9223372036854775807] : List Int) hb hi3 (by simp)
    simp only [e4, Option.bind_some, if_true]
    simp only [List.mem_cons, List.not_mem_nil, or_false] at hq
    exact ⟨s, q, i4, h4, rfl, hi4, hs, by omega⟩
  | false => exact ⟨s, w, i3, h3, rfl, hi3, hs, by omega⟩
theorem u_big {α : Type} {f g : Nat → Option α} {x : List Int} {r : α} (h1 : Ev f r) (h2 : x.length ≤ 1048576 → Ev g r) : Ev (fun k => (laws_big.f x).bind fun t => if t = true then f k else g k) r := by
  unfold laws_big.f
  simp only [Option.bind_some]
  by_cases h : (x.length : Int) > 1048576
  · simpa [h] using h1
  · simpa [h] using h2 (by omega)
def u_acc (p q r t : Int) : Nat → Bool
  | 0 => false
  | i + 1 => u_acc p q r t i || (u_arc p q i && u_arc r t i)
theorem u_acc_iff (p q r t : Int) (n : Nat) : u_acc p q r t n = true ↔ ∃ d : Nat, d < n ∧ u_arc p q d = true ∧ u_arc r t d = true := by
  induction n with
  | zero => simp [u_acc]
  | succ n ih =>
    simp only [u_acc, Bool.or_eq_true, Bool.and_eq_true, ih]
    constructor
    · rintro (⟨d, h1, h2⟩ | h)
      · exact ⟨d, by omega, h2⟩
      · exact ⟨n, by omega, h⟩
    · rintro ⟨d, h1, h2, h3⟩
      by_cases e : d = n
      · subst e; exact Or.inr ⟨h2, h3⟩
      · exact Or.inl ⟨d, by omega, h2, h3⟩
theorem u_acc_meet (s w t v : Int) : u_acc s w t v 360 = (decide (0 ≤ w ∧ 0 ≤ v) && (u_arc s w t || u_arc t v s)) := by
  rw [Bool.eq_iff_iff, u_acc_iff]
  simp only [Bool.and_eq_true, Bool.or_eq_true, decide_eq_true_iff, u_arc_iff]
  constructor
  · rintro ⟨d, h1, h2, h3⟩
    refine ⟨⟨h2.1, h3.1⟩, ?_⟩
    by_cases hc : ((d : Int) % 360 - s % 360) % 360 ≤ ((d : Int) % 360 - t % 360) % 360
    · right; omega
    · left; omega
  · rintro ⟨⟨h1, h2⟩, h | h⟩
    · exact ⟨(t % 360).toNat, by omega, by omega, by omega⟩
    · exact ⟨(s % 360).toNat, by omega, by omega, by omega⟩
theorem u_wide (s w b d : Int) (hb : 0 ≤ b ∧ b ≤ 360) (hw : 0 ≤ w ∧ w ≤ 359) (h : u_arc s w d = true) : u_arc (u_widen s w b).1 (u_widen s w b).2 d = true ∧ u_arc (u_widen s w b).1 (u_widen s w b).2 (d + b) = true ∧ u_arc (u_widen s w b).1 (u_widen s w b).2 (d - b) = true := by
  rw [u_arc_iff] at h
  unfold u_widen
  rw [if_pos ⟨hb, hw⟩]
  simp only [u_arc_iff]
  split <;> omega
theorem u_angles_l (b s w p q r t : Int) (d : Nat) : ∀ i : Nat, i + d = 360 → Ev (fun k => laws_FnAngles.l0 k b (u_acc p q r t i) i s w (u_widen s w b).1 (u_widen s w b).2 p q r t) true := by
  induction d with
  | zero =>
    intro i hi
    obtain rfl : i = 360 := by omega
    refine u_evsucc ?_
    simp only [laws_FnAngles.l0, u_imid, u_iinarc, Option.bind_some]
    refine u_ev_neg (by omega) (Ev.bind (u_arcsmeet p q r t) ?_)
    rw [u_acc_meet]
    have hm : 0 ≤ u_mid s w ∧ u_mid s w < 360 := by unfold u_mid; split <;> omega
    refine u_ev_pos (by simp) ?_
    have hd : decide (u_mid s w < 360) = true := decide_eq_true hm.2
    by_cases hw : w < 0
    · refine u_ev_pos hw (u_ev_pos hm.1 ?_)
      rw [hd]; exact Ev.now true
    · refine u_ev_neg hw (u_ev_pos ?_ (u_ev_pos hm.1 ?_))
      · rw [u_arc_iff]; unfold u_mid; split <;> omega
      · rw [hd]; exact Ev.now true
  | succ d ih =>
    intro i hi
    have hnext := ih (i + 1) (by omega)
    have hn : Ev (fun k => laws_FnAngles.l0 k b (u_acc p q r t (i + 1)) (wrap64 ((i : Int) + 1)) s w (u_widen s w b).1 (u_widen s w b).2 p q r t) true := by
      rw [u_w64 (x := (i : Int) + 1) (by omega) (by omega)]; exact hnext
    have hj2 : Ev (fun k => laws_FnAngles.j2 k b (u_acc p q r t (i + 1)) i s w (u_widen s w b).1 (u_widen s w b).2 p q r t) true := by
      have hskip : Ev (fun k => laws_FnAngles.j3 k b (u_acc p q r t (i + 1)) i true s w (u_widen s w b).1 (u_widen s w b).2 p q r t) true := by
        refine u_evsucc ?_
        simp only [laws_FnAngles.j3, if_true]
        exact hn
      refine u_evsucc ?_
      simp only [laws_FnAngles.j2, u_iinarc, Option.bind_some]
      refine u_ev_ite (fun _ => hskip) fun h1 => u_ev_ite (fun _ => hskip) fun h2 => u_ev_ite (fun _ => hskip) fun h3 => u_ev_ite (fun _ => hskip) fun h4 => ?_
      cases ha : u_arc s w i with
      | false => exact hskip
      | true =>
        obtain ⟨g1, g2, g3⟩ := u_wide s w b i ⟨by omega, by omega⟩ ⟨by omega, by omega⟩ ha
        refine u_evsucc ?_
        simp only [laws_FnAngles.j3, u_iinarc, Option.bind_some, Bool.not_true, Bool.false_eq_true, if_false]
        refine u_ev_pos g1 (u_ev_pos ?_ (u_ev_pos ?_ hn))
        · rw [u_w64 (by omega) (by omega)]; exact g2
        · rw [u_w64 (by omega) (by omega)]; exact g3
    refine u_evsucc ?_
    simp only [laws_FnAngles.l0, u_iinarc, Option.bind_some]
    refine u_ev_pos (by omega) ?_
    simp only [u_acc] at hj2
    cases ha : u_acc p q r t i with
    | true =>
      rw [ha] at hj2
      exact u_ev_pos (by trivial) hj2
    | false =>
      rw [ha] at hj2
      refine u_ev_neg (by simp) ?_
      cases hp : u_arc p q i with
      | false =>
        rw [hp] at hj2
        exact u_ev_neg (by simp) hj2
      | true =>
        rw [hp] at hj2
        refine u_ev_pos (by trivial) ?_
        simpa using hj2

theorem FnAngles : laws_FnAngles.Pure := by
  intro l _ _ hw
  refine Ev.rounds ?_
  unfold laws_FnAngles.f
  refine u_big (Ev.now true) fun hb => ?_
  obtain ⟨h0, hn⟩ := u_new l hb
  obtain ⟨a, i1, h1, e1, hi1, ha⟩ := u_angle5 l 0 h0 hb (by omega)
  obtain ⟨b, i2, h2, e2, hi2, hb2⟩ := u_angle5 l i1 h1 hb hi1
  have hdraw : Ev (fun k => spec_DrawGapOf.f k l) (a, b) := by
    unfold spec_DrawGapOf.f
    refine Ev.bind hn ?_
    simp only [e1, e2, Option.bind_some]
    exact Ev.now _
  obtain ⟨s, w, i3, h3, e3, hi3, _, _⟩ := u_arc5 l 0 h0 hb (by omega)
  obtain ⟨y, i4, h4, e4, hi4, _⟩ := u_pick l i3 h3 ([(-1), 0, 1, 5, 170, 360, 361] : List Int) hb hi3 (by simp)
  have hdraw2 : Ev (fun k => spec_DrawWidenArc.f k l) (s, w, y) := by
    unfold spec_DrawWidenArc.f
    refine Ev.bind hn ?_
    simp only [e3, e4, Option.bind_some]
    exact Ev.now _
  obtain ⟨r, t, i5, h5, e5, hi5, _, _⟩ := u_arc5 l i3 h3 hb hi3
  have hdraw3 : Ev (fun k => spec_DrawArcsMeet.f k l) (s, w, r, t) := by
    unfold spec_DrawArcsMeet.f
    refine Ev.bind hn ?_
    simp only [e3, e5, Option.bind_some]
    exact Ev.now _
  obtain ⟨g1, g2, g3, g4⟩ := u_gap_facts a b
  have hbe : ((u_gap a b == 0) != (a % 360 == b % 360)) = false := by
    by_cases hz : u_gap a b = 0
    · have := g4.1 hz; simp [hz, this]
    · have : ¬ a % 360 = b % 360 := fun h => hz (g4.2 h)
      rw [beq_eq_false_iff_ne.2 hz, beq_eq_false_iff_ne.2 this]; rfl
  refine Ev.bind hdraw ?_
  simp only [u_igap, u_iangle, Option.bind_some]
  refine u_ev_pos g1 (u_ev_neg (by omega) (u_ev_neg (by omega) ?_))
  rw [hbe]
  refine u_evsucc ?_
  simp only [laws_FnAngles.j0, Bool.false_eq_true, if_false, u_iwiden, Option.bind_some]
  refine Ev.bind hdraw2 (Ev.bind hdraw3 ?_)
  exact u_angles_l y s w s w r t 360 0 rfl

end Go.Proofs.Ytolepbdmbedload.Pure
