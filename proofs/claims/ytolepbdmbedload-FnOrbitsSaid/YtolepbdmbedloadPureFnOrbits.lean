/- FnOrbits returns true for every byte slice; no condition. -/
import Derived.Test.YtolepbdmbedloadWSized
import Derived.Laws.Bits128
import Derived.Test.YtolepbdmbedloadHFnOrbitsx5
namespace Go.Proofs.Ytolepbdmbedload.PrintWords
/-- The name by which the printed row calls it. -/
theorem sized_ints {H : Type} {enc : TypeId × Value → H} {P : Program} {W : World} {base : Nat} {spare : Nat → Bool} {held : Bool} {t e : TypeId} {k : IntKind} {a : Option Addr} {len cap : Nat} {d : DataW H} {ps : List MemPlace} {ts : List TypeId} {ds : List (DataW H)} {j : Nat}
    (hsz : (DataW.weightsEach P ts ds).all (· ≤ reachBytes) = true) (ht : ts[j]? = some t) (hd : ds[j]? = some d) (hu : P.underlying t = some (.slice e)) (he : P.underlying e = some (.int k)) (hc : P.cellsOf e = 1) {B : Nat} (hB : P.bytesOf e = B)
    (h : DataW.Trod enc P W base spare held t (.slice a len cap) d ps) : len * B ≤ 140737488351232 := Go.Proofs.YtolepbdmbedloadW.PrintWords.sized_ints hsz ht hd hu he hc hB h
end Go.Proofs.Ytolepbdmbedload.PrintWords
namespace Go.Proofs.Ytolepbdmbedload.Pure
open Go.RowKit Go.Proofs.Ytolepbdmbedload.PFnOrbits Go.Proofs.YtolepbdmbedloadW.PrintWords Go.Proofs.YtolepbdmbedloadW.PrintLast
set_option linter.unusedVariables false
set_option linter.unusedSimpArgs false

def u_speed (v : Int) : Int := if -60 ≤ v ∧ v ≤ 60 then v else 0
theorem u_speed_bd (v : Int) : -60 ≤ u_speed v ∧ u_speed v ≤ 60 := by unfold u_speed; split <;> omega
theorem u_mul_bd (v n : Int) (h1 : -60 ≤ v) (h2 : v ≤ 60) (h3 : 0 ≤ n) : -60 * n ≤ v * n ∧ v * n ≤ 60 * n := ⟨Int.mul_le_mul_of_nonneg_right h1 h3, Int.mul_le_mul_of_nonneg_right h2 h3⟩
def u_place (p v t : Int) : Int := (p % 360 + u_speed v * (if 0 ≤ t ∧ t ≤ 1000 then t else 0)) % 360
theorem u_place_bd (p v t : Int) : 0 ≤ u_place p v t ∧ u_place p v t < 360 := by unfold u_place; omega
theorem u_first_bad (p : Nat → Prop) [DecidablePred p] (n : Nat) : (∀ i, i < n → p i) ∨ ∃ m, m < n ∧ ¬ p m ∧ ∀ i, i < m → p i := by
  by_cases hex : ∃ m, m < n ∧ ¬ p m
  · right
    obtain ⟨d, hd⟩ := hex
    induction d using Nat.strongRecOn with
    | ind d ih =>
      by_cases h : ∃ m, m < d ∧ (m < n ∧ ¬ p m)
      · obtain ⟨m, hm, hp⟩ := h; exact ih m hm hp
      · refine ⟨d, hd.1, hd.2, fun i hi => ?_⟩
        by_cases e : p i
        · exact e
        · exact absurd ⟨i, hi, by omega, e⟩ h
  · left
    intro i hi
    by_cases e : p i
    · exact e
    · exact absurd ⟨i, hi, e⟩ hex
theorem u_round (v : Int) : ∃ N : Nat, N < 360 ∧ (((N : Int) + 1) * u_speed v) % 360 = 0 ∧ ∀ i : Nat, i < N → (((i : Int) + 1) * u_speed v) % 360 ≠ 0 := by
  rcases u_first_bad (fun i : Nat => (((i : Int) + 1) * u_speed v) % 360 ≠ 0) 360 with h | ⟨m, hm, hb, hp⟩
  · exact absurd (by omega) (h 359 (by omega))
  · exact ⟨m, hm, by simpa using hb, hp⟩
theorem u_ispeed (a b v d : Int) : impl_speedOf.f a b v d = some (u_speed v) := by
  unfold impl_speedOf.f impl_InRange.f u_speed
  by_cases h1 : -60 ≤ v <;> by_cases h2 : v ≤ 60 <;> simp [h1, h2]
theorem u_w64 {x : Int} (h1 : -9223372036854775808 ≤ x) (h2 : x ≤ 9223372036854775807) : wrap64 x = x := by unfold wrap64; omega
theorem u_tmod_add (p : Int) {q : Int} (hq : 0 < q) : (p.tmod q + q).tmod q = p % q := by
  have h1 := Int.tmod_lt_of_pos p hq
  have h2 : -q < p.tmod q := by
    rcases Int.le_total 0 p with h | h
    · have := Int.tmod_nonneg q h; omega
    · have h3 : (-p).tmod q = -(p.tmod q) := Int.neg_tmod _ _
      have h4 := Int.tmod_lt_of_pos (-p) hq
      omega
  rw [Int.tmod_eq_emod_of_nonneg (by omega), Int.add_emod_right]
  have := Int.tmod_eq_emod (a := p) (b := q)
  rw [this]
  split
  · simp
  · rw [Int.sub_emod]
    have : ((q.natAbs : Int)) % q = 0 := by
      have : (q.natAbs : Int) = q := by omega
      rw [this]; exact Int.emod_self
    rw [this]; simp
theorem u_tmod_fix (p : Int) {q : Int} (hq : 0 < q) : (if p.tmod q < 0 then p.tmod q + q else p.tmod q) = p % q := by
  have h1 := Int.tmod_lt_of_pos p hq
  have h2 : -q < p.tmod q := by
    rcases Int.le_total 0 p with h | h
    · have := Int.tmod_nonneg q h; omega
    · have h3 : (-p).tmod q = -(p.tmod q) := Int.neg_tmod _ _
      have h4 := Int.tmod_lt_of_pos (-p) hq
      omega
  have h3 := u_tmod_add p hq
  split
  · rw [Int.tmod_eq_emod_of_nonneg (by omega)] at h3
    rw [← h3, Int.emod_eq_of_lt (by omega) (by omega)]
  · rw [Int.tmod_eq_emod_of_nonneg (by omega), Int.add_emod_right, Int.emod_eq_of_lt (by omega) (by omega)] at h3
    exact h3
theorem u_tmod_bd (p : Int) {q : Int} (hq : 0 < q) : -q < p.tmod q ∧ p.tmod q < q := by
  have h1 := Int.tmod_lt_of_pos p hq
  refine ⟨?_, h1⟩
  rcases Int.le_total 0 p with h | h
  · have := Int.tmod_nonneg q h; omega
  · have h3 : (-p).tmod q = -(p.tmod q) := Int.neg_tmod _ _
    have h4 := Int.tmod_lt_of_pos (-p) hq
    omega
theorem u_imod (a : Int) {q : Int} (h1 : 1 ≤ q) (h2 : q ≤ 1000000000000) : impl_Mod.f a q = some (a % q) := by
  unfold impl_Mod.f impl_InRange.f
  have hb := u_tmod_bd a (q := q) (by omega)
  simp only [h1, if_true, h2, decide_true, Option.bind_some, show ¬ q = 0 by omega, if_false]
  rw [u_w64 (by omega) (by omega), ← u_tmod_fix a (q := q) (by omega)]
  split <;> rfl
theorem u_imod0 (a : Int) {q : Int} (h : q < 1 ∨ 1000000000000 < q) : impl_Mod.f a q = some 0 := by
  unfold impl_Mod.f impl_InRange.f
  by_cases h1 : 1 ≤ q
  · simp [h1, show ¬ q ≤ 1000000000000 by omega]
  · simp [h1]
theorem u_iangle (a : Int) : impl_AngleOf.f a = some (a % 360) := by
  unfold impl_AngleOf.f; rw [u_imod a (by omega) (by omega)]; rfl
theorem u_evloop {ρ : Type} (g : Nat → Nat → Option ρ) (n : Nat) (r : ρ) (hs : ∀ i, i < n → ∃ K, ∀ k, K ≤ k → g (k + 1) i = g k (i + 1)) (he : ∃ K, ∀ k, K ≤ k → g (k + 1) n = some r) : Ev (fun k => g k 0) r := by
  have h : ∀ d i, i + d = n → Ev (fun k => g k i) r := by
    intro d
    induction d with
    | zero =>
      intro i hi
      obtain ⟨K, hK⟩ := he
      refine ⟨K + 1, fun k hk => ?_⟩
      obtain ⟨k, rfl⟩ : ∃ m, k = m + 1 := ⟨k - 1, by omega⟩
      obtain rfl : i = n := by omega
      exact hK k (by omega)
    | succ d ih =>
      intro i hi
      obtain ⟨K, hK⟩ := hs i (by omega)
      obtain ⟨L, hL⟩ := ih (i + 1) (by omega)
      refine ⟨K + L + 1, fun k hk => ?_⟩
      obtain ⟨k, rfl⟩ : ∃ m, k = m + 1 := ⟨k - 1, by omega⟩
      show g (k + 1) i = some r
      rw [hK k (by omega)]
      exact hL k (by omega)
  exact h n 0 (by omega)
theorem u_ev_ite {α : Type} {c : Prop} [Decidable c] {f g : Nat → Option α} {r : α} (h1 : c → Ev f r) (h2 : ¬ c → Ev g r) : Ev (fun k => if c then f k else g k) r := by
  by_cases h : c
  · simpa [h] using h1 h
  · simpa [h] using h2 h
theorem u_iround (a b v d : Int) (N : Nat) (hN : N < 360) (h0 : (((N : Int) + 1) * u_speed v) % 360 = 0) (hl : ∀ i : Nat, i < N → (((i : Int) + 1) * u_speed v) % 360 ≠ 0) : Ev (fun k => impl_RoundOf.f k a b v d) ((N : Int) + 1) := by
  unfold impl_RoundOf.f
  have hs := u_speed_bd v
  have h := u_evloop (fun k i => impl_RoundOf.l0 k ((i : Int) + 1) a b v d) N ((N : Int) + 1) (fun i hi => ⟨0, fun k _ => ?_⟩) ⟨0, fun k _ => ?_⟩
  · exact h
  · have hb := u_mul_bd (u_speed v) ((i : Int) + 1) hs.1 hs.2 (by omega)
    have hn := hl i hi
    rw [Int.mul_comm (u_speed v)] at hb
    simp only [impl_RoundOf.l0, u_ispeed, u_iangle, Option.bind_some]
    rw [u_w64 (x := ((i : Int) + 1) * u_speed v) (by omega) (by omega), if_neg hn, u_w64 (by omega) (by omega)]
    simp
  · have hb := u_mul_bd (u_speed v) ((N : Int) + 1) hs.1 hs.2 (by omega)
    rw [Int.mul_comm (u_speed v)] at hb
    simp only [impl_RoundOf.l0, u_ispeed, u_iangle, Option.bind_some]
    rw [u_w64 (x := ((N : Int) + 1) * u_speed v) (by omega) (by omega), if_pos h0]
theorem u_iplace (a p v e t : Int) : impl_PlaceAt.f a p v e t = some (u_place p v t) := by
  have hs := u_speed_bd v
  unfold impl_PlaceAt.f u_place
  simp only [u_iangle, u_ispeed, Option.bind_some]
  unfold impl_InRange.f
  by_cases h1 : 0 ≤ t
  · by_cases h2 : t ≤ 1000
    · have hm := u_mul_bd (u_speed v) t hs.1 hs.2 h1
      rw [u_w64 (x := u_speed v * t) (by omega) (by omega), u_w64 (x := p % 360 + u_speed v * t) (by omega) (by omega)]
      simp [h1, h2]
    · rw [u_w64 (x := u_speed v * 0) (by omega) (by omega), u_w64 (x := p % 360 + u_speed v * 0) (by omega) (by omega)]
      simp [h1, h2]
  · rw [u_w64 (x := u_speed v * 0) (by omega) (by omega), u_w64 (x := p % 360 + u_speed v * 0) (by omega) (by omega)]
    simp [h1]
def u_widen (s w b : Int) : Int × Int := if (0 ≤ b ∧ b ≤ 360) ∧ 0 ≤ w ∧ w ≤ 359 then ((s % 360 - b) % 360, if w + 2 * b ≤ 359 then w + 2 * b else 359) else (s % 360, w)
theorem u_iwiden (s w b : Int) : impl_WidenArc.f s w b = some (u_widen s w b) := by
  unfold impl_WidenArc.f u_widen impl_isWidth.f
  simp only [u_iangle, Option.bind_some]
  unfold impl_InRange.f
  by_cases h1 : 0 ≤ b <;> by_cases h2 : b ≤ 360 <;> by_cases h3 : 0 ≤ w <;> by_cases h4 : w ≤ 359 <;> simp only [h1, h2, h3, h4, if_true, if_false, decide_true, decide_false, Option.bind_some, Bool.false_eq_true, and_true, true_and, false_and, and_false]
  rw [u_w64 (x := s % 360 - b) (by omega) (by omega), u_w64 (x := 2 * b) (by omega) (by omega), u_w64 (x := w + 2 * b) (by omega) (by omega)]
  unfold mn
  by_cases h5 : 359 < w + 2 * b
  · rw [if_pos h5, if_neg (by omega)]
  · rw [if_neg h5, if_pos (by omega)]
def u_arc (s w a : Int) : Bool := decide (0 ≤ w ∧ (a % 360 - s % 360) % 360 ≤ w)
theorem u_arc_iff (s w a : Int) : u_arc s w a = true ↔ 0 ≤ w ∧ (a % 360 - s % 360) % 360 ≤ w := by unfold u_arc; exact decide_eq_true_iff
theorem u_arc_not (s w a : Int) : u_arc s w a = false ↔ ¬ (0 ≤ w ∧ (a % 360 - s % 360) % 360 ≤ w) := by unfold u_arc; exact decide_eq_false_iff_not
/-- The first tick from t on, below 'tt' and at most 1000, at which p holds; or -1. -/
def u_first (p : Int → Bool) (tt : Int) : Nat → Int → Int
  | 0, _ => -1
  | d + 1, t => if t < tt ∧ t ≤ 1000 then (if p t = true then t else u_first p tt d (t + 1)) else -1
def u_firstAt (ph v s w fr tt : Int) : Int := u_first (fun t => u_arc s w (u_place ph v t)) tt (1001 - (if fr ≤ 0 then 0 else fr)).toNat (if fr ≤ 0 then 0 else fr)
theorem u_iinarc (s w a : Int) : impl_InArc.f s w a = some (u_arc s w a) := by
  unfold impl_InArc.f u_arc
  simp only [u_iangle, Option.bind_some]
  rw [u_w64 (by omega) (by omega)]
  congr 1
  exact decide_eq_decide.2 ⟨fun h => ⟨by omega, h⟩, fun h => h.2⟩
theorem u_evsucc {α : Type} {g : Nat → Option α} {r : α} (h : Ev (fun k => g (k + 1)) r) : Ev g r := by
  obtain ⟨K, hK⟩ := h
  refine ⟨K + 1, fun k hk => ?_⟩
  obtain ⟨k, rfl⟩ : ∃ m, k = m + 1 := ⟨k - 1, by omega⟩
  exact hK k (by omega)
theorem u_ev_pos {α : Type} {c : Prop} [Decidable c] {f g : Nat → Option α} {r : α} (hc : c) (h : Ev f r) : Ev (fun k => if c then f k else g k) r := by simpa [hc] using h
theorem u_ev_neg {α : Type} {c : Prop} [Decidable c] {f g : Nat → Option α} {r : α} (hc : ¬ c) (h : Ev g r) : Ev (fun k => if c then f k else g k) r := by simpa [hc] using h
theorem u_ifirst_l (a ph v e s w tt : Int) (d : Nat) : ∀ t : Int, 0 ≤ t → t + d = 1001 → Ev (fun k => impl_FirstAt.l0 k tt t a ph v e s w) (u_first (fun t => u_arc s w (u_place ph v t)) tt d t) := by
  have hf : ∀ t, Ev (fun k => impl_FirstAt.j1 k tt t false a ph v e s w) (-1) := fun t => by
    refine u_evsucc ?_
    simp only [impl_FirstAt.j1, Bool.false_eq_true, if_false]
    exact Ev.now _
  induction d with
  | zero =>
    intro t h0 hd
    refine u_evsucc ?_
    simp only [impl_FirstAt.l0, show ¬ t ≤ 1000 by omega, decide_false, ite_self]
    exact hf t
  | succ d ih =>
    intro t h0 hd
    refine u_evsucc ?_
    simp only [impl_FirstAt.l0, show t ≤ 1000 by omega, decide_true]
    by_cases h1 : t < tt
    · simp only [h1, if_true]
      refine u_evsucc ?_
      simp only [impl_FirstAt.j1, if_true, u_iplace, u_iinarc, Option.bind_some]
      unfold u_first
      rw [if_pos ⟨h1, by omega⟩]
      by_cases hp : u_arc s w (u_place ph v t) = true
      · rw [if_pos hp]; exact u_ev_pos hp (Ev.now _)
      · rw [if_neg hp]
        refine u_ev_neg hp ?_
        rw [u_w64 (by omega) (by omega)]
        exact ih (t + 1) (by omega) (by omega)
    · simp only [h1, if_false]
      unfold u_first
      rw [if_neg (fun hc => h1 hc.1)]
      exact hf t
theorem u_ifirst (a ph v e s w fr tt : Int) : Ev (fun k => impl_FirstAt.f k a ph v e s w fr tt) (u_firstAt ph v s w fr tt) := by
  unfold impl_FirstAt.f u_firstAt mx
  by_cases h1 : fr ≤ 0
  · have e0 : (if fr < 0 then 0 else fr) = 0 := by split <;> omega
    simp only [h1, if_true, e0]
    exact u_ifirst_l a ph v e s w tt _ 0 (by omega) (by omega)
  · simp only [h1, if_false, show ¬ fr < 0 by omega]
    by_cases h2 : fr ≤ 1001
    · exact u_ifirst_l a ph v e s w tt _ fr (by omega) (by omega)
    · have e0 : (1001 - fr).toNat = 0 := by omega
      rw [e0]
      refine u_evsucc ?_
      simp only [impl_FirstAt.l0, show ¬ fr ≤ 1000 by omega, decide_false, ite_self]
      refine u_evsucc ?_
      simp only [impl_FirstAt.j1, Bool.false_eq_true, if_false]
      exact Ev.now _
theorem u_rd (xs : List Int) (i : Nat) : rd xs (i : Int) = xs.getD i 0 := by simp [rd]
theorem u_set_fill {α : Type} (xs : List α) (z d : α) (i : Nat) (h : i < xs.length) : (xs.take i ++ List.replicate (xs.length - i) z).set i (xs.getD i d) = xs.take (i + 1) ++ List.replicate (xs.length - (i + 1)) z := by
  apply List.ext_getElem?
  intro j
  have hl : (xs.take i).length = i := by simp; omega
  rcases Nat.lt_trichotomy j i with h1 | h1 | h1
  · rw [List.getElem?_set_ne (by omega), List.getElem?_append_left (by omega), List.getElem?_append_left (by simp; omega)]
    simp [List.getElem?_take, h1, show j < i + 1 by omega]
  · subst h1
    rw [List.getElem?_set_self (by simp; omega), List.getElem?_append_left (by simp; omega)]
    simp [List.getElem?_take, List.getD_eq_getElem?_getD, List.getElem?_eq_getElem h]
  · rw [List.getElem?_set_ne (by omega), List.getElem?_append_right (by omega), List.getElem?_append_right (by simp; omega)]
    simp only [List.getElem?_replicate, hl, List.length_take]
    have e : min (i + 1) xs.length = i + 1 := by omega
    rw [e]
    by_cases h2 : j < xs.length
    · rw [if_pos (by omega), if_pos (by omega)]
    · rw [if_neg (by omega), if_neg (by omega)]
/-- What mark writes: the counters from k on. -/
def u_marks (f : Int → Int) (k : Int) (n : Nat) : List Int := (List.range n).map fun i : Nat => f (k + (i : Int))
theorem u_marks_len (f : Int → Int) (k : Int) (n : Nat) : (u_marks f k n).length = n := by simp [u_marks]
theorem u_marks_get (f : Int → Int) (k : Int) (n i : Nat) (h : i < n) : (u_marks f k n).getD i 0 = f (k + i) := by simp [u_marks, List.getD_eq_getElem?_getD, List.getElem?_map, List.getElem?_range h]
theorem u_marks_set (f : Int → Int) (k : Int) (xs : List Int) (i : Nat) (h : i < xs.length) : (u_marks f k i ++ xs.drop i).set i (f (k + i)) = u_marks f k (i + 1) ++ xs.drop (i + 1) := by
  have e : u_marks f k (i + 1) = u_marks f k i ++ [f (k + i)] := by simp [u_marks, List.range_succ]
  rw [e, List.set_append_right _ _ (by rw [u_marks_len]; omega), u_marks_len, Nat.sub_self, List.append_assoc]
  congr 1
  rw [List.drop_eq_getElem_cons h]
  rfl
theorem u_take_succ {α : Type} (xs : List α) (d : α) (i : Nat) (h : i < xs.length) : xs.take (i + 1) = xs.take i ++ [xs.getD i d] := by
  rw [List.take_succ_eq_append_getElem h]; simp [List.getD_eq_getElem?_getD, List.getElem?_eq_getElem h]
theorem u_and255 (n : Int) : Go.bits .and .i64 n 255 = n % 256 := by
  have h : (BitVec.ofInt 64 255).toNat = 2 ^ 8 - 1 := by decide
  have key : (BitVec.ofInt 64 n &&& BitVec.ofInt 64 255).toNat = (n % ((2 ^ 64 : Nat) : Int)).toNat % 2 ^ 8 := by
    rw [BitVec.toNat_and, BitVec.toNat_ofInt, h, Nat.and_two_pow_sub_one_eq_mod]
  show IntKind.i64.wrap ((BitVec.ofInt 64 n &&& BitVec.ofInt 64 255).toNat : Nat) = n % 256
  rw [key, IntKind.wrap_i64]
  omega
/-- A draw answers, its cursor stays in place, and what it draws is as p says. -/
def u_dr {α : Type} (o : Option (α × Int × Int)) (p : α → Prop) : Prop := ∃ r i h, o = some (r, i, h) ∧ 0 ≤ i ∧ p r
theorem u_drew {α β : Type} {o : Option (α × Int × Int)} {p : α → Prop} {f : α × Int × Int → Option (β × Int × Int)} {q : β → Prop} (h : u_dr o p) (k : ∀ r i h, 0 ≤ i → p r → u_dr (f (r, i, h)) q) : u_dr (o.bind f) q := by
  obtain ⟨r, i, h, rfl, h0, hp⟩ := h
  exact k r i h h0 hp
theorem u_done {α : Type} {r : α} {i h : Int} {p : α → Prop} (h0 : 0 ≤ i) (hp : p r) : u_dr (some (r, i, h)) p := ⟨r, i, h, rfl, h0, hp⟩
theorem u_new (b : List Int) (hb : b.length ≤ 1048576) : ∃ h, Ev (fun k => spec_l1New.f k b) (b, 0, h) := by
  unfold spec_l1New.f
  have hx : ∀ (d : Nat) (h : Int) (i : Nat), i + d = b.length → ∃ r, Ev (fun k => spec_l1New.l0 k b h i) (b, 0, r) := by
    intro d
    induction d with
    | zero =>
      intro h i hi
      refine ⟨h, u_evsucc ?_⟩
      simp only [spec_l1New.l0]
      exact u_ev_neg (by omega) (Ev.now _)
    | succ d ih =>
      intro h i hi
      by_cases h4 : (i : Int) < 4000
      · obtain ⟨r, hr⟩ := ih (Go.bits .and .i64 (wrap64 ((wrap64 ((wrap64 (h * 137)) + (wrap64 (rd b i)))) + 11)) 1073741823) (i + 1) (by omega)
        refine ⟨r, u_evsucc ?_⟩
        simp only [spec_l1New.l0]
        refine u_ev_pos (by omega) (u_ev_pos h4 (u_ev_pos (by omega) ?_))
        rw [u_w64 (x := (i : Int) + 1) (by omega) (by omega)]
        exact hr
      · refine ⟨h, u_evsucc ?_⟩
        simp only [spec_l1New.l0]
        exact u_ev_pos (by omega) (u_ev_neg h4 (Ev.now _))
  exact hx b.length _ 0 (by omega)
theorem u_byte (b : List Int) (i h : Int) (hb : b.length ≤ 1048576) (hi : 0 ≤ i) : u_dr (spec_l1Byte.f b i h) (fun r => 0 ≤ r ∧ r ≤ 255) := by
  unfold spec_l1Byte.f
  by_cases hl : i < (b.length : Int)
  · rw [if_pos hl, if_pos hi, u_and255, u_and255, u_w64 (x := i + 1) (by omega) (by omega)]
    exact u_done (by omega) (by omega)
  · rw [if_neg hl, u_and255]
    exact u_done hi (by omega)
theorem u_below (b : List Int) (i h n : Int) (hb : b.length ≤ 1048576) (hi : 0 ≤ i) : u_dr (spec_l1Below.f b i h n) (fun r => 0 ≤ r ∧ (r < n ∨ n ≤ 0 ∧ r = 0)) := by
  unfold spec_l1Below.f
  split
  · exact u_done hi (by omega)
  · rename_i hn
    split
    · refine u_drew (u_byte b i h hb hi) fun r i h hi hr => ?_
      rw [if_neg (by omega)]
      dsimp only
      have := Int.tmod_lt_of_pos r (show 0 < n by omega)
      have := Int.tmod_nonneg n hr.1
      exact u_done hi (by omega)
    · refine u_drew (u_byte b i h hb hi) fun r i h hi hr => u_drew (u_byte b i h hb hi) fun r2 i h hi hr2 => u_drew (u_byte b i h hb hi) fun r3 i h hi hr3 => ?_
      rw [if_neg (by omega)]
      dsimp only
      rw [u_w64 (x := r * 65536) (by omega) (by omega), u_w64 (x := r2 * 256) (by omega) (by omega), u_w64 (x := r * 65536 + r2 * 256) (by omega) (by omega), u_w64 (x := r * 65536 + r2 * 256 + r3) (by omega) (by omega)]
      have := Int.tmod_lt_of_pos (r * 65536 + r2 * 256 + r3) (show 0 < n by omega)
      have := Int.tmod_nonneg n (show 0 ≤ r * 65536 + r2 * 256 + r3 by omega)
      exact u_done hi (by omega)
theorem u_once (b : List Int) (i h n : Int) (hb : b.length ≤ 1048576) (hi : 0 ≤ i) : u_dr (spec_l1Once.f b i h n) (fun _ => True) := by
  unfold spec_l1Once.f
  exact u_drew (u_below b i h n hb hi) fun r i h hi hr => u_done hi trivial
theorem u_pick (b : List Int) (i h : Int) (l : List Int) (hb : b.length ≤ 1048576) (hi : 0 ≤ i) (hl : l ≠ []) : u_dr (spec_l1Int.f b i h l) (fun r => r ∈ l) := by
  unfold spec_l1Int.f
  refine u_drew (u_below b i h _ hb hi) fun r i h hi hr => ?_
  have hp := List.length_pos_iff.2 hl
  rw [if_pos hr.1, if_pos (by omega)]
  refine u_done hi ?_
  unfold rd
  rw [List.getD_eq_getElem?_getD, List.getElem?_eq_getElem (by omega)]
  exact List.getElem_mem _
theorem u_angle5 (b : List Int) (i h : Int) (hb : b.length ≤ 1048576) (hi : 0 ≤ i) : u_dr (spec_l5Angle.f b i h) (fun r => -9223372036854775808 ≤ r ∧ r ≤ 9223372036854775807) := by
  unfold spec_l5Angle.f
  refine u_drew (u_once b i h 6 hb hi) fun r i h hi hr => ?_
  cases r with
  | true =>
    simp only [if_true]
    refine u_drew (u_pick b i h _ hb hi (by simp)) fun r i h hi hr => u_done hi ?_
    simp only [List.mem_cons, List.not_mem_nil, or_false] at hr; omega
  | false =>
    simp only [Bool.false_eq_true, if_false]
    exact u_drew (u_below b i h 360 hb hi) fun r i h hi hr => u_done hi (by omega)
theorem u_sat6 (b : List Int) (i h : Int) (hb : b.length ≤ 1048576) (hi : 0 ≤ i) : ∃ p q v e i' h', spec_l6Any.f b i h = some (p, q, v, e, i', h') ∧ 0 ≤ i' ∧ (-9223372036854775808 ≤ p ∧ p ≤ 9223372036854775807) ∧ (-9223372036854775808 ≤ q ∧ q ≤ 9223372036854775807) ∧ (-9223372036854775808 ≤ v ∧ v ≤ 9223372036854775807) ∧ (-9223372036854775808 ≤ e ∧ e ≤ 9223372036854775807) := by
  unfold spec_l6Any.f spec_l6Draw.f
  obtain ⟨p, i1, h1, e1, hi1, hp⟩ := u_below b i h 3 hb hi
  obtain ⟨q, i2, h2, e2, hi2, hq⟩ := u_below b i1 h1 12 hb hi1
  obtain ⟨v, i3, h3, e3, hi3, hv⟩ := u_pick b i2 h2 ([5, 10, 12, (-10), 0] : List Int) hb hi2 (by simp)
  obtain ⟨e, i4, h4, e4, hi4, he⟩ := u_below b i3 h3 3 hb hi3
  obtain ⟨n, i5, h5, e5, hi5, hn⟩ := u_below b i4 h4 9 hb hi4
  simp only [List.mem_cons, List.not_mem_nil, or_false] at hv
  simp only [e1, e2, e3, e4, e5, Option.bind_some]
  rw [u_w64 (x := 30 * q) (by omega) (by omega)]
  split
  · obtain ⟨r, i6, h6, e6, hi6, hr⟩ := u_pick b i5 h5 ([(-1), 3, 9223372036854775807] : List Int) hb hi5 (by simp)
    simp only [List.mem_cons, List.not_mem_nil, or_false] at hr
    simp only [e6, Option.bind_some]
    exact ⟨r, 30 * q, v, e, i6, h6, rfl, hi6, by omega, by omega, by omega, by omega⟩
  split
  · obtain ⟨r, i6, h6, e6, hi6, hr⟩ := u_angle5 b i5 h5 hb hi5
    simp only [e6, Option.bind_some]
    exact ⟨p, r, v, e, i6, h6, rfl, hi6, by omega, hr, by omega, by omega⟩
  split
  · obtain ⟨r, i6, h6, e6, hi6, hr⟩ := u_pick b i5 h5 ([60, 61, (-60), (-61), 9223372036854775807] : List Int) hb hi5 (by simp)
    simp only [List.mem_cons, List.not_mem_nil, or_false] at hr
    simp only [e6, Option.bind_some]
    exact ⟨p, 30 * q, r, e, i6, h6, rfl, hi6, by omega, by omega, by omega, by omega⟩
  split
  · obtain ⟨r, i6, h6, e6, hi6, hr⟩ := u_pick b i5 h5 ([(-1), 20, 21] : List Int) hb hi5 (by simp)
    simp only [List.mem_cons, List.not_mem_nil, or_false] at hr
    simp only [e6, Option.bind_some]
    exact ⟨p, 30 * q, v, r, i6, h6, rfl, hi6, by omega, by omega, by omega, by omega⟩
  · exact ⟨p, 30 * q, v, e, i5, h5, rfl, hi5, by omega, by omega, by omega, by omega⟩
theorem u_raw4 (b : List Int) (i h : Int) (hb : b.length ≤ 1048576) (hi : 0 ≤ i) : u_dr (spec_l4Raw.f b i h) (fun r => -9223372036854775808 ≤ r ∧ r ≤ 9223372036854775807) := by
  unfold spec_l4Raw.f
  refine u_drew (u_once b i h 6 hb hi) fun r i h hi hr => ?_
  cases r with
  | true =>
    simp only [if_true]
    refine u_drew (u_pick b i h _ hb hi (by simp)) fun r i h hi hr => u_done hi ?_
    simp only [List.mem_cons, List.not_mem_nil, or_false] at hr; omega
  | false =>
    simp only [Bool.false_eq_true, if_false]
    exact u_drew (u_below b i h 40 hb hi) fun r i h hi hr => u_done hi (by omega)
theorem u_arc5 (b : List Int) (i h : Int) (hb : b.length ≤ 1048576) (hi : 0 ≤ i) : ∃ s w i' h', spec_l5Arc.f b i h = some (s, w, i', h') ∧ 0 ≤ i' ∧ (-9223372036854775808 ≤ s ∧ s ≤ 9223372036854775807) ∧ (-9223372036854775808 ≤ w ∧ w ≤ 9223372036854775807) := by
  unfold spec_l5Arc.f
  obtain ⟨s, i1, h1, e1, hi1, hs⟩ := u_angle5 b i h hb hi
  obtain ⟨w, i2, h2, e2, hi2, hw⟩ := u_below b i1 h1 80 hb hi1
  obtain ⟨o, i3, h3, e3, hi3, _⟩ := u_once b i2 h2 6 hb hi2
  simp only [e1, e2, e3, Option.bind_some]
  cases o with
  | true =>
    obtain ⟨q, i4, h4, e4, hi4, hq⟩ := u_pick b i3 h3 ([(-1), 0, 359, 360, 9223372036854775807] : List Int) hb hi3 (by simp)
    simp only [e4, Option.bind_some, if_true]
    simp only [List.mem_cons, List.not_mem_nil, or_false] at hq
    exact ⟨s, q, i4, h4, rfl, hi4, hs, by omega⟩
  | false => exact ⟨s, w, i3, h3, rfl, hi3, hs, by omega⟩
theorem u_big {α : Type} {f g : Nat → Option α} {x : List Int} {r : α} (h1 : Ev f r) (h2 : x.length ≤ 1048576 → Ev g r) : Ev (fun k => (laws_big.f x).bind fun t => if t = true then f k else g k) r := by
  unfold laws_big.f
  simp only [Option.bind_some]
  by_cases h : (x.length : Int) > 1048576
  · simpa [h] using h1
  · simpa [h] using h2 (by omega)
theorem u_first_facts (p : Int → Bool) (tt : Int) (d : Nat) : ∀ t, u_first p tt d t = -1 ∨ (t ≤ u_first p tt d t ∧ u_first p tt d t < tt ∧ p (u_first p tt d t) = true ∧ ∀ u, t ≤ u → u < u_first p tt d t → p u = false) := by
  induction d with
  | zero => intro t; left; rfl
  | succ d ih =>
    intro t
    unfold u_first
    by_cases h1 : t < tt ∧ t ≤ 1000
    · rw [if_pos h1]
      cases hp : p t with
      | true =>
        right
        simp only [if_true]
        exact ⟨by omega, h1.1, hp, fun u h2 h3 => by omega⟩
      | false =>
        simp only [Bool.false_eq_true, if_false]
        rcases ih (t + 1) with h | ⟨h2, h3, h4, h5⟩
        · left; exact h
        · right
          refine ⟨by omega, h3, h4, fun u hu1 hu2 => ?_⟩
          by_cases e : u = t
          · rw [e]; exact hp
          · exact h5 u (by omega) hu2
    · rw [if_neg h1]; left; rfl
def u_sat (a b c d t : Int) : Bool := decide (0 ≤ a ∧ a < t ∧ (0 ≤ b ∧ b ≤ 359) ∧ (-60 ≤ c ∧ c ≤ 60) ∧ 0 ≤ d ∧ d ≤ 20)
theorem u_issat (a b c d t : Int) : impl_IsSat.f a b c d t = some (u_sat a b c d t) := by
  unfold impl_IsSat.f impl_InRange.f u_sat
  by_cases h1 : 0 ≤ a <;> by_cases h2 : a < t <;> by_cases h3 : 0 ≤ b <;> by_cases h4 : b ≤ 359 <;> by_cases h5 : -60 ≤ c <;> by_cases h6 : c ≤ 60 <;> by_cases h7 : 0 ≤ d <;> simp [h1, h2, h3, h4, h5, h6, h7]
theorem u_orbit_l1 (fr tt f a ph v e s w : Int) (hf : f ≤ 1000) (h1 : fr ≤ f) (h2 : f < tt) (h3 : u_arc s w (u_place ph v f) = true) (d : Nat) : ∀ u : Int, 0 ≤ u → u + d = f → (∀ x, u ≤ x → x < f → u_arc s w (u_place ph v x) = false) → Ev (fun k => laws_FnOrbits.l1 k fr tt f u a ph v e s w) true := by
  induction d with
  | zero =>
    intro u h0 hd _
    refine u_evsucc ?_
    simp only [laws_FnOrbits.l1, u_iplace, u_iinarc, Option.bind_some]
    refine u_ev_neg (by omega) (u_ev_pos (by omega) (u_ev_pos (by omega) ?_))
    rw [h3]; exact Ev.now true
  | succ d ih =>
    intro u h0 hd hx
    refine u_evsucc ?_
    simp only [laws_FnOrbits.l1, u_iplace, u_iinarc, Option.bind_some]
    refine u_ev_pos (by omega) (u_ev_neg ?_ ?_)
    · rw [hx u (by omega) (by omega)]; simp
    · rw [u_w64 (by omega) (by omega)]
      exact ih (u + 1) (by omega) (by omega) (fun x h4 h5 => hx x (by omega) h5)
theorem u_near (p e d : Int) (he : 0 ≤ e ∧ e ≤ 20) (hd : -25 ≤ d ∧ d ≤ 25) : u_arc (u_widen p 0 e).1 (u_widen p 0 e).2 (p + d) = true ↔ (-e ≤ d ∧ d ≤ e) := by
  unfold u_widen
  rw [if_pos ⟨⟨by omega, by omega⟩, by omega, by omega⟩, if_pos (by omega)]
  simp only [u_arc_iff]
  omega
theorem u_orbit_end (l : List Int) (h0 : Int) (hb : l.length ≤ 1048576) (hn : Ev (fun k => spec_l1New.f k l) (l, 0, h0)) : ∃ a ph v e s w fr tt, Ev (fun k => spec_DrawFirstAt.f k l) (a, ph, v, e, s, w, fr, tt) := by
  obtain ⟨a, ph, v, e, i1, h1, e1, hi1, _⟩ := u_sat6 l 0 h0 hb (by omega)
  obtain ⟨s, w, i2, h2, e2, hi2, _⟩ := u_arc5 l i1 h1 hb hi1
  obtain ⟨fr, i3, h3, e3, hi3, _⟩ := u_raw4 l i2 h2 hb hi2
  obtain ⟨tt, i4, h4, e4, hi4, _⟩ := u_raw4 l i3 h3 hb hi3
  refine ⟨a, ph, v, e, s, w, fr, tt, ?_⟩
  unfold spec_DrawFirstAt.f
  refine Ev.bind hn ?_
  simp only [e1, e2, e3, e4, Option.bind_some]
  exact Ev.now _
theorem u_orbit_l0 (l : List Int) (h0 : Int) (hb : l.length ≤ 1048576) (hn : Ev (fun k => spec_l1New.f k l) (l, 0, h0)) (p a ph v e : Int) (hp : 0 ≤ p ∧ p < 360) (n : Nat) : ∀ d : Int, -25 ≤ d → d + n = 26 → Ev (fun k => laws_FnOrbits.l0 k l p d a ph v e (u_widen p 0 e).1 (u_widen p 0 e).2) true := by
  induction n with
  | zero =>
    intro d hd hdn
    refine u_evsucc ?_
    simp only [laws_FnOrbits.l0]
    obtain ⟨a', ph', v', e', s, w, fr, tt, hdraw⟩ := u_orbit_end l h0 hb hn
    refine u_ev_neg (by omega) (Ev.bind hdraw (Ev.bind (u_ifirst a' ph' v' e' s w fr tt) ?_))
    have hfacts : u_firstAt ph' v' s w fr tt = -1 ∨ ((if fr ≤ 0 then 0 else fr) ≤ u_firstAt ph' v' s w fr tt ∧ u_firstAt ph' v' s w fr tt < tt ∧ u_arc s w (u_place ph' v' (u_firstAt ph' v' s w fr tt)) = true ∧ ∀ u, (if fr ≤ 0 then 0 else fr) ≤ u → u < u_firstAt ph' v' s w fr tt → u_arc s w (u_place ph' v' u) = false) := u_first_facts _ _ _ _
    have hle : u_firstAt ph' v' s w fr tt ≤ 1000 := by
      have hx : ∀ (q : Int → Bool) (d : Nat) (t : Int), u_first q tt d t ≤ 1000 := by
        intro q d
        induction d with
        | zero => intro t; simp [u_first]
        | succ d ih =>
          intro t; unfold u_first
          split
          · split
            · omega
            · exact ih _
          · omega
      exact hx _ _ _
    generalize u_firstAt ph' v' s w fr tt = f at hfacts hle
    dsimp only
    rcases hfacts with rfl | ⟨g1, g2, g3, g4⟩
    · exact u_ev_pos (by omega) (Ev.now true)
    · have hmx : mx 0 fr = (if fr ≤ 0 then 0 else fr) := by unfold mx; split <;> split <;> omega
      unfold impl_Max.f
      rw [hmx]
      simp only [Option.bind_some]
      generalize hst : (if fr ≤ 0 then 0 else fr) = st at *
      have hst0 : 0 ≤ st ∧ fr ≤ st := by rw [← hst]; split <;> omega
      refine u_ev_neg (by omega) ?_
      exact u_orbit_l1 fr tt f a' ph' v' e' s w hle (by omega) g2 g3 (f - st).toNat st hst0.1 (by omega) g4
  | succ n ih =>
    intro d hd hdn
    refine u_evsucc ?_
    simp only [laws_FnOrbits.l0, u_issat, u_iinarc, Option.bind_some]
    refine u_ev_pos (by omega) ?_
    have hnext : Ev (fun k => laws_FnOrbits.l0 k l p (wrap64 (d + 1)) a ph v e (u_widen p 0 e).1 (u_widen p 0 e).2) true := by
      rw [u_w64 (by omega) (by omega)]; exact ih (d + 1) (by omega) (by omega)
    cases hs : u_sat a ph v e 3 with
    | false => exact u_ev_neg (by simp) hnext
    | true =>
      refine u_ev_pos (by trivial) ?_
      have he : 0 ≤ e ∧ e ≤ 20 := by
        unfold u_sat at hs
        have := of_decide_eq_true hs
        omega
      rw [u_w64 (x := p + d) (by omega) (by omega), u_w64 (x := -e) (by omega) (by omega)]
      have hnr := u_near p e d he (by omega)
      by_cases h1 : d ≥ -e
      · refine u_ev_pos h1 (u_ev_neg ?_ hnext)
        have : u_arc (u_widen p 0 e).1 (u_widen p 0 e).2 (p + d) = decide (d ≤ e) := by
          rw [Bool.eq_iff_iff, hnr, decide_eq_true_iff]; omega
        rw [this]; simp
      · refine u_ev_neg h1 (u_ev_neg ?_ hnext)
        have : u_arc (u_widen p 0 e).1 (u_widen p 0 e).2 (p + d) = false := by
          rw [← Bool.not_eq_true, hnr]; omega
        rw [this]; simp

theorem FnOrbits : laws_FnOrbits.Pure := by
  intro l _ _ hw
  refine Ev.rounds ?_
  unfold laws_FnOrbits.f
  refine u_big (Ev.now true) fun hb => ?_
  obtain ⟨h0, hn⟩ := u_new l hb
  obtain ⟨a, ph, v, e, i1, h1, e1, hi1, _⟩ := u_sat6 l 0 h0 hb (by omega)
  obtain ⟨t, i2, h2, e2, hi2, ht⟩ := u_raw4 l i1 h1 hb hi1
  have hdraw : Ev (fun k => spec_DrawPlaceAt.f k l) (a, ph, v, e, t) := by
    unfold spec_DrawPlaceAt.f
    refine Ev.bind hn ?_
    simp only [e1, e2, Option.bind_some]
    exact Ev.now _
  obtain ⟨N, hN, hz, hl⟩ := u_round v
  have hp := u_place_bd ph v t
  have hj : Ev (fun k => laws_FnOrbits.j0 k l t (u_place ph v t) false a ph v e) true := by
    refine u_evsucc ?_
    simp only [laws_FnOrbits.j0, Bool.false_eq_true, if_false]
    unfold impl_PlacesAt.f
    simp only [u_iplace, u_iwiden, Option.bind_some]
    exact u_orbit_l0 l h0 hb hn (u_place ph v t) a ph v e hp 51 (-25) (by omega) (by omega)
  refine Ev.bind hdraw (Ev.bind (u_iround a ph v e N hN hz hl) ?_)
  simp only [u_iplace, Option.bind_some]
  refine u_ev_neg (by omega) (u_ev_neg (by omega) (u_ev_neg (by omega) (u_ev_neg (by omega) ?_)))
  refine u_ev_ite (fun ht0 => u_ev_ite (fun hw1 => u_ev_ite (fun _ => ?_) fun _ => hj) fun _ => hj) fun _ => hj
  have hback : u_place ph v (wrap64 (t + ((N : Int) + 1))) = u_place ph v t := by
    by_cases ho : t + ((N : Int) + 1) ≤ 9223372036854775807
    · rw [u_w64 (by omega) ho] at hw1 ⊢
      unfold u_place
      rw [if_pos ⟨by omega, by omega⟩, if_pos ⟨by omega, by omega⟩, Int.mul_add, Int.mul_comm (u_speed v) ((N : Int) + 1)]
      omega
    · have hneg : wrap64 (t + ((N : Int) + 1)) < 0 := by unfold wrap64; omega
      unfold u_place
      rw [if_neg (by omega), if_neg (by omega)]
  rw [hback, bne_self_eq_false]
  exact hj

end Go.Proofs.Ytolepbdmbedload.Pure
