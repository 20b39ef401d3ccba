/- FnSkies returns true for every byte slice; no condition. -/
import Derived.Laws.Bits128
import Derived.Test.YtpkmgdjhimkiiaaHFnSkiesx9
namespace Go.Proofs.Ytpkmgdjhimkiiaa.Pure
open Go.RowKit Go.Proofs.Ytpkmgdjhimkiiaa.PFnSkies Go.Proofs.YtpkmgdjhimkiiaaW.PrintWords Go.Proofs.YtpkmgdjhimkiiaaW.PrintLast
set_option linter.unusedVariables false
set_option linter.unusedSimpArgs false

theorem u_evloop {ρ : Type} (g : Nat → Nat → Option ρ) (n : Nat) (r : ρ) (hs : ∀ i, i < n → ∃ K, ∀ k, K ≤ k → g (k + 1) i = g k (i + 1)) (he : ∃ K, ∀ k, K ≤ k → g (k + 1) n = some r) : Ev (fun k => g k 0) r := by
  have h : ∀ d i, i + d = n → Ev (fun k => g k i) r := by
    intro d
    induction d with
    | zero =>
      intro i hi
      obtain ⟨K, hK⟩ := he
      refine ⟨K + 1, fun k hk => ?_⟩
      obtain ⟨k, rfl⟩ : ∃ m, k = m + 1 := ⟨k - 1, by omega⟩
      obtain rfl : i = n := by omega
      exact hK k (by omega)
    | succ d ih =>
      intro i hi
      obtain ⟨K, hK⟩ := hs i (by omega)
      obtain ⟨L, hL⟩ := ih (i + 1) (by omega)
      refine ⟨K + L + 1, fun k hk => ?_⟩
      obtain ⟨k, rfl⟩ : ∃ m, k = m + 1 := ⟨k - 1, by omega⟩
      show g (k + 1) i = some r
      rw [hK k (by omega)]
      exact hL k (by omega)
  exact h n 0 (by omega)
theorem u_ev_ite {α : Type} {c : Prop} [Decidable c] {f g : Nat → Option α} {r : α} (h1 : c → Ev f r) (h2 : ¬ c → Ev g r) : Ev (fun k => if c then f k else g k) r := by
  by_cases h : c
  · simpa [h] using h1 h
  · simpa [h] using h2 h
theorem u_w64 {x : Int} (h1 : -9223372036854775808 ≤ x) (h2 : x ≤ 9223372036854775807) : wrap64 x = x := by unfold wrap64; omega
theorem u_rd (xs : List Int) (i : Nat) : rd xs (i : Int) = xs.getD i 0 := by simp [rd]
theorem u_set_fill {α : Type} (xs : List α) (z d : α) (i : Nat) (h : i < xs.length) : (xs.take i ++ List.replicate (xs.length - i) z).set i (xs.getD i d) = xs.take (i + 1) ++ List.replicate (xs.length - (i + 1)) z := by
  apply List.ext_getElem?
  intro j
  have hl : (xs.take i).length = i := by simp; omega
  rcases Nat.lt_trichotomy j i with h1 | h1 | h1
  · rw [List.getElem?_set_ne (by omega), List.getElem?_append_left (by omega), List.getElem?_append_left (by simp; omega)]
    simp [List.getElem?_take, h1, show j < i + 1 by omega]
  · subst h1
    rw [List.getElem?_set_self (by simp; omega), List.getElem?_append_left (by simp; omega)]
    simp [List.getElem?_take, List.getD_eq_getElem?_getD, List.getElem?_eq_getElem h]
  · rw [List.getElem?_set_ne (by omega), List.getElem?_append_right (by omega), List.getElem?_append_right (by simp; omega)]
    simp only [List.getElem?_replicate, hl, List.length_take]
    have e : min (i + 1) xs.length = i + 1 := by omega
    rw [e]
    by_cases h2 : j < xs.length
    · rw [if_pos (by omega), if_pos (by omega)]
    · rw [if_neg (by omega), if_neg (by omega)]
/-- What mark writes: the counters from k on. -/
def u_marks (f : Int → Int) (k : Int) (n : Nat) : List Int := (List.range n).map fun i : Nat => f (k + (i : Int))
theorem u_marks_len (f : Int → Int) (k : Int) (n : Nat) : (u_marks f k n).length = n := by simp [u_marks]
theorem u_marks_get (f : Int → Int) (k : Int) (n i : Nat) (h : i < n) : (u_marks f k n).getD i 0 = f (k + i) := by simp [u_marks, List.getD_eq_getElem?_getD, List.getElem?_map, List.getElem?_range h]
theorem u_marks_set (f : Int → Int) (k : Int) (xs : List Int) (i : Nat) (h : i < xs.length) : (u_marks f k i ++ xs.drop i).set i (f (k + i)) = u_marks f k (i + 1) ++ xs.drop (i + 1) := by
  have e : u_marks f k (i + 1) = u_marks f k i ++ [f (k + i)] := by simp [u_marks, List.range_succ]
  rw [e, List.set_append_right _ _ (by rw [u_marks_len]; omega), u_marks_len, Nat.sub_self, List.append_assoc]
  congr 1
  rw [List.drop_eq_getElem_cons h]
  rfl
theorem u_take_succ {α : Type} (xs : List α) (d : α) (i : Nat) (h : i < xs.length) : xs.take (i + 1) = xs.take i ++ [xs.getD i d] := by
  rw [List.take_succ_eq_append_getElem h]; simp [List.getD_eq_getElem?_getD, List.getElem?_eq_getElem h]
theorem u_evsucc {α : Type} {g : Nat → Option α} {r : α} (h : Ev (fun k => g (k + 1)) r) : Ev g r := by
  obtain ⟨K, hK⟩ := h
  refine ⟨K + 1, fun k hk => ?_⟩
  obtain ⟨k, rfl⟩ : ∃ m, k = m + 1 := ⟨k - 1, by omega⟩
  exact hK k (by omega)
theorem u_ev_pos {α : Type} {c : Prop} [Decidable c] {f g : Nat → Option α} {r : α} (hc : c) (h : Ev f r) : Ev (fun k => if c then f k else g k) r := by simpa [hc] using h
theorem u_ev_neg {α : Type} {c : Prop} [Decidable c] {f g : Nat → Option α} {r : α} (hc : ¬ c) (h : Ev g r) : Ev (fun k => if c then f k else g k) r := by simpa [hc] using h
theorem u_and255 (n : Int) : Go.bits .and .i64 n 255 = n % 256 := by
  have h : (BitVec.ofInt 64 255).toNat = 2 ^ 8 - 1 := by decide
  have key : (BitVec.ofInt 64 n &&& BitVec.ofInt 64 255).toNat = (n % ((2 ^ 64 : Nat) : Int)).toNat % 2 ^ 8 := by
    rw [BitVec.toNat_and, BitVec.toNat_ofInt, h, Nat.and_two_pow_sub_one_eq_mod]
  show IntKind.i64.wrap ((BitVec.ofInt 64 n &&& BitVec.ofInt 64 255).toNat : Nat) = n % 256
  rw [key, IntKind.wrap_i64]
  omega
/-- A draw answers, its cursor stays in place, and what it draws is as p says. -/
def u_dr {α : Type} (o : Option (α × Int × Int)) (p : α → Prop) : Prop := ∃ r i h, o = some (r, i, h) ∧ 0 ≤ i ∧ p r
theorem u_drew {α β : Type} {o : Option (α × Int × Int)} {p : α → Prop} {f : α × Int × Int → Option (β × Int × Int)} {q : β → Prop} (h : u_dr o p) (k : ∀ r i h, 0 ≤ i → p r → u_dr (f (r, i, h)) q) : u_dr (o.bind f) q := by
  obtain ⟨r, i, h, rfl, h0, hp⟩ := h
  exact k r i h h0 hp
theorem u_done {α : Type} {r : α} {i h : Int} {p : α → Prop} (h0 : 0 ≤ i) (hp : p r) : u_dr (some (r, i, h)) p := ⟨r, i, h, rfl, h0, hp⟩
theorem u_new (b : List Int) (hb : b.length ≤ 1048576) : ∃ h, Ev (fun k => spec_l1New.f k b) (b, 0, h) := by
  unfold spec_l1New.f
  have hx : ∀ (d : Nat) (h : Int) (i : Nat), i + d = b.length → ∃ r, Ev (fun k => spec_l1New.l0 k b h i) (b, 0, r) := by
    intro d
    induction d with
    | zero =>
      intro h i hi
      refine ⟨h, u_evsucc ?_⟩
      simp only [spec_l1New.l0]
      exact u_ev_neg (by omega) (Ev.now _)
    | succ d ih =>
      intro h i hi
      by_cases h4 : (i : Int) < 4000
      · obtain ⟨r, hr⟩ := ih (Go.bits .and .i64 (wrap64 ((wrap64 ((wrap64 (h * 137)) + (wrap64 (rd b i)))) + 11)) 1073741823) (i + 1) (by omega)
        refine ⟨r, u_evsucc ?_⟩
        simp only [spec_l1New.l0]
        refine u_ev_pos (by omega) (u_ev_pos h4 (u_ev_pos (by omega) ?_))
        rw [u_w64 (x := (i : Int) + 1) (by omega) (by omega)]
        exact hr
      · refine ⟨h, u_evsucc ?_⟩
        simp only [spec_l1New.l0]
        exact u_ev_pos (by omega) (u_ev_neg h4 (Ev.now _))
  exact hx b.length _ 0 (by omega)
theorem u_byte (b : List Int) (i h : Int) (hb : b.length ≤ 1048576) (hi : 0 ≤ i) : u_dr (spec_l1Byte.f b i h) (fun r => 0 ≤ r ∧ r ≤ 255) := by
  unfold spec_l1Byte.f
  by_cases hl : i < (b.length : Int)
  · rw [if_pos hl, if_pos hi, u_and255, u_and255, u_w64 (x := i + 1) (by omega) (by omega)]
    exact u_done (by omega) (by omega)
  · rw [if_neg hl, u_and255]
    exact u_done hi (by omega)
theorem u_tmod_add (p : Int) {q : Int} (hq : 0 < q) : (p.tmod q + q).tmod q = p % q := by
  have h1 := Int.tmod_lt_of_pos p hq
  have h2 : -q < p.tmod q := by
    rcases Int.le_total 0 p with h | h
    · have := Int.tmod_nonneg q h; omega
    · have h3 : (-p).tmod q = -(p.tmod q) := Int.neg_tmod _ _
      have h4 := Int.tmod_lt_of_pos (-p) hq
      omega
  rw [Int.tmod_eq_emod_of_nonneg (by omega), Int.add_emod_right]
  have := Int.tmod_eq_emod (a := p) (b := q)
  rw [this]
  split
  · simp
  · rw [Int.sub_emod]
    have : ((q.natAbs : Int)) % q = 0 := by
      have : (q.natAbs : Int) = q := by omega
      rw [this]; exact Int.emod_self
    rw [this]; simp
theorem u_tmod_fix (p : Int) {q : Int} (hq : 0 < q) : (if p.tmod q < 0 then p.tmod q + q else p.tmod q) = p % q := by
  have h1 := Int.tmod_lt_of_pos p hq
  have h2 : -q < p.tmod q := by
    rcases Int.le_total 0 p with h | h
    · have := Int.tmod_nonneg q h; omega
    · have h3 : (-p).tmod q = -(p.tmod q) := Int.neg_tmod _ _
      have h4 := Int.tmod_lt_of_pos (-p) hq
      omega
  have h3 := u_tmod_add p hq
  split
  · rw [Int.tmod_eq_emod_of_nonneg (by omega)] at h3
    rw [← h3, Int.emod_eq_of_lt (by omega) (by omega)]
  · rw [Int.tmod_eq_emod_of_nonneg (by omega), Int.add_emod_right, Int.emod_eq_of_lt (by omega) (by omega)] at h3
    exact h3
theorem u_tmod_bd (p : Int) {q : Int} (hq : 0 < q) : -q < p.tmod q ∧ p.tmod q < q := by
  have h1 := Int.tmod_lt_of_pos p hq
  refine ⟨?_, h1⟩
  rcases Int.le_total 0 p with h | h
  · have := Int.tmod_nonneg q h; omega
  · have h3 : (-p).tmod q = -(p.tmod q) := Int.neg_tmod _ _
    have h4 := Int.tmod_lt_of_pos (-p) hq
    omega
theorem u_below (b : List Int) (i h n : Int) (hb : b.length ≤ 1048576) (hi : 0 ≤ i) : u_dr (spec_l1Below.f b i h n) (fun r => 0 ≤ r ∧ (r < n ∨ n ≤ 0 ∧ r = 0)) := by
  unfold spec_l1Below.f
  split
  · exact u_done hi (by omega)
  · rename_i hn
    split
    · refine u_drew (u_byte b i h hb hi) fun r i h hi hr => ?_
      rw [if_neg (by omega)]
      dsimp only
      have := Int.tmod_lt_of_pos r (show 0 < n by omega)
      have := Int.tmod_nonneg n hr.1
      exact u_done hi (by omega)
    · refine u_drew (u_byte b i h hb hi) fun r i h hi hr => u_drew (u_byte b i h hb hi) fun r2 i h hi hr2 => u_drew (u_byte b i h hb hi) fun r3 i h hi hr3 => ?_
      rw [if_neg (by omega)]
      dsimp only
      rw [u_w64 (x := r * 65536) (by omega) (by omega), u_w64 (x := r2 * 256) (by omega) (by omega), u_w64 (x := r * 65536 + r2 * 256) (by omega) (by omega), u_w64 (x := r * 65536 + r2 * 256 + r3) (by omega) (by omega)]
      have := Int.tmod_lt_of_pos (r * 65536 + r2 * 256 + r3) (show 0 < n by omega)
      have := Int.tmod_nonneg n (show 0 ≤ r * 65536 + r2 * 256 + r3 by omega)
      exact u_done hi (by omega)
theorem u_once (b : List Int) (i h n : Int) (hb : b.length ≤ 1048576) (hi : 0 ≤ i) : u_dr (spec_l1Once.f b i h n) (fun _ => True) := by
  unfold spec_l1Once.f
  exact u_drew (u_below b i h n hb hi) fun r i h hi hr => u_done hi trivial
theorem u_pick (b : List Int) (i h : Int) (l : List Int) (hb : b.length ≤ 1048576) (hi : 0 ≤ i) (hl : l ≠ []) : u_dr (spec_l1Int.f b i h l) (fun r => r ∈ l) := by
  unfold spec_l1Int.f
  refine u_drew (u_below b i h _ hb hi) fun r i h hi hr => ?_
  have hp := List.length_pos_iff.2 hl
  rw [if_pos hr.1, if_pos (by omega)]
  refine u_done hi ?_
  unfold rd
  rw [List.getD_eq_getElem?_getD, List.getElem?_eq_getElem (by omega)]
  exact List.getElem_mem _
theorem u_angle5 (b : List Int) (i h : Int) (hb : b.length ≤ 1048576) (hi : 0 ≤ i) : u_dr (spec_l5Angle.f b i h) (fun r => -9223372036854775808 ≤ r ∧ r ≤ 9223372036854775807) := by
  unfold spec_l5Angle.f
  refine u_drew (u_once b i h 6 hb hi) fun r i h hi hr => ?_
  cases r with
  | true =>
    simp only [if_true]
    refine u_drew (u_pick b i h _ hb hi (by simp)) fun r i h hi hr => u_done hi ?_
    simp only [List.mem_cons, List.not_mem_nil, or_false] at hr; omega
  | false =>
    simp only [Bool.false_eq_true, if_false]
    exact u_drew (u_below b i h 360 hb hi) fun r i h hi hr => u_done hi (by omega)
theorem u_sat6 (b : List Int) (i h : Int) (hb : b.length ≤ 1048576) (hi : 0 ≤ i) : ∃ p q v e i' h', spec_l6Any.f b i h = some (p, q, v, e, i', h') ∧ 0 ≤ i' ∧ (-9223372036854775808 ≤ p ∧ p ≤ 9223372036854775807) ∧ (-9223372036854775808 ≤ q ∧ q ≤ 9223372036854775807) ∧ (-9223372036854775808 ≤ v ∧ v ≤ 9223372036854775807) ∧ (-9223372036854775808 ≤ e ∧ e ≤ 9223372036854775807) := by
  unfold spec_l6Any.f spec_l6Draw.f
  obtain ⟨p, i1, h1, e1, hi1, hp⟩ := u_below b i h 3 hb hi
  obtain ⟨q, i2, h2, e2, hi2, hq⟩ := u_below b i1 h1 12 hb hi1
  obtain ⟨v, i3, h3, e3, hi3, hv⟩ := u_pick b i2 h2 ([5, 10, 12, (-10), 0] : List Int) hb hi2 (by simp)
  obtain ⟨e, i4, h4, e4, hi4, he⟩ := u_below b i3 h3 3 hb hi3
  obtain ⟨n, i5, h5, e5, hi5, hn⟩ := u_below b i4 h4 9 hb hi4
  simp only [List.mem_cons, List.not_mem_nil, or_false] at hv
  simp only [e1, e2, e3, e4, e5, Option.bind_some]
  rw [u_w64 (x := 30 * q) (by omega) (by omega)]
  split
  · obtain ⟨r, i6, h6, e6, hi6, hr⟩ := u_pick b i5 h5 ([(-1), 3, 9223372036854775807] : List Int) hb hi5 (by simp)
    simp only [List.mem_cons, List.not_mem_nil, or_false] at hr
    simp only [e6, Option.bind_some]
    exact ⟨r, 30 * q, v, e, i6, h6, rfl, hi6, by omega, by omega, by omega, by omega⟩
  split
  · obtain ⟨r, i6, h6, e6, hi6, hr⟩ := u_angle5 b i5 h5 hb hi5
    simp only [e6, Option.bind_some]
    exact ⟨p, r, v, e, i6, h6, rfl, hi6, by omega, hr, by omega, by omega⟩
  split
  · obtain ⟨r, i6, h6, e6, hi6, hr⟩ := u_pick b i5 h5 ([60, 61, (-60), (-61), 9223372036854775807] : List Int) hb hi5 (by simp)
    simp only [List.mem_cons, List.not_mem_nil, or_false] at hr
    simp only [e6, Option.bind_some]
    exact ⟨p, 30 * q, r, e, i6, h6, rfl, hi6, by omega, by omega, by omega, by omega⟩
  split
  · obtain ⟨r, i6, h6, e6, hi6, hr⟩ := u_pick b i5 h5 ([(-1), 20, 21] : List Int) hb hi5 (by simp)
    simp only [List.mem_cons, List.not_mem_nil, or_false] at hr
    simp only [e6, Option.bind_some]
    exact ⟨p, 30 * q, v, r, i6, h6, rfl, hi6, by omega, by omega, by omega, by omega⟩
  · exact ⟨p, 30 * q, v, e, i5, h5, rfl, hi5, by omega, by omega, by omega, by omega⟩
theorem u_arc5 (b : List Int) (i h : Int) (hb : b.length ≤ 1048576) (hi : 0 ≤ i) : ∃ s w i' h', spec_l5Arc.f b i h = some (s, w, i', h') ∧ 0 ≤ i' ∧ (-9223372036854775808 ≤ s ∧ s ≤ 9223372036854775807) ∧ (-9223372036854775808 ≤ w ∧ w ≤ 9223372036854775807) := by
  unfold spec_l5Arc.f
  obtain ⟨s, i1, h1, e1, hi1, hs⟩ := u_angle5 b i h hb hi
  obtain ⟨w, i2, h2, e2, hi2, hw⟩ := u_below b i1 h1 80 hb hi1
  obtain ⟨o, i3, h3, e3, hi3, _⟩ := u_once b i2 h2 6 hb hi2
  simp only [e1, e2, e3, Option.bind_some]
  cases o with
  | true =>
    obtain ⟨q, i4, h4, e4, hi4, hq⟩ := u_pick b i3 h3 ([(-1), 0, 359, 360, 9223372036854775807] : List Int) hb hi3 (by simp)
    simp only [e4, Option.bind_some, if_true]
    simp only [List.mem_cons, List.not_mem_nil, or_false] at hq
    exact ⟨s, q, i4, h4, rfl, hi4, hs, by omega⟩
  | false => exact ⟨s, w, i3, h3, rfl, hi3, hs, by omega⟩
theorem u_big {α : Type} {f g : Nat → Option α} {x : List Int} {r : α} (h1 : Ev f r) (h2 : x.length ≤ 1048576 → Ev g r) : Ev (fun k => (laws_big.f x).bind fun t => if t = true then f k else g k) r := by
  unfold laws_big.f
  simp only [Option.bind_some]
  by_cases h : (x.length : Int) > 1048576
  · simpa [h] using h1
  · simpa [h] using h2 (by omega)
theorem u_smod (a : Int) {q : Int} (h1 : 1 ≤ q) (h2 : q ≤ 1000000000000) : spec_Mod.f a q = some (a % q) := by
  unfold spec_Mod.f spec_l1In.f
  have hb := u_tmod_bd a (q := q) (by omega)
  simp only [ge_iff_le, h1, if_true, h2, decide_true, Option.bind_some, show ¬ q = 0 by omega, if_false]
  rw [u_w64 (by omega) (by omega), u_tmod_add a (by omega)]
theorem u_smod0 (a : Int) {q : Int} (h : q < 1 ∨ 1000000000000 < q) : spec_Mod.f a q = some 0 := by
  unfold spec_Mod.f spec_l1In.f
  by_cases h1 : 1 ≤ q
  · simp [h1, show ¬ q ≤ 1000000000000 by omega]
  · simp [h1]
theorem u_sangle (a : Int) : spec_AngleOf.f a = some (a % 360) := by
  unfold spec_AngleOf.f; rw [u_smod a (by omega) (by omega)]; rfl
theorem u_ev_some {α : Type} {o : Option α} {a : α} (h : o = some a) : Ev (fun _ => o) a := by subst h; exact Ev.now a
theorem u_ev_eq {α : Type} {g : Nat → Option α} {r s : α} (h : Ev g r) (e : r = s) : Ev g s := e ▸ h
def u_inr (p lo hi : Int) : Bool := decide (lo ≤ p ∧ p ≤ hi)
theorem u_inr_iff (p lo hi : Int) : u_inr p lo hi = true ↔ lo ≤ p ∧ p ≤ hi := by unfold u_inr; exact decide_eq_true_iff
theorem u_inr_not (p lo hi : Int) : u_inr p lo hi = false ↔ ¬ (lo ≤ p ∧ p ≤ hi) := by unfold u_inr; exact decide_eq_false_iff_not
theorem u_range (p lo hi : Int) : impl_InRange.f p lo hi = some (u_inr p lo hi) := by
  unfold impl_InRange.f u_inr
  by_cases h : lo ≤ p <;> simp [h]
theorem u_nodes (a : Int) (x : List S43) (y : List S46) (b c d e f : Int) (z : List S50) (g : Int) (hx : x.length ≤ 6) (hy : y.length = 2) : impl_NodesOf.f a x y b c d e f z g = some ((x.length : Int) + (y.length : Int)) := by
  unfold impl_NodesOf.f
  rw [u_w64 (by omega) (by omega)]
theorem u_site (a : Int) (x : List S43) (y : List S46) (b c d e f : Int) (z : List S50) (g n : Int) (hx : x.length ≤ 6) (hy : y.length = 2) : impl_IsSite.f a x y b c d e f z g n = some (u_inr n x.length ((x.length : Int) + (y.length : Int) - 1)) := by
  unfold impl_IsSite.f
  rw [u_nodes a x y b c d e f z g hx hy]
  simp only [Option.bind_some]
  rw [u_w64 (by omega) (by omega), u_range]
  rfl
theorem u_satel (a : Int) (x : List S43) (y : List S46) (b c d e f : Int) (z : List S50) (g n : Int) (hx : x.length ≤ 6) : impl_isSatellite.f a x y b c d e f z g n = some (u_inr n 0 ((x.length : Int) - 1)) := by
  unfold impl_isSatellite.f
  rw [u_w64 (by omega) (by omega), u_range]
  rfl
def u_plane (x : List S43) (y : List S46) (n : Int) : Int := if 0 ≤ n ∧ n ≤ (x.length : Int) - 1 then (rd_T43 x n).f0 else if (x.length : Int) ≤ n ∧ n ≤ (x.length : Int) + (y.length : Int) - 1 then (rd_T46 y (n - (x.length : Int))).f0 else -1
theorem u_planeOf (a : Int) (x : List S43) (y : List S46) (b c d e f : Int) (z : List S50) (g n : Int) (hx : x.length ≤ 6) (hy : y.length = 2) : impl_PlaneOf.f a x y b c d e f z g n = some (u_plane x y n) := by
  unfold impl_PlaneOf.f u_plane
  rw [u_satel a x y b c d e f z g n hx, u_site a x y b c d e f z g n hx hy]
  simp only [Option.bind_some]
  by_cases h1 : 0 ≤ n ∧ n ≤ (x.length : Int) - 1
  · rw [if_pos ((u_inr_iff _ _ _).2 h1), if_pos h1, if_pos h1.1, if_pos (by omega)]
  · rw [if_neg (fun h => h1 ((u_inr_iff _ _ _).1 h)), if_neg h1]
    by_cases h2 : (x.length : Int) ≤ n ∧ n ≤ (x.length : Int) + (y.length : Int) - 1
    · rw [if_pos ((u_inr_iff _ _ _).2 h2), if_pos h2, u_w64 (by omega) (by omega), if_pos (by omega), if_pos (by omega)]
    · rw [if_neg (fun h => h2 ((u_inr_iff _ _ _).1 h)), if_neg h2]
/-- Neighbors, the lesser plane first. -/
def u_nb (pl lo hi : Int) : Bool := decide (0 ≤ lo ∧ wrap64 (hi - lo) = 1 ∨ lo = 0 ∧ hi = wrap64 (pl - 1) ∧ 1 ≤ hi ∧ hi ≤ 4)
def u_neigh (pl p q : Int) : Bool := if p > q then u_nb pl q p else u_nb pl p q
theorem u_neigh_comm (pl p q : Int) : u_neigh pl p q = u_neigh pl q p := by
  unfold u_neigh
  by_cases h1 : p > q
  · rw [if_pos h1, if_neg (by omega)]
  · by_cases h2 : q > p
    · rw [if_neg h1, if_pos h2]
    · obtain rfl : p = q := by omega
      rfl
theorem u_nbs (u v lo hi : Int) : (if lo ≥ 0 then (if u = 1 then (some true) else (if lo = 0 then (if hi = v then (some (u_inr hi 1 4)) else (some false)) else (some false))) else (if lo = 0 then (if hi = v then (some (u_inr hi 1 4)) else (some false)) else (some false))) = some (decide (0 ≤ lo ∧ u = 1 ∨ lo = 0 ∧ hi = v ∧ 1 ≤ hi ∧ hi ≤ 4)) := by
  unfold u_inr
  by_cases h1 : 0 ≤ lo
  · rw [if_pos h1]
    by_cases h2 : u = 1
    · rw [if_pos h2]; simp [h1, h2]
    · rw [if_neg h2]
      by_cases h3 : lo = 0
      · rw [if_pos h3]
        by_cases h4 : hi = v
        · rw [if_pos h4]; simp [h2, h3, h4]
        · rw [if_neg h4]; simp [h2, h4]
      · rw [if_neg h3]; simp [h2, h3]
  · rw [if_neg h1, if_neg (show ¬ lo = 0 by omega)]
    simp [h1, show ¬ lo = 0 by omega]
theorem u_near (a : Int) (x : List S43) (y : List S46) (b c d e f : Int) (z : List S50) (g p q : Int) : impl_areNeighbors.f a x y b c d e f z g p q = some (u_neigh a p q) := by
  unfold impl_areNeighbors.f u_neigh u_nb
  simp only [u_range, Option.bind_some]
  by_cases h : p > q
  · rw [if_pos h, if_pos h]; exact u_nbs _ _ _ _
  · rw [if_neg h, if_neg h]; exact u_nbs _ _ _ _
def u_lim (p q : Int) (one two bad nb : Bool) (r c v : Int) : Int :=
  if bad = true then -1 else if (one && two) = true then (if p = q then r else if nb = true then c else -1) else if (one != two) = true then (if p = q then v else if nb = true then v else -1) else -1
theorem u_lim_j0 (a : Int) (x : List S43) (y : List S46) (b c d e f : Int) (z : List S50) (g p q : Int) (one two bad : Bool) : Ev (fun k => impl_LimitOf.j0 k p q one two bad a x y b c d e f z g) (u_lim p q one two bad (u_neigh a p q) b c d) := by
  have hn := u_near a x y b c d e f z g p q
  have h2 : Ev (fun k => impl_LimitOf.j2 k p q one two false a x y b c d e f z g) (if (one != two) = true then (if p = q then d else if u_neigh a p q = true then d else -1) else -1) := by
    refine u_evsucc ?_
    simp only [impl_LimitOf.j2]
    refine u_ev_neg (by decide) ?_
    by_cases h : (one != two) = true
    · refine u_ev_eq (r := if p = q then d else if u_neigh a p q = true then d else -1) (u_ev_pos h ?_) (if_pos h).symm
      by_cases hp : p = q
      · exact u_ev_eq (u_ev_pos hp (Ev.now _)) (if_pos hp).symm
      · refine u_ev_eq (r := if u_neigh a p q = true then d else -1) (u_ev_neg hp (Ev.bind (u_ev_some hn) ?_)) (if_neg hp).symm
        by_cases hb : u_neigh a p q = true
        · exact u_ev_eq (u_ev_pos hb (Ev.now _)) (if_pos hb).symm
        · exact u_ev_eq (u_ev_neg hb (Ev.now _)) (if_neg hb).symm
    · exact u_ev_eq (u_ev_neg h (Ev.now _)) (if_neg h).symm
  refine u_evsucc ?_
  simp only [impl_LimitOf.j0]
  unfold u_lim
  cases bad with
  | true => exact u_ev_pos rfl (Ev.now _)
  | false =>
    refine u_ev_neg (by decide) ?_
    rw [if_neg (by decide)]
    have h1 : ∀ o, (one && two && o) = o ∧ (one && two) = true ∨ o = false ∧ (one && two) = false → Ev (fun k => impl_LimitOf.j1 k p q one two o a x y b c d e f z g) (if (one && two) = true then (if o = true then b else if u_neigh a p q = true then c else (if (one != two) = true then (if p = q then d else if u_neigh a p q = true then d else -1) else -1)) else (if (one != two) = true then (if p = q then d else if u_neigh a p q = true then d else -1) else -1)) := by
      intro o ho
      refine u_evsucc ?_
      simp only [impl_LimitOf.j1]
      rcases ho with ⟨_, ho⟩ | ⟨rfl, ho⟩
      · rw [if_pos ho]
        obtain ⟨rfl, rfl⟩ : one = true ∧ two = true := by simpa using ho
        cases o with
        | true => exact u_ev_pos rfl (Ev.now _)
        | false =>
          refine u_ev_neg (by decide) (u_ev_pos rfl (u_ev_pos rfl (Ev.bind (u_ev_some hn) ?_)))
          rw [if_neg (show ¬ (false = true) by decide)]
          cases hb : u_neigh a p q with
          | true =>
            rw [if_pos rfl]
            refine u_evsucc ?_
            simp only [impl_LimitOf.j2]
            exact u_ev_pos trivial (Ev.now _)
          | false =>
            rw [hb] at h2
            rw [if_neg (show ¬ (false = true) by decide)]
            exact h2
      · rw [ho, if_neg (show ¬ (false = true) by decide)]
        refine u_ev_neg (by decide) ?_
        by_cases h : one = true
        · refine u_ev_pos h (u_ev_neg ?_ h2)
          rw [h] at ho; simpa using ho
        · exact u_ev_neg h h2
    by_cases h : one = true
    · by_cases h' : two = true
      · subst h; subst h'
        refine u_ev_pos rfl (u_ev_pos rfl (u_ev_eq (h1 (p == q) (Or.inl ⟨by simp, by simp⟩)) ?_))
        by_cases hp : p = q
        · subst hp; simp
        · simp [hp]
      · refine u_ev_pos h (u_ev_neg h' (u_ev_eq (h1 false (Or.inr ⟨rfl, by simp [h']⟩)) ?_))
        simp [h']
    · refine u_ev_neg h (u_ev_eq (h1 false (Or.inr ⟨rfl, by simp [h]⟩)) ?_)
      simp [h]
def u_bad (x : List S43) (y : List S46) (m n : Int) : Bool := decide (m = n) || (!(u_inr m 0 ((x.length : Int) - 1)) && !(u_inr m x.length ((x.length : Int) + (y.length : Int) - 1))) || (!(u_inr n 0 ((x.length : Int) - 1)) && !(u_inr n x.length ((x.length : Int) + (y.length : Int) - 1)))
def u_limit (a : Int) (x : List S43) (y : List S46) (b c d : Int) (m n : Int) : Int :=
  u_lim (u_plane x y m) (u_plane x y n) (u_inr m 0 ((x.length : Int) - 1)) (u_inr n 0 ((x.length : Int) - 1)) (u_bad x y m n) (u_neigh a (u_plane x y m) (u_plane x y n)) b c d
theorem u_limitOf (a : Int) (x : List S43) (y : List S46) (b c d e f : Int) (z : List S50) (g m n : Int) (hx : x.length ≤ 6) (hy : y.length = 2) : Ev (fun k => impl_LimitOf.f k a x y b c d e f z g m n) (u_limit a x y b c d m n) := by
  unfold impl_LimitOf.f u_limit
  refine Ev.bind (u_ev_some (u_planeOf a x y b c d e f z g m hx hy)) (Ev.bind (u_ev_some (u_planeOf a x y b c d e f z g n hx hy)) (Ev.bind (u_ev_some (u_satel a x y b c d e f z g m hx)) (Ev.bind (u_ev_some (u_satel a x y b c d e f z g n hx)) ?_)))
  have hs := u_site a x y b c d e f z g m hx hy
  have ht := u_site a x y b c d e f z g n hx hy
  have hj := u_lim_j0 a x y b c d e f z g (u_plane x y m) (u_plane x y n)
  unfold u_bad
  by_cases hmn : m = n
  · refine u_ev_pos hmn (u_ev_eq (hj _ _ true) ?_)
    congr 1
    simp [hmn]
  · refine u_ev_neg hmn ?_
    cases h1 : u_inr m 0 ((x.length : Int) - 1) with
    | true =>
      refine u_ev_pos rfl ?_
      cases h2 : u_inr n 0 ((x.length : Int) - 1) with
      | true =>
        refine u_ev_pos rfl (u_ev_eq (hj _ _ false) ?_)
        congr 1
        simp [hmn]
      | false =>
        refine u_ev_neg (by decide) (Ev.bind (u_ev_some ht) (u_ev_eq (hj _ _ _) ?_))
        congr 1
        simp [hmn]
    | false =>
      refine u_ev_neg (by decide) (Ev.bind (u_ev_some hs) ?_)
      cases h3 : u_inr m x.length ((x.length : Int) + (y.length : Int) - 1) with
      | true =>
        refine u_ev_pos rfl ?_
        cases h2 : u_inr n 0 ((x.length : Int) - 1) with
        | true =>
          refine u_ev_pos rfl (u_ev_eq (hj _ _ false) ?_)
          congr 1
          simp [hmn]
        | false =>
          refine u_ev_neg (by decide) (Ev.bind (u_ev_some ht) (u_ev_eq (hj _ _ _) ?_))
          congr 1
          simp [hmn]
      | false =>
        refine u_ev_neg (by decide) (u_ev_eq (hj _ _ true) ?_)
        congr 1
        simp
theorem u_lim_comm (p q : Int) (one two bad nb : Bool) (r c v : Int) : u_lim p q one two bad nb r c v = u_lim q p two one bad nb r c v := by
  unfold u_lim
  by_cases hp : p = q
  · subst hp
    cases one <;> cases two <;> rfl
  · have hq : ¬ q = p := fun h => hp h.symm
    cases one <;> cases two <;> simp [hp, hq]
theorem u_limit_comm (a : Int) (x : List S43) (y : List S46) (b c d : Int) (m n : Int) : u_limit a x y b c d m n = u_limit a x y b c d n m := by
  unfold u_limit
  have hb : u_bad x y m n = u_bad x y n m := by
    unfold u_bad
    rw [show decide (m = n) = decide (n = m) from decide_eq_decide.2 eq_comm, Bool.or_assoc, Bool.or_assoc, Bool.or_comm (!_ && !_) (!_ && !_)]
  rw [hb, u_neigh_comm a (u_plane x y m) (u_plane x y n)]
  exact u_lim_comm _ _ _ _ _ _ _ _ _
theorem u_limit_same (a : Int) (x : List S43) (y : List S46) (b c d : Int) (m : Int) : u_limit a x y b c d m m = -1 := by
  unfold u_limit u_lim
  rw [if_pos (by unfold u_bad; simp)]
theorem u_limit_sites (a : Int) (x : List S43) (y : List S46) (b c d : Int) (m n : Int) (hm : u_inr m x.length ((x.length : Int) + (y.length : Int) - 1) = true) (hn : u_inr n x.length ((x.length : Int) + (y.length : Int) - 1) = true) : u_limit a x y b c d m n = -1 := by
  rw [u_inr_iff] at hm hn
  have h1 : u_inr m 0 ((x.length : Int) - 1) = false := (u_inr_not _ _ _).2 (by omega)
  have h2 : u_inr n 0 ((x.length : Int) - 1) = false := (u_inr_not _ _ _).2 (by omega)
  unfold u_limit u_lim
  rw [h1, h2, if_neg (show ¬ ((false && false) = true) by decide), if_neg (show ¬ ((false != false) = true) by decide)]
  split <;> rfl
theorem u_limit_le (a : Int) (x : List S43) (y : List S46) (b c d : Int) (m n : Int) (hb : b ≤ 180) (hc : c ≤ 180) (hd : d ≤ 180) : u_limit a x y b c d m n ≤ 180 := by
  unfold u_limit u_lim
  split
  · omega
  split
  · split
    · exact hb
    split
    · exact hc
    · omega
  split
  · split
    · exact hd
    split
    · exact hd
    · omega
  · omega
/-- A check answers, and p holds where it answers true. -/
def u_evb (g : Nat → Option Bool) (p : Prop) : Prop := ∃ r, Ev g r ∧ (r = true → p)
theorem u_evb_no {g : Nat → Option Bool} {p : Prop} (h : Ev g false) : u_evb g p := ⟨false, h, fun h => absurd h (by decide)⟩
def u_q3 (b c d : Int) : Prop := b ≤ 180 ∧ c ≤ 180 ∧ d ≤ 180
theorem u_isky3 (a : Int) (x : List S43) (y : List S46) (b c d e f : Int) (z : List S50) (g : Int) (l : List Int) (hl : l.length ≤ 1000) (n : Nat) : ∀ i : Nat, i + n = l.length → (∀ j : Nat, j < i → rd l j ≤ 180) → u_evb (fun k => impl_IsSky.l3 k l (l.length : Int) (i : Int) a x y b c d e f z g) (∀ j : Nat, j < l.length → rd l j ≤ 180) := by
  induction n with
  | zero =>
    intro i hi hj
    cases h : u_inr e (-60) 60 with
    | true =>
      refine ⟨u_inr g 0 20, u_evsucc ?_, fun _ j h => hj j (by omega)⟩
      simp only [impl_IsSky.l3]
      exact u_ev_neg (by omega) (Ev.bind (u_ev_some ((u_range _ _ _).trans (congrArg some h))) (u_ev_pos rfl (Ev.bind (u_ev_some (u_range _ _ _)) (Ev.now _))))
    | false =>
      refine u_evb_no (u_evsucc ?_)
      simp only [impl_IsSky.l3]
      exact u_ev_neg (by omega) (Ev.bind (u_ev_some ((u_range _ _ _).trans (congrArg some h))) (u_ev_neg (by decide) (Ev.now _)))
  | succ n ih =>
    intro i hi hj
    cases h : u_inr (rd l i) 0 180 with
    | true =>
      have hr := (u_inr_iff _ _ _).1 h
      obtain ⟨r, hr1, hr2⟩ := ih (i + 1) (by omega) (fun j h => by
        by_cases e : j = i
        · subst e; exact hr.2
        · exact hj j (by omega))
      refine ⟨r, u_evsucc ?_, hr2⟩
      simp only [impl_IsSky.l3]
      refine u_ev_pos (by omega) (u_ev_pos (by omega) (u_ev_pos (by omega) (Ev.bind (u_ev_some ((u_range _ _ _).trans (congrArg some h))) (u_ev_pos rfl ?_))))
      rw [u_w64 (x := (i : Int) + 1) (by omega) (by omega)]
      exact hr1
    | false =>
      refine u_evb_no (u_evsucc ?_)
      simp only [impl_IsSky.l3]
      exact u_ev_pos (by omega) (u_ev_pos (by omega) (u_ev_pos (by omega) (Ev.bind (u_ev_some ((u_range _ _ _).trans (congrArg some h))) (u_ev_neg (by decide) (Ev.now _)))))
theorem u_width (n : Int) : impl_isWidth.f n = some (u_inr n 0 359) := by
  unfold impl_isWidth.f; rw [u_range]; rfl
theorem u_isky2 (a : Int) (x : List S43) (y : List S46) (b c d e f : Int) (z : List S50) (g : Int) (hz : z.length ≤ 1000) (n : Nat) : ∀ i : Nat, i + n = z.length → u_evb (fun k => impl_IsSky.l2 k z (z.length : Int) (i : Int) a x y b c d e f z g) (u_q3 b c d) := by
  induction n with
  | zero =>
    intro i hi
    obtain ⟨r, h1, h2⟩ := u_isky3 a x y b c d e f z g [b, c, d, f] (by simp) 4 0 rfl (fun j h => absurd h (by omega))
    refine ⟨r, u_evsucc ?_, fun h => ?_⟩
    · simp only [impl_IsSky.l2]
      exact u_ev_neg (by omega) (Ev.bind (Ev.now _) h1)
    · have h3 := h2 h
      exact ⟨h3 0 (by simp), h3 1 (by simp), h3 2 (by simp)⟩
  | succ n ih =>
    intro i hi
    cases h : u_inr (rd_T50 z i).f0 0 (wrap64 (a - 1)) with
    | false =>
      refine u_evb_no (u_evsucc ?_)
      simp only [impl_IsSky.l2]
      exact u_ev_pos (by omega) (u_ev_pos (by omega) (u_ev_pos (by omega) (Ev.bind (u_ev_some ((u_range _ _ _).trans (congrArg some h))) (u_ev_neg (by decide) (Ev.now _)))))
    | true =>
      cases h' : u_inr (rd_T50 z i).f1.f1 0 359 with
      | false =>
        refine u_evb_no (u_evsucc ?_)
        simp only [impl_IsSky.l2]
        exact u_ev_pos (by omega) (u_ev_pos (by omega) (u_ev_pos (by omega) (Ev.bind (u_ev_some ((u_range _ _ _).trans (congrArg some h))) (u_ev_pos rfl (Ev.bind (u_ev_some ((u_width _).trans (congrArg some h'))) (u_ev_neg (by decide) (Ev.now _)))))))
      | true =>
        obtain ⟨r, hr1, hr2⟩ := ih (i + 1) (by omega)
        refine ⟨r, u_evsucc ?_, hr2⟩
        simp only [impl_IsSky.l2]
        refine u_ev_pos (by omega) (u_ev_pos (by omega) (u_ev_pos (by omega) (Ev.bind (u_ev_some ((u_range _ _ _).trans (congrArg some h))) (u_ev_pos rfl (Ev.bind (u_ev_some ((u_width _).trans (congrArg some h'))) (u_ev_pos rfl ?_))))))
        rw [u_w64 (x := (i : Int) + 1) (by omega) (by omega)]
        exact hr1
def u_q2 (y : List S46) (b c d : Int) : Prop := (∀ j : Nat, j < y.length → 0 ≤ (rd_T46 y j).f0) ∧ u_q3 b c d
theorem u_isky1 (a : Int) (x : List S43) (y : List S46) (b c d e f : Int) (z : List S50) (g : Int) (hy : y.length ≤ 1000) (hz : z.length ≤ 1000) (n : Nat) : ∀ i : Nat, i + n = y.length → (∀ j : Nat, j < i → 0 ≤ (rd_T46 y j).f0) → u_evb (fun k => impl_IsSky.l1 k y (y.length : Int) (i : Int) a x y b c d e f z g) (u_q2 y b c d) := by
  induction n with
  | zero =>
    intro i hi hj
    obtain ⟨r, h1, h2⟩ := u_isky2 a x y b c d e f z g hz z.length 0 (by omega)
    refine ⟨r, u_evsucc ?_, fun h => ⟨fun j h => hj j (by omega), h2 h⟩⟩
    simp only [impl_IsSky.l1]
    exact u_ev_neg (by omega) h1
  | succ n ih =>
    intro i hi hj
    cases h : u_inr (rd_T46 y i).f0 0 (wrap64 (a - 1)) with
    | false =>
      refine u_evb_no (u_evsucc ?_)
      simp only [impl_IsSky.l1]
      exact u_ev_pos (by omega) (u_ev_pos (by omega) (u_ev_pos (by omega) (Ev.bind (u_ev_some ((u_range _ _ _).trans (congrArg some h))) (u_ev_neg (by decide) (Ev.now _)))))
    | true =>
      cases h' : u_inr (rd_T46 y i).f1 0 359 with
      | false =>
        refine u_evb_no (u_evsucc ?_)
        simp only [impl_IsSky.l1]
        exact u_ev_pos (by omega) (u_ev_pos (by omega) (u_ev_pos (by omega) (Ev.bind (u_ev_some ((u_range _ _ _).trans (congrArg some h))) (u_ev_pos rfl (Ev.bind (u_ev_some ((u_range _ _ _).trans (congrArg some h'))) (u_ev_neg (by decide) (Ev.now _)))))))
      | true =>
        cases h'' : u_inr (rd_T46 y i).f2 (-60) 60 with
        | false =>
          refine u_evb_no (u_evsucc ?_)
          simp only [impl_IsSky.l1]
          exact u_ev_pos (by omega) (u_ev_pos (by omega) (u_ev_pos (by omega) (Ev.bind (u_ev_some ((u_range _ _ _).trans (congrArg some h))) (u_ev_pos rfl (Ev.bind (u_ev_some ((u_range _ _ _).trans (congrArg some h'))) (u_ev_pos rfl (Ev.bind (u_ev_some ((u_range _ _ _).trans (congrArg some h''))) (u_ev_neg (by decide) (Ev.now _)))))))))
        | true =>
          have hr := (u_inr_iff _ _ _).1 h
          obtain ⟨r, hr1, hr2⟩ := ih (i + 1) (by omega) (fun j h => by
            by_cases e : j = i
            · subst e; exact hr.1
            · exact hj j (by omega))
          refine ⟨r, u_evsucc ?_, hr2⟩
          simp only [impl_IsSky.l1]
          refine u_ev_pos (by omega) (u_ev_pos (by omega) (u_ev_pos (by omega) (Ev.bind (u_ev_some ((u_range _ _ _).trans (congrArg some h))) (u_ev_pos rfl (Ev.bind (u_ev_some ((u_range _ _ _).trans (congrArg some h'))) (u_ev_pos rfl (Ev.bind (u_ev_some ((u_range _ _ _).trans (congrArg some h''))) (u_ev_pos rfl ?_))))))))
          rw [u_w64 (x := (i : Int) + 1) (by omega) (by omega)]
          exact hr1
theorem u_issat (a b c d t : Int) : ∃ r, impl_IsSat.f a b c d t = some r ∧ (r = true → 0 ≤ a) := by
  unfold impl_IsSat.f
  simp only [u_range, Option.bind_some]
  by_cases h1 : a ≥ 0
  · rw [if_pos h1]
    split
    · split
      · split
        · exact ⟨_, rfl, fun _ => h1⟩
        · exact ⟨_, rfl, fun _ => h1⟩
      · exact ⟨_, rfl, fun _ => h1⟩
    · exact ⟨_, rfl, fun _ => h1⟩
  · rw [if_neg h1]
    exact ⟨_, rfl, fun h => absurd h (by decide)⟩
def u_q1 (x : List S43) (y : List S46) (b c d : Int) : Prop := (∀ j : Nat, j < x.length → 0 ≤ (rd_T43 x j).f0) ∧ u_q2 y b c d
theorem u_isky0 (a : Int) (x : List S43) (y : List S46) (b c d e f : Int) (z : List S50) (g : Int) (hx : x.length ≤ 1000) (hy : y.length ≤ 1000) (hz : z.length ≤ 1000) (n : Nat) : ∀ i : Nat, i + n = x.length → (∀ j : Nat, j < i → 0 ≤ (rd_T43 x j).f0) → u_evb (fun k => impl_IsSky.l0 k x (x.length : Int) (i : Int) a x y b c d e f z g) (u_q1 x y b c d) := by
  induction n with
  | zero =>
    intro i hi hj
    obtain ⟨r, h1, h2⟩ := u_isky1 a x y b c d e f z g hy hz y.length 0 (by omega) (fun j h => absurd h (by omega))
    refine ⟨r, u_evsucc ?_, fun h => ⟨fun j h => hj j (by omega), h2 h⟩⟩
    simp only [impl_IsSky.l0]
    exact u_ev_neg (by omega) h1
  | succ n ih =>
    intro i hi hj
    obtain ⟨s, hs1, hs2⟩ := u_issat (rd_T43 x i).f0 (rd_T43 x i).f1 (rd_T43 x i).f2 (rd_T43 x i).f3 a
    cases s with
    | false =>
      refine u_evb_no (u_evsucc ?_)
      simp only [impl_IsSky.l0]
      exact u_ev_pos (by omega) (u_ev_pos (by omega) (u_ev_pos (by omega) (Ev.bind (u_ev_some hs1) (u_ev_neg (by decide) (Ev.now _)))))
    | true =>
      have hr := hs2 rfl
      obtain ⟨r, hr1, hr2⟩ := ih (i + 1) (by omega) (fun j h => by
        by_cases e : j = i
        · subst e; exact hr
        · exact hj j (by omega))
      refine ⟨r, u_evsucc ?_, hr2⟩
      simp only [impl_IsSky.l0]
      refine u_ev_pos (by omega) (u_ev_pos (by omega) (u_ev_pos (by omega) (Ev.bind (u_ev_some hs1) (u_ev_pos rfl ?_))))
      rw [u_w64 (x := (i : Int) + 1) (by omega) (by omega)]
      exact hr1
theorem u_isky (a : Int) (x : List S43) (y : List S46) (b c d e f : Int) (z : List S50) (g : Int) (hx : x.length ≤ 6) (hy : y.length = 2) (hz : z.length ≤ 2) : u_evb (fun k => impl_IsSky.f k a x y b c d e f z g) (u_q1 x y b c d) := by
  unfold impl_IsSky.f
  have hj : ∀ o, u_evb (fun k => impl_IsSky.j0 k o a x y b c d e f z g) (u_q1 x y b c d) := by
    intro o
    cases o with
    | true =>
      refine u_evb_no (u_evsucc ?_)
      simp only [impl_IsSky.j0]
      exact u_ev_pos trivial (Ev.now _)
    | false =>
      obtain ⟨r, h1, h2⟩ := u_isky0 a x y b c d e f z g (by omega) (by omega) (by omega) x.length 0 (by omega) (fun j h => absurd h (by omega))
      refine ⟨r, u_evsucc ?_, h2⟩
      simp only [impl_IsSky.j0]
      exact u_ev_neg (by decide) h1
  cases h : u_inr a 1 4 with
  | false =>
    obtain ⟨r, h1, h2⟩ := hj true
    exact ⟨r, Ev.bind (u_ev_some ((u_range _ _ _).trans (congrArg some h))) (u_ev_neg (by decide) h1), h2⟩
  | true =>
    cases h' : u_inr x.length 1 8 with
    | false =>
      obtain ⟨r, h1, h2⟩ := hj true
      exact ⟨r, Ev.bind (u_ev_some ((u_range _ _ _).trans (congrArg some h))) (u_ev_pos rfl (Ev.bind (u_ev_some ((u_range _ _ _).trans (congrArg some h'))) (u_ev_neg (by decide) h1))), h2⟩
    | true =>
      obtain ⟨r, h1, h2⟩ := hj (decide ((z.length : Int) > 4))
      exact ⟨r, Ev.bind (u_ev_some ((u_range _ _ _).trans (congrArg some h))) (u_ev_pos rfl (Ev.bind (u_ev_some ((u_range _ _ _).trans (congrArg some h'))) (u_ev_pos rfl (u_ev_neg (by omega) h1)))), h2⟩
/-- How many sites lie below node i. -/
def u_cnt (m n i : Int) : Int := if i ≤ m then 0 else if i ≤ m + n then i - m else n
theorem u_plane_ne (x : List S43) (y : List S46) (b c d i : Int) (h0 : 0 ≤ i) (h1 : i < (x.length : Int) + (y.length : Int)) (h : u_q1 x y b c d) : u_plane x y i ≠ -1 := by
  unfold u_plane
  by_cases h2 : 0 ≤ i ∧ i ≤ (x.length : Int) - 1
  · rw [if_pos h2]
    have h3 := h.1 i.toNat (by omega)
    rw [show ((i.toNat : Nat) : Int) = i by omega] at h3
    omega
  · rw [if_neg h2, if_pos (by omega)]
    have h3 := h.2.1 (i - (x.length : Int)).toNat (by omega)
    rw [show (((i - (x.length : Int)).toNat : Nat) : Int) = i - (x.length : Int) by omega] at h3
    omega
theorem u_skies_l0 (a : Int) (x : List S43) (y : List S46) (b c d e f : Int) (z : List S50) (g : Int) (hx : x.length ≤ 6) (hy : y.length = 2) (hz : z.length ≤ 2) (n : Nat) : ∀ i : Int, i + n = 13 → -1 ≤ i → Ev (fun k => laws_FnSkies.l0 k (u_cnt x.length y.length i) i a x y b c d e f z g) true := by
  induction n with
  | zero =>
    intro i hi h0
    refine u_evsucc ?_
    simp only [laws_FnSkies.l0]
    refine u_ev_neg (by omega) (u_ev_eq (Ev.now _) ?_)
    have : u_cnt x.length y.length i = (y.length : Int) := by
      unfold u_cnt
      rw [if_neg (by omega)]
      split <;> omega
    rw [this]; simp
  | succ n ih =>
    intro i hi h0
    have hn := ih (i + 1) (by omega) (by omega)
    have hj : Ev (fun k => laws_FnSkies.j3 k (u_cnt x.length y.length (i + 1)) i a x y b c d e f z g) true := by
      refine u_evsucc ?_
      simp only [laws_FnSkies.j3]
      refine Ev.bind (u_ev_some (u_planeOf a x y b c d e f z g i hx hy)) ?_
      rw [u_w64 (x := i + 1) (by omega) (by omega)]
      by_cases hp : u_plane x y i = -1
      · refine u_ev_pos hp ?_
        obtain ⟨r, h1, h2⟩ := u_isky a x y b c d e f z g hx hy hz
        refine Ev.bind h1 ?_
        by_cases hr : r = true
        · refine u_ev_pos hr ?_
          by_cases hi0 : i ≥ 0
          · refine u_ev_pos hi0 (Ev.bind (u_ev_some (u_nodes a x y b c d e f z g hx hy)) (u_ev_neg (fun hlt => ?_) hn))
            exact u_plane_ne x y b c d i hi0 hlt (h2 hr) hp
          · exact u_ev_neg hi0 hn
        · exact u_ev_neg hr hn
      · exact u_ev_neg hp hn
    refine u_evsucc ?_
    simp only [laws_FnSkies.l0]
    refine u_ev_pos (by omega) (Ev.bind (u_ev_some (u_site a x y b c d e f z g i hx hy)) ?_)
    by_cases hs : u_inr i x.length ((x.length : Int) + (y.length : Int) - 1) = true
    · refine u_ev_pos hs ?_
      have h1 := (u_inr_iff _ _ _).1 hs
      have h2 : wrap64 (u_cnt x.length y.length i + 1) = u_cnt x.length y.length (i + 1) := by
        unfold u_cnt
        rw [if_neg (show ¬ (i + 1 ≤ (x.length : Int)) by omega), if_pos (show i + 1 ≤ (x.length : Int) + (y.length : Int) by omega)]
        by_cases h3 : i ≤ (x.length : Int)
        · rw [if_pos h3, u_w64 (by omega) (by omega)]; omega
        · rw [if_neg h3, if_pos (by omega), u_w64 (by omega) (by omega)]; omega
      rw [h2]
      exact hj
    · refine u_ev_neg hs ?_
      have h1 : ¬ ((x.length : Int) ≤ i ∧ i ≤ (x.length : Int) + (y.length : Int) - 1) := fun h => hs ((u_inr_iff _ _ _).2 h)
      have h2 : u_cnt x.length y.length i = u_cnt x.length y.length (i + 1) := by
        unfold u_cnt
        by_cases h3 : i + 1 ≤ (x.length : Int)
        · rw [if_pos h3, if_pos (by omega)]
        · rw [if_neg h3, if_neg (show ¬ (i ≤ (x.length : Int)) by omega)]
          rw [if_neg (show ¬ (i + 1 ≤ (x.length : Int) + (y.length : Int)) by omega)]
          split <;> omega
      rw [h2]
      exact hj
theorem u_skies_j0 (a : Int) (x : List S43) (y : List S46) (b c d e f : Int) (z : List S50) (g n : Int) (hx : x.length ≤ 6) (hy : y.length = 2) (hz : z.length ≤ 2) (hn : u_q1 x y b c d → n ≤ 180) : Ev (fun k => laws_FnSkies.j0 k n false a x y b c d e f z g) true := by
  refine u_evsucc ?_
  simp only [laws_FnSkies.j0]
  refine u_ev_neg (by decide) ?_
  have hj : Ev (fun k => laws_FnSkies.j1 k false a x y b c d e f z g) true := by
    refine u_evsucc ?_
    simp only [laws_FnSkies.j1]
    refine u_ev_neg (by decide) ?_
    have h := u_skies_l0 a x y b c d e f z g hx hy hz 14 (-1) (by omega) (by omega)
    have e : u_cnt x.length y.length (-1) = 0 := by unfold u_cnt; rw [if_pos (by omega)]
    rw [e] at h
    exact h
  obtain ⟨r, h1, h2⟩ := u_isky a x y b c d e f z g hx hy hz
  refine Ev.bind h1 ?_
  by_cases hr : r = true
  · refine u_ev_pos hr ?_
    have h3 := hn (h2 hr)
    rw [show decide (n > 180) = false from decide_eq_false (by omega)]
    exact hj
  · exact u_ev_neg hr hj
/-- What a drawn sky keeps. -/
def u_okSky (T : Int × (List S43) × (List S46) × Int × Int × Int × Int × Int × (List S50) × Int × Int × Int) : Prop := (1 ≤ T.2.1.length ∧ T.2.1.length ≤ 6) ∧ T.2.2.1.length = 2 ∧ T.2.2.2.2.2.2.2.2.1.length ≤ 1 ∧ 0 ≤ T.2.2.2.2.2.2.2.2.2.2.1
theorem u_sky_end (l : List Int) (hb : l.length ≤ 1048576) (pl r c v s sh ac i h : Int) (x : List S43) (hi : 0 ≤ i) (hx : 1 ≤ x.length ∧ x.length ≤ 6) : ∃ T, Ev (fun k => spec_l7Sky.l0 k 2 l i h pl x r c v s sh ac) T ∧ u_okSky T := by
  obtain ⟨q1, i1, h1, e1, hi1, _⟩ := u_below l i h 12 hb hi
  obtain ⟨q2, i2, h2, e2, hi2, _⟩ := u_below l i1 h1 2 hb hi1
  obtain ⟨q3, i3, h3, e3, hi3, _⟩ := u_below l i2 h2 12 hb hi2
  obtain ⟨q4, i4, h4, e4, hi4, _⟩ := u_once l i3 h3 3 hb hi3
  cases q4 with
  | true =>
    obtain ⟨q5, i5, h5, e5, hi5, _⟩ := u_below l i4 h4 2 hb hi4
    obtain ⟨q6, i6, h6, e6, hi6, _⟩ := u_below l i5 h5 36 hb hi5
    obtain ⟨q7, i7, h7, e7, hi7, _⟩ := u_below l i6 h6 5 hb hi6
    refine ⟨(pl, x, [(⟨0, wrap64 (10 * q1), q2⟩ : S46), (⟨1, wrap64 (180 + (wrap64 (10 * q3))), 0⟩ : S46)], r, c, v, s, sh, [(⟨q5, (⟨wrap64 (10 * q6), wrap64 (10 * q7)⟩ : S48)⟩ : S50)], ac, i7, h7), u_evsucc ?_, hx, rfl, Nat.le_refl _, hi7⟩
    simp only [spec_l7Sky.l0]
    exact u_ev_neg (by omega) (Ev.bind (u_ev_some e1) (Ev.bind (u_ev_some e2) (Ev.bind (u_ev_some e3) (Ev.bind (Ev.now _) (Ev.bind (u_ev_some e4) (u_ev_pos rfl (Ev.bind (u_ev_some e5) (Ev.bind (u_ev_some e6) (Ev.bind (u_ev_some e7) (Ev.now _))))))))))
  | false =>
    refine ⟨(pl, x, [(⟨0, wrap64 (10 * q1), q2⟩ : S46), (⟨1, wrap64 (180 + (wrap64 (10 * q3))), 0⟩ : S46)], r, c, v, s, sh, [], ac, i4, h4), u_evsucc ?_, hx, rfl, Nat.zero_le _, hi4⟩
    simp only [spec_l7Sky.l0]
    exact u_ev_neg (by omega) (Ev.bind (u_ev_some e1) (Ev.bind (u_ev_some e2) (Ev.bind (u_ev_some e3) (Ev.bind (Ev.now _) (Ev.bind (u_ev_some e4) (u_ev_neg Bool.false_ne_true (Ev.now _)))))))
theorem u_sky_l1 (l : List Int) (hb : l.length ≤ 1048576) (pl r c v s sh ac p p' m : Int) (hp : 0 ≤ p ∧ p ≤ 1) (hp' : p + 1 = p') (hm : m ≤ 3) (B : Nat) (hB : B ≤ 6) (hend : ∀ (i h : Int) (x : List S43), 0 ≤ i → 1 ≤ x.length ∧ x.length ≤ B → ∃ T, Ev (fun k => spec_l7Sky.l0 k p' l i h pl x r c v s sh ac) T ∧ u_okSky T) (n : Nat) : ∀ (j i h : Int) (x : List S43), 0 ≤ j → j + n = m → 0 ≤ i → 1 ≤ x.length + n ∧ x.length + n ≤ B → ∃ T, Ev (fun k => spec_l7Sky.l1 k p m j l i h pl x r c v s sh ac) T ∧ u_okSky T := by
  induction n with
  | zero =>
    intro j i h x h0 hj hi hx
    obtain ⟨T, h1, h2⟩ := hend i h x hi (by omega)
    refine ⟨T, u_evsucc ?_, h2⟩
    simp only [spec_l7Sky.l1]
    refine u_ev_neg (by omega) ?_
    rw [u_w64 (x := p + 1) (by omega) (by omega), hp']
    exact h1
  | succ n ih =>
    intro j i h x h0 hj hi hx
    obtain ⟨q1, i1, h1, e1, hi1, _⟩ := u_below l i h 2 hb hi
    obtain ⟨q2, i2, h2, e2, hi2, _⟩ := u_below l i1 h1 2 hb hi1
    have hm := u_sangle (wrap64 ((wrap64 (120 * j)) + (wrap64 (20 * p))))
    obtain ⟨T, h3, h4⟩ := ih (j + 1) i2 h2 (x ++ [(⟨p, (wrap64 ((wrap64 (120 * j)) + (wrap64 (20 * p)))) % 360, wrap64 (10 - (wrap64 ((wrap64 (4 * p)) * q1))), q2⟩ : S43)]) (by omega) (by omega) hi2 (by simp; omega)
    refine ⟨T, u_evsucc ?_, h4⟩
    simp only [spec_l7Sky.l1]
    refine u_ev_pos (by omega) (Ev.bind (u_ev_some hm) (Ev.bind (u_ev_some e1) (Ev.bind (u_ev_some e2) (u_ev_pos (by omega) ?_))))
    rw [u_w64 (x := j + 1) (by omega) (by omega)]
    exact h3
theorem u_sky_l0 (l : List Int) (hb : l.length ≤ 1048576) (pl r c v s sh ac p p' : Int) (hp : 0 ≤ p ∧ p ≤ 1) (hp' : p + 1 = p') (B : Nat) (hB : B + 3 ≤ 6) (hend : ∀ (i h : Int) (x : List S43), 0 ≤ i → 1 ≤ x.length ∧ x.length ≤ B + 3 → ∃ T, Ev (fun k => spec_l7Sky.l0 k p' l i h pl x r c v s sh ac) T ∧ u_okSky T) (i h : Int) (x : List S43) (hi : 0 ≤ i) (hx : x.length ≤ B) : ∃ T, Ev (fun k => spec_l7Sky.l0 k p l i h pl x r c v s sh ac) T ∧ u_okSky T := by
  obtain ⟨q1, i1, h1, e1, hi1, hq⟩ := u_below l i h 2 hb hi
  obtain ⟨T, h2, h3⟩ := u_sky_l1 l hb pl r c v s sh ac p p' (2 + q1) hp hp' (by omega) (B + 3) hB hend (2 + q1).toNat 0 i1 h1 x (by omega) (by omega) hi1 (by omega)
  refine ⟨T, u_evsucc ?_, h3⟩
  simp only [spec_l7Sky.l0]
  refine u_ev_pos (by omega) (Ev.bind (u_ev_some e1) ?_)
  rw [u_w64 (x := 2 + q1) (by omega) (by omega)]
  exact h2
theorem u_sky7 (l : List Int) (hb : l.length ≤ 1048576) (i h : Int) (hi : 0 ≤ i) : ∃ T, Ev (fun k => spec_l7Sky.f k l i h) T ∧ u_okSky T := by
  obtain ⟨q1, i1, h1, e1, hi1, _⟩ := u_below l i h 3 hb hi
  obtain ⟨q2, i2, h2, e2, hi2, _⟩ := u_below l i1 h1 4 hb hi1
  obtain ⟨q3, i3, h3, e3, hi3, _⟩ := u_below l i2 h2 4 hb hi2
  obtain ⟨q4, i4, h4, e4, hi4, _⟩ := u_below l i3 h3 2 hb hi3
  obtain ⟨q5, i5, h5, e5, hi5, _⟩ := u_below l i4 h4 2 hb hi4
  obtain ⟨T, h6, h7⟩ := u_sky_l0 l hb 2 (wrap64 (120 + (wrap64 (10 * q1)))) (wrap64 (30 + (wrap64 (10 * q2)))) (wrap64 (50 + (wrap64 (10 * q3)))) q4 60 q5 0 1 (by omega) (by omega) 0 (by omega) (fun i h x hi hx => u_sky_l0 l hb 2 _ _ _ q4 60 q5 1 2 (by omega) (by omega) 3 (by omega) (fun i h x hi hx => u_sky_end l hb 2 _ _ _ q4 60 q5 i h x hi hx) i h x hi (by omega)) i5 h5 [] hi5 (by simp)
  refine ⟨T, ?_, h7⟩
  unfold spec_l7Sky.f
  exact Ev.bind (u_ev_some e1) (Ev.bind (u_ev_some e2) (Ev.bind (u_ev_some e3) (Ev.bind (u_ev_some e4) (Ev.bind (u_ev_some e5) h6))))
def u_okAny (T : Int × (List S43) × (List S46) × Int × Int × Int × Int × Int × (List S50) × Int × Int × Int) : Prop := T.2.1.length ≤ 6 ∧ T.2.2.1.length = 2 ∧ T.2.2.2.2.2.2.2.2.1.length ≤ 2 ∧ 0 ≤ T.2.2.2.2.2.2.2.2.2.2.1
theorem u_any7 (l : List Int) (hb : l.length ≤ 1048576) (i h : Int) (hi : 0 ≤ i) : ∃ T, Ev (fun k => spec_l7Any.f k l i h) T ∧ u_okAny T := by
  obtain ⟨⟨pl, x, y, r, c, v, s, sh, z, ac, i0, h0⟩, e0, hx, hy, hz, hi0⟩ := u_sky7 l hb i h hi
  dsimp only at hx hy hz hi0
  obtain ⟨n, i1, h1, e1, hi1, hn⟩ := u_below l i0 h0 12 hb hi0
  unfold spec_l7Any.f
  by_cases c0 : n = 0
  · obtain ⟨q, i2, h2, e2, hi2, _⟩ := u_pick l i1 h1 ([0, 1, 4, 5, (-9223372036854775808)] : List Int) hb hi1 (by simp)
    exact ⟨(q, x, y, r, c, v, s, sh, z, ac, i2, h2), Ev.bind e0 (Ev.bind (u_ev_some e1) (u_ev_pos c0 (Ev.bind (u_ev_some e2) (Ev.now _)))), hx.2, hy, by dsimp only; omega, hi2⟩
  by_cases c1 : n = 1
  · obtain ⟨p', q', v', w', i2, h2, e2, hi2, _⟩ := u_sat6 l i1 h1 hb hi1
    exact ⟨(pl, x.set (0 : Int).toNat (⟨p', q', v', w'⟩ : S43), y, r, c, v, s, sh, z, ac, i2, h2), Ev.bind e0 (Ev.bind (u_ev_some e1) (u_ev_neg c0 (u_ev_pos c1 (Ev.bind (u_ev_some e2) (u_ev_pos (by dsimp only; omega) (Ev.now _)))))), by simpa using hx.2, hy, by dsimp only; omega, hi2⟩
  by_cases c2 : n = 2
  · obtain ⟨q, i2, h2, e2, hi2, _⟩ := u_angle5 l i1 h1 hb hi1
    exact ⟨(pl, x, y.set (0 : Int).toNat (⟨(rd_T46 y 0).f0, q, (rd_T46 y 0).f2⟩ : S46), r, c, v, s, sh, z, ac, i2, h2), Ev.bind e0 (Ev.bind (u_ev_some e1) (u_ev_neg c0 (u_ev_neg c1 (u_ev_pos c2 (Ev.bind (u_ev_some e2) (u_ev_pos (by dsimp only; omega) (Ev.now _))))))), hx.2, by simpa using hy, by dsimp only; omega, hi2⟩
  by_cases c3 : n = 3
  · obtain ⟨q, i2, h2, e2, hi2, _⟩ := u_pick l i1 h1 ([(-1), 180, 181] : List Int) hb hi1 (by simp)
    exact ⟨(pl, x, y, q, c, v, s, sh, z, ac, i2, h2), Ev.bind e0 (Ev.bind (u_ev_some e1) (u_ev_neg c0 (u_ev_neg c1 (u_ev_neg c2 (u_ev_pos c3 (Ev.bind (u_ev_some e2) (Ev.now _))))))), hx.2, hy, by dsimp only; omega, hi2⟩
  by_cases c4 : n = 4
  · obtain ⟨q, i2, h2, e2, hi2, _⟩ := u_pick l i1 h1 ([(-1), 20, 21] : List Int) hb hi1 (by simp)
    exact ⟨(pl, x, y, r, c, v, s, sh, z, q, i2, h2), Ev.bind e0 (Ev.bind (u_ev_some e1) (u_ev_neg c0 (u_ev_neg c1 (u_ev_neg c2 (u_ev_neg c3 (u_ev_pos c4 (Ev.bind (u_ev_some e2) (Ev.now _)))))))), hx.2, hy, by dsimp only; omega, hi2⟩
  by_cases c5 : n = 5
  · obtain ⟨q, i2, h2, e2, hi2, _⟩ := u_below l i1 h1 3 hb hi1
    obtain ⟨s', w', i3, h3, e3, hi3, _⟩ := u_arc5 l i2 h2 hb hi2
    exact ⟨(pl, x, y, r, c, v, s, sh, z ++ [(⟨q, (⟨s', w'⟩ : S48)⟩ : S50)], ac, i3, h3), Ev.bind e0 (Ev.bind (u_ev_some e1) (u_ev_neg c0 (u_ev_neg c1 (u_ev_neg c2 (u_ev_neg c3 (u_ev_neg c4 (u_ev_pos c5 (Ev.bind (u_ev_some e2) (Ev.bind (u_ev_some e3) (u_ev_pos (by dsimp only; omega) (Ev.now _))))))))))), hx.2, hy, by simp; omega, hi3⟩
  by_cases c6 : n = 6
  · exact ⟨(pl, [], y, r, c, v, s, sh, z, ac, i1, h1), Ev.bind e0 (Ev.bind (u_ev_some e1) (u_ev_neg c0 (u_ev_neg c1 (u_ev_neg c2 (u_ev_neg c3 (u_ev_neg c4 (u_ev_neg c5 (u_ev_pos c6 (Ev.now _))))))))), by simp, hy, by dsimp only; omega, hi1⟩
  by_cases c7 : n = 7
  · obtain ⟨q, i2, h2, e2, hi2, _⟩ := u_pick l i1 h1 ([61, (-60)] : List Int) hb hi1 (by simp)
    exact ⟨(pl, x, y, r, c, v, q, sh, z, ac, i2, h2), Ev.bind e0 (Ev.bind (u_ev_some e1) (u_ev_neg c0 (u_ev_neg c1 (u_ev_neg c2 (u_ev_neg c3 (u_ev_neg c4 (u_ev_neg c5 (u_ev_neg c6 (u_ev_pos c7 (Ev.bind (u_ev_some e2) (Ev.now _))))))))))), hx.2, hy, by dsimp only; omega, hi2⟩
  · exact ⟨(pl, x, y, r, c, v, s, sh, z, ac, i1, h1), Ev.bind e0 (Ev.bind (u_ev_some e1) (u_ev_neg c0 (u_ev_neg c1 (u_ev_neg c2 (u_ev_neg c3 (u_ev_neg c4 (u_ev_neg c5 (u_ev_neg c6 (u_ev_neg c7 (Ev.now _)))))))))), hx.2, hy, by dsimp only; omega, hi1⟩

theorem FnSkies : laws_FnSkies.Pure := by
  intro l hm _ _
  refine Ev.rounds ?_
  unfold laws_FnSkies.f
  refine u_big (Ev.now true) fun hb => ?_
  obtain ⟨h0, hnew⟩ := u_new l hb
  obtain ⟨⟨a, x, y, b, c, d, e, f, z, g, i1, h1⟩, hany, hx, hy, hz, hi1⟩ := u_any7 l hb 0 h0 (by omega)
  dsimp only at hx hy hz hi1
  obtain ⟨q1, i2, h2, e2, hi2, _⟩ := u_below l i1 h1 10 hb hi1
  obtain ⟨q2, i3, h3, e3, hi3, _⟩ := u_below l i2 h2 10 hb hi2
  have hdraw : Ev (fun k => spec_DrawLimitOf.f k l) (a, x, y, b, c, d, e, f, z, g, wrap64 (q1 - 1), wrap64 (q2 - 1)) := by
    unfold spec_DrawLimitOf.f
    exact Ev.bind hnew (Ev.bind hany (Ev.bind (u_ev_some e2) (Ev.bind (u_ev_some e3) (Ev.now _))))
  generalize wrap64 (q1 - 1) = m at hdraw
  generalize wrap64 (q2 - 1) = n at hdraw
  refine Ev.bind hdraw (Ev.bind (u_limitOf a x y b c d e f z g m n hx hy) (Ev.bind (u_limitOf a x y b c d e f z g n m hx hy) (u_ev_pos (u_limit_comm a x y b c d m n) ?_)))
  have hj := u_skies_j0 a x y b c d e f z g (u_limit a x y b c d m n) hx hy hz (fun h => u_limit_le a x y b c d m n h.2.2.1 h.2.2.2.1 h.2.2.2.2)
  have hs := u_site a x y b c d e f z g m hx hy
  have ht := u_site a x y b c d e f z g n hx hy
  have hall : Ev (fun k => (impl_IsSite.f a x y b c d e f z g m).bind fun t => (if t = true then ((impl_IsSite.f a x y b c d e f z g n).bind fun u => (if u = true then (laws_FnSkies.j0 k (u_limit a x y b c d m n) (u_limit a x y b c d m n != (-1)) a x y b c d e f z g) else (laws_FnSkies.j0 k (u_limit a x y b c d m n) false a x y b c d e f z g))) else (laws_FnSkies.j0 k (u_limit a x y b c d m n) false a x y b c d e f z g))) true := by
    refine Ev.bind (u_ev_some hs) ?_
    by_cases k1 : u_inr m x.length ((x.length : Int) + (y.length : Int) - 1) = true
    · refine u_ev_pos k1 (Ev.bind (u_ev_some ht) ?_)
      by_cases k2 : u_inr n x.length ((x.length : Int) + (y.length : Int) - 1) = true
      · refine u_ev_pos k2 ?_
        rw [show (u_limit a x y b c d m n != (-1)) = false from by rw [u_limit_sites a x y b c d m n k1 k2]; rfl]
        exact hj
      · exact u_ev_neg k2 hj
    · exact u_ev_neg k1 hj
  by_cases hmn : m = n
  · refine u_ev_pos hmn (u_ev_pos ?_ hall)
    subst hmn
    exact u_limit_same a x y b c d m
  · exact u_ev_neg hmn hall

end Go.Proofs.Ytpkmgdjhimkiiaa.Pure
