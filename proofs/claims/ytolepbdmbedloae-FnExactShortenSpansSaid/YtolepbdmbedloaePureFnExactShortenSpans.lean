/- FnExactShortenSpans returns true for every list of spans and two numbers; no condition. -/
import Derived.Test.YtolepbdmbedloaeHFnExactShortenSpansx5
namespace Go.Proofs.Ytolepbdmbedloae.Pure
open Go.RowKit Go.Proofs.Ytolepbdmbedloae.PFnExactShortenSpans Go.Proofs.YtolepbdmbedloaeW.PrintWords Go.Proofs.YtolepbdmbedloaeW.PrintLast
set_option linter.unusedVariables false
set_option linter.unusedSimpArgs false

theorem u_evloop {ρ : Type} (g : Nat → Nat → Option ρ) (n : Nat) (r : ρ) (hs : ∀ i, i < n → ∃ K, ∀ k, K ≤ k → g (k + 1) i = g k (i + 1)) (he : ∃ K, ∀ k, K ≤ k → g (k + 1) n = some r) : Ev (fun k => g k 0) r := by
  have h : ∀ d i, i + d = n → Ev (fun k => g k i) r := by
    intro d
    induction d with
    | zero =>
      intro i hi
      obtain ⟨K, hK⟩ := he
      refine ⟨K + 1, fun k hk => ?_⟩
      obtain ⟨k, rfl⟩ : ∃ m, k = m + 1 := ⟨k - 1, by omega⟩
      obtain rfl : i = n := by omega
      exact hK k (by omega)
    | succ d ih =>
      intro i hi
      obtain ⟨K, hK⟩ := hs i (by omega)
      obtain ⟨L, hL⟩ := ih (i + 1) (by omega)
      refine ⟨K + L + 1, fun k hk => ?_⟩
      obtain ⟨k, rfl⟩ : ∃ m, k = m + 1 := ⟨k - 1, by omega⟩
      show g (k + 1) i = some r
      rw [hK k (by omega)]
      exact hL k (by omega)
  exact h n 0 (by omega)
theorem u_ev_ite {α : Type} {c : Prop} [Decidable c] {f g : Nat → Option α} {r : α} (h1 : c → Ev f r) (h2 : ¬ c → Ev g r) : Ev (fun k => if c then f k else g k) r := by
  by_cases h : c
  · simpa [h] using h1 h
  · simpa [h] using h2 h
theorem u_w64 {x : Int} (h1 : -9223372036854775808 ≤ x) (h2 : x ≤ 9223372036854775807) : wrap64 x = x := by unfold wrap64; omega
theorem u_rd (xs : List Int) (i : Nat) : rd xs (i : Int) = xs.getD i 0 := by simp [rd]
theorem u_set_fill {α : Type} (xs : List α) (z d : α) (i : Nat) (h : i < xs.length) : (xs.take i ++ List.replicate (xs.length - i) z).set i (xs.getD i d) = xs.take (i + 1) ++ List.replicate (xs.length - (i + 1)) z := by
  apply List.ext_getElem?
  intro j
  have hl : (xs.take i).length = i := by simp; omega
  rcases Nat.lt_trichotomy j i with h1 | h1 | h1
  · rw [List.getElem?_set_ne (by omega), List.getElem?_append_left (by omega), List.getElem?_append_left (by simp; omega)]
    simp [List.getElem?_take, h1, show j < i + 1 by omega]
  · subst h1
    rw [List.getElem?_set_self (by simp; omega), List.getElem?_append_left (by simp; omega)]
    simp [List.getElem?_take, List.getD_eq_getElem?_getD, List.getElem?_eq_getElem h]
  · rw [List.getElem?_set_ne (by omega), List.getElem?_append_right (by omega), List.getElem?_append_right (by simp; omega)]
    simp only [List.getElem?_replicate, hl, List.length_take]
    have e : min (i + 1) xs.length = i + 1 := by omega
    rw [e]
    by_cases h2 : j < xs.length
    · rw [if_pos (by omega), if_pos (by omega)]
    · rw [if_neg (by omega), if_neg (by omega)]
/-- What mark writes: the counters from k on. -/
def u_marks (f : Int → Int) (k : Int) (n : Nat) : List Int := (List.range n).map fun i : Nat => f (k + (i : Int))
theorem u_marks_len (f : Int → Int) (k : Int) (n : Nat) : (u_marks f k n).length = n := by simp [u_marks]
theorem u_marks_get (f : Int → Int) (k : Int) (n i : Nat) (h : i < n) : (u_marks f k n).getD i 0 = f (k + i) := by simp [u_marks, List.getD_eq_getElem?_getD, List.getElem?_map, List.getElem?_range h]
theorem u_marks_set (f : Int → Int) (k : Int) (xs : List Int) (i : Nat) (h : i < xs.length) : (u_marks f k i ++ xs.drop i).set i (f (k + i)) = u_marks f k (i + 1) ++ xs.drop (i + 1) := by
  have e : u_marks f k (i + 1) = u_marks f k i ++ [f (k + i)] := by simp [u_marks, List.range_succ]
  rw [e, List.set_append_right _ _ (by rw [u_marks_len]; omega), u_marks_len, Nat.sub_self, List.append_assoc]
  congr 1
  rw [List.drop_eq_getElem_cons h]
  rfl
theorem u_take_succ {α : Type} (xs : List α) (d : α) (i : Nat) (h : i < xs.length) : xs.take (i + 1) = xs.take i ++ [xs.getD i d] := by
  rw [List.take_succ_eq_append_getElem h]; simp [List.getD_eq_getElem?_getD, List.getElem?_eq_getElem h]
def u_conv (l : List S45) : List S43 := l.map fun x => ⟨x.f0, x.f1⟩
theorem u_conv_len (l : List S45) : (u_conv l).length = l.length := by simp [u_conv]
theorem u_conv_get (l : List S45) (i : Nat) (h : i < l.length) : (u_conv l).getD i z43 = ⟨(rd_T45 l i).f0, (rd_T45 l i).f1⟩ := by
  unfold u_conv rd_T45
  simp [List.getD_eq_getElem?_getD, List.getElem?_map, List.getElem?_eq_getElem h]
theorem u_toSpanS (l : List S45) (hx : l.length ≤ 1048576) : Ev (fun k => laws_toSpanS.f k l) (u_conv l) := by
  unfold laws_toSpanS.f
  simp only [show (0 : Int) ≤ (l.length : Int) by omega, if_true, Int.toNat_natCast, show l.length ≤ 17592186044416 by omega]
  have hl := u_conv_len l
  have h := u_evloop (fun k i => laws_toSpanS.l0 k l ((u_conv l).take i ++ List.replicate ((u_conv l).length - i) z43) (i : Int)) l.length (u_conv l) (fun i hi => ⟨0, fun k _ => ?_⟩) ⟨0, fun k _ => ?_⟩
  · simpa [hl] using h
  · simp only [laws_toSpanS.l0, laws_toSpan.f, Option.bind_some]
    rw [if_pos (by omega), if_pos (by omega), if_pos (by simp; omega), u_w64 (by omega) (by omega), Int.toNat_natCast, ← u_conv_get l i hi, u_set_fill (u_conv l) z43 z43 i (by omega)]
    simp
  · simp only [laws_toSpanS.l0]
    rw [if_neg (by omega), List.take_of_length_le (by omega)]; simp [hl]
theorem u_evsucc {α : Type} {g : Nat → Option α} {r : α} (h : Ev (fun k => g (k + 1)) r) : Ev g r := by
  obtain ⟨K, hK⟩ := h
  refine ⟨K + 1, fun k hk => ?_⟩
  obtain ⟨k, rfl⟩ : ∃ m, k = m + 1 := ⟨k - 1, by omega⟩
  exact hK k (by omega)
theorem u_ev_pos {α : Type} {c : Prop} [Decidable c] {f g : Nat → Option α} {r : α} (hc : c) (h : Ev f r) : Ev (fun k => if c then f k else g k) r := by simpa [hc] using h
theorem u_ev_neg {α : Type} {c : Prop} [Decidable c] {f g : Nat → Option α} {r : α} (hc : ¬ c) (h : Ev g r) : Ev (fun k => if c then f k else g k) r := by simpa [hc] using h
theorem u_eqSpanS (x : List S43) (hx : x.length ≤ 1152921504606846976) : Ev (fun k => laws_eqSpanS.f k x x) true := by
  unfold laws_eqSpanS.f
  simp only [if_true]
  refine u_evloop (fun k i => laws_eqSpanS.l0 k x x (i : Int)) x.length true (fun i hi => ⟨0, fun k _ => ?_⟩) ⟨0, fun k _ => ?_⟩
  · simp only [laws_eqSpanS.l0, laws_eqSpan.f, if_true, Option.bind_some]
    rw [if_pos (by omega), if_pos (by omega), if_pos (by omega), u_w64 (by omega) (by omega)]; simp
  · simp only [laws_eqSpanS.l0]
    rw [if_neg (by omega)]
/-- A tick lies in a valid span. -/
def u_sp (a b t : Int) : Bool := decide ((0 ≤ a ∧ b ≤ 1000 ∧ a < b) ∧ a ≤ t ∧ t < b)
theorem u_sp_iff (a b t : Int) : u_sp a b t = true ↔ (0 ≤ a ∧ b ≤ 1000 ∧ a < b) ∧ a ≤ t ∧ t < b := by unfold u_sp; exact decide_eq_true_iff
def u_in (l : List S43) (t : Int) : Bool := l.any fun s => u_sp s.f0 s.f1 t
theorem u_drop_any (l : List S43) (p : S43 → Bool) (i : Nat) (h : i < l.length) : (l.drop i).any p = (p (rd_T43 l i) || (l.drop (i + 1)).any p) := by
  rw [List.drop_eq_getElem_cons h, List.any_cons]
  have e : rd_T43 l i = l[i] := by simp [rd_T43, List.getD_eq_getElem?_getD, List.getElem?_eq_getElem h]
  rw [e]
/-- A tick put at the end of a list of runs. -/
def u_put (l : List S43) (t : Int) : List S43 := if 0 < l.length ∧ (rd_T43 l ((l.length : Int) - 1)).f1 = t then l.set (l.length - 1) ⟨(rd_T43 l ((l.length : Int) - 1)).f0, t + 1⟩ else l ++ [⟨t, t + 1⟩]
/-- The runs of the ticks below n for which p holds. -/
def u_runs (p : Int → Bool) : Nat → List S43
  | 0 => []
  | n + 1 => if p n = true then u_put (u_runs p n) n else u_runs p n
theorem u_put_len (l : List S43) (t : Int) : (u_put l t).length ≤ l.length + 1 := by
  unfold u_put; split <;> simp
theorem u_runs_len (p : Int → Bool) (n : Nat) : (u_runs p n).length ≤ n := by
  induction n with
  | zero => simp [u_runs]
  | succ n ih =>
    have := u_put_len (u_runs p n) n
    simp only [u_runs]; split <;> omega
theorem u_runs_more (p : Int → Bool) (m : Nat) (d : Nat) (h : ∀ t : Int, m ≤ t → p t = false) : u_runs p (m + d) = u_runs p m := by
  induction d with
  | zero => rfl
  | succ d ih =>
    show (if p ((m + d : Nat) : Int) = true then u_put (u_runs p (m + d)) ((m + d : Nat) : Int) else u_runs p (m + d)) = _
    rw [h _ (by omega), if_neg (by simp), ih]
theorem u_runs_same (p q : Int → Bool) (n : Nat) (h : ∀ t : Int, 0 ≤ t → t < n → p t = q t) : u_runs p n = u_runs q n := by
  induction n with
  | zero => rfl
  | succ n ih =>
    simp only [u_runs]
    rw [h n (by omega) (by omega), ih (fun t h0 h1 => h t h0 (by omega))]
theorem u_in_succ (l : List S43) (i : Nat) (h : i < l.length) (t : Int) : u_in (l.take (i + 1)) t = (u_in (l.take i) t || u_sp (rd_T43 l i).f0 (rd_T43 l i).f1 t) := by
  unfold u_in
  rw [u_take_succ l z43 i h, List.any_append]
  simp [rd_T43]
theorem u_sisspan (a b : Int) : spec_IsSpan.f a b = some (decide (0 ≤ a ∧ b ≤ 1000 ∧ a < b)) := by
  unfold spec_IsSpan.f
  by_cases h1 : 0 ≤ a <;> by_cases h2 : b ≤ 1000 <;> by_cases h3 : a < b <;> simp [h1, h2, h3]
theorem u_l4last_l (l : List S43) (hx : l.length ≤ 1152921504606846976) (d : Nat) : ∀ (i n : Nat), i + d = l.length → n ≤ 1000 → (∀ t, u_in (l.take i) t = true → t < n) → ∃ m : Nat, Ev (fun k => spec_l4Last.l0 k l (n : Int) i) (m : Int) ∧ m ≤ 1000 ∧ ∀ t, u_in l t = true → t < m := by
  induction d with
  | zero =>
    intro i n hi hn ht
    refine ⟨n, u_evsucc ?_, hn, ?_⟩
    · simp only [spec_l4Last.l0]
      exact u_ev_neg (by omega) (Ev.now _)
    · rw [List.take_of_length_le (by omega)] at ht; exact ht
  | succ d ih =>
    intro i n hi hn ht
    by_cases hv : 0 ≤ (rd_T43 l i).f0 ∧ (rd_T43 l i).f1 ≤ 1000 ∧ (rd_T43 l i).f0 < (rd_T43 l i).f1
    · obtain ⟨m, he, hm, hmt⟩ := ih (i + 1) (if (rd_T43 l i).f1 > n then (rd_T43 l i).f1.toNat else n) (by omega) (by split <;> omega) (by
        intro t h
        rw [u_in_succ l i (by omega), Bool.or_eq_true] at h
        rcases h with h | h
        · have := ht t h; split <;> omega
        · have := (u_sp_iff _ _ _).1 h; split <;> omega)
      refine ⟨m, u_evsucc ?_, hm, hmt⟩
      simp only [spec_l4Last.l0, u_sisspan, Option.bind_some]
      refine u_ev_pos (by omega) (u_ev_pos (by omega) (u_ev_pos (decide_eq_true hv) ?_))
      rw [u_w64 (x := (i : Int) + 1) (by omega) (by omega)]
      refine Ev.bind (a := (((if (rd_T43 l i).f1 > n then (rd_T43 l i).f1.toNat else n : Nat)) : Int)) ⟨0, fun k _ => ?_⟩ he
      unfold spec_Max.f
      by_cases hc : (rd_T43 l i).f1 > n
      · rw [if_pos hc, if_pos hc, Int.toNat_of_nonneg (by omega)]
      · rw [if_neg hc, if_neg hc]
    · obtain ⟨m, he, hm, hmt⟩ := ih (i + 1) n (by omega) hn (by
        intro t h
        rw [u_in_succ l i (by omega), Bool.or_eq_true] at h
        rcases h with h | h
        · exact ht t h
        · exact absurd ((u_sp_iff _ _ _).1 h).1 hv)
      refine ⟨m, u_evsucc ?_, hm, hmt⟩
      simp only [spec_l4Last.l0, u_sisspan, Option.bind_some]
      refine u_ev_pos (by omega) (u_ev_pos (by omega) (u_ev_neg (by simp only [decide_eq_true_eq]; exact hv) ?_))
      rw [u_w64 (x := (i : Int) + 1) (by omega) (by omega)]
      exact he
theorem u_l4last (l : List S43) (hx : l.length ≤ 1152921504606846976) : ∃ n : Nat, Ev (fun k => spec_l4Last.f k l) (n : Int) ∧ n ≤ 1000 ∧ ∀ t, u_in l t = true → t < n := by
  unfold spec_l4Last.f
  exact u_l4last_l l hx l.length 0 0 (by omega) (by omega) (by intro t h; simp [u_in] at h)
theorem u_l4put (l : List S43) (t : Int) (hl : l.length ≤ 1000) (h0 : 0 ≤ t) (h1 : t ≤ 1000) : spec_l4Put.f l t = some (u_put l t) := by
  unfold spec_l4Put.f u_put
  rw [u_w64 (x := (l.length : Int) - 1) (by omega) (by omega), u_w64 (x := t + 1) (by omega) (by omega)]
  by_cases h : (l.length : Int) > 0
  · rw [if_pos h, if_pos (by omega), if_pos (by omega), show ((l.length : Int) - 1).toNat = l.length - 1 from by omega]
    by_cases h2 : (rd_T43 l ((l.length : Int) - 1)).f1 = t
    · rw [if_pos h2, if_pos ⟨by omega, h2⟩]
    · rw [if_neg h2, if_pos (by omega), if_neg (fun h => h2 h.2)]
  · rw [if_neg h, if_pos (by omega), if_neg (fun h' => h (by omega))]
theorem u_sinspan (a b t : Int) : spec_InSpan.f a b t = some (u_sp a b t) := by
  unfold spec_InSpan.f spec_IsSpan.f u_sp
  by_cases h1 : 0 ≤ a <;> by_cases h2 : b ≤ 1000 <;> by_cases h3 : a < b <;> by_cases h4 : a ≤ t <;> simp [h1, h2, h3, h4]
theorem u_sinspans (l : List S43) (t : Int) (hx : l.length ≤ 1152921504606846976) : Ev (fun k => spec_InSpans.f k l t) (u_in l t) := by
  unfold spec_InSpans.f u_in
  have h : ∀ (d i : Nat), i + d = l.length → Ev (fun k => spec_InSpans.l0 k l t i) ((l.drop i).any fun s => u_sp s.f0 s.f1 t) := by
    intro d
    induction d with
    | zero =>
      intro i hi
      rw [List.drop_of_length_le (by omega)]
      refine u_evsucc ?_
      simp only [spec_InSpans.l0]
      exact u_ev_neg (by omega) (Ev.now _)
    | succ d ih =>
      intro i hi
      rw [u_drop_any l _ i (by omega)]
      refine u_evsucc ?_
      simp only [spec_InSpans.l0, u_sinspan, Option.bind_some]
      refine u_ev_pos (by omega) (u_ev_pos (by omega) ?_)
      rw [u_w64 (by omega) (by omega)]
      cases hp : u_sp (rd_T43 l i).f0 (rd_T43 l i).f1 t with
      | true => exact u_ev_pos (by trivial) (Ev.now _)
      | false => exact u_ev_neg (by simp) (by simpa using ih (i + 1) (by omega))
  simpa using h l.length 0 (by omega)
theorem u_sjoin (l : List S43) (hx : l.length ≤ 1152921504606846976) : Ev (fun k => spec_JoinSpans.f k l) (u_runs (u_in l) 1000) := by
  unfold spec_JoinSpans.f
  obtain ⟨n, hn, hn1, hn2⟩ := u_l4last l hx
  refine Ev.bind hn ?_
  have e : u_runs (u_in l) 1000 = u_runs (u_in l) n := by
    rw [show 1000 = n + (1000 - n) from by omega]
    exact u_runs_more _ n _ (fun t ht => by cases h : u_in l t; rfl; have := hn2 t h; omega)
  rw [e]
  refine u_evloop (fun k i => spec_JoinSpans.l0 k l (u_runs (u_in l) i) n i) n _ (fun i hi => ?_) ⟨0, fun k _ => ?_⟩
  · obtain ⟨K, hK⟩ := u_sinspans l i hx
    refine ⟨K, fun k hk => ?_⟩
    have hl := u_runs_len (u_in l) i
    simp only [spec_JoinSpans.l0]
    rw [if_pos (by omega), show spec_InSpans.f k l i = some (u_in l i) from hK k hk, u_w64 (x := (i : Int) + 1) (by omega) (by omega)]
    simp only [Option.bind_some, u_runs]
    by_cases h : u_in l i = true
    · rw [if_pos h, if_pos h, u_l4put _ _ (by omega) (by omega) (by omega)]; rfl
    · rw [if_neg h, if_neg h]; rfl
  · simp only [spec_JoinSpans.l0]
    rw [if_neg (by omega)]
theorem u_iisspan (a b : Int) : impl_IsSpan.f a b = some (decide (0 ≤ a ∧ b ≤ 1000 ∧ a < b)) := by
  unfold impl_IsSpan.f
  by_cases h1 : 0 ≤ a <;> by_cases h2 : b ≤ 1000 <;> by_cases h3 : a < b <;> simp [h1, h2, h3]
def u_tab (f : Int → Bool) : List Bool := (List.range 1000).map fun j : Nat => f j
theorem u_tab_len (f : Int → Bool) : (u_tab f).length = 1000 := by simp [u_tab]
theorem u_tab_get (f : Int → Bool) (t : Int) (h0 : 0 ≤ t) (h1 : t < 1000) : rdOf false (u_tab f) t = f t := by
  unfold rdOf u_tab
  rw [List.getD_eq_getElem?_getD, List.getElem?_map, List.getElem?_range (by omega)]
  simp [Int.toNat_of_nonneg h0]
theorem u_tab_set (f : Int → Bool) (t : Int) (h0 : 0 ≤ t) : (u_tab f).set t.toNat true = u_tab (fun j => f j || decide (j = t)) := by
  apply List.ext_getElem
  · simp [u_tab]
  · intro i h1 h2
    simp only [u_tab, List.getElem_set, List.getElem_map, List.getElem_range]
    by_cases h : t.toNat = i
    · rw [if_pos h]; simp; right; omega
    · rw [if_neg h]; have : ¬ ((i : Int) = t) := by omega
      simp [this]
theorem u_tab_same (f g : Int → Bool) (h : ∀ t : Int, 0 ≤ t → t < 1000 → f t = g t) : u_tab f = u_tab g := by
  unfold u_tab
  apply List.map_congr_left
  intro j hj
  exact h j (by omega) (by have := List.mem_range.1 hj; omega)
theorem u_tick_in (l : List S43) (r : List Bool) (i : Nat) (n : Int) (a b : Int) (ha : 0 ≤ a) (hb : b ≤ 1000) (q : Int → Bool) (d : Nat) : ∀ (m : Nat), a + m + d = b →
    Ev (fun k => impl_ticks.l0 k (u_tab (fun j => q j || decide (a ≤ j ∧ j < b))) l n (wrap64 ((i : Int) + 1))) r →
    Ev (fun k => impl_ticks.l1 k (u_tab (fun j => q j || decide (a ≤ j ∧ j < a + m))) (a + m) l n i a b) r := by
  induction d with
  | zero =>
    intro m hm he
    refine u_evsucc ?_
    simp only [impl_ticks.l1]
    refine u_ev_neg (by omega) ?_
    rw [show a + (m : Int) = b from by omega]
    exact he
  | succ d ih =>
    intro m hm he
    refine u_evsucc ?_
    simp only [impl_ticks.l1]
    refine u_ev_pos (by omega) (u_ev_pos (by omega) (u_ev_pos (by rw [u_tab_len]; omega) ?_))
    rw [u_tab_set _ _ (by omega), u_w64 (x := a + (m : Int) + 1) (by omega) (by omega)]
    have h := ih (m + 1) (by omega) he
    rw [u_tab_same (fun j => (q j || decide (a ≤ j ∧ j < a + m)) || decide (j = a + m)) (fun j => q j || decide (a ≤ j ∧ j < a + ((m + 1 : Nat) : Int)))]
    · rw [show a + (m : Int) + 1 = a + ((m + 1 : Nat) : Int) from by omega]
      exact h
    · intro t _ _
      rw [Bool.or_assoc]
      congr 1
      rw [← Bool.decide_or]
      apply decide_eq_decide.2
      omega
theorem u_ticks_l (l : List S43) (hx : l.length ≤ 1152921504606846976) (d : Nat) : ∀ (i : Nat), i + d = l.length → Ev (fun k => impl_ticks.l0 k (u_tab (u_in (l.take i))) l l.length i) (u_tab (u_in l)) := by
  induction d with
  | zero =>
    intro i hi
    rw [List.take_of_length_le (by omega)]
    refine u_evsucc ?_
    simp only [impl_ticks.l0]
    exact u_ev_neg (by omega) (Ev.now _)
  | succ d ih =>
    intro i hi
    have h := ih (i + 1) (by omega)
    refine u_evsucc ?_
    simp only [impl_ticks.l0, u_iisspan, Option.bind_some]
    refine u_ev_pos (by omega) (u_ev_pos (by omega) (u_ev_pos (by omega) ?_))
    by_cases hv : 0 ≤ (rd_T43 l i).f0 ∧ (rd_T43 l i).f1 ≤ 1000 ∧ (rd_T43 l i).f0 < (rd_T43 l i).f1
    · refine u_ev_pos (decide_eq_true hv) ?_
      have h2 := u_tick_in l (u_tab (u_in l)) i l.length (rd_T43 l i).f0 (rd_T43 l i).f1 hv.1 hv.2.1 (u_in (l.take i)) ((rd_T43 l i).f1 - (rd_T43 l i).f0).toNat 0 (by omega) (by
        rw [u_w64 (x := (i : Int) + 1) (by omega) (by omega)]
        rw [u_tab_same (fun j => u_in (l.take i) j || decide ((rd_T43 l i).f0 ≤ j ∧ j < (rd_T43 l i).f1)) (u_in (l.take (i + 1)))]
        · exact h
        · intro t _ _
          rw [u_in_succ l i (by omega)]
          unfold u_sp
          congr 1
          apply decide_eq_decide.2
          exact ⟨fun h => ⟨hv, h⟩, fun h => h.2⟩)
      rw [u_tab_same (u_in (l.take i)) (fun j => u_in (l.take i) j || decide ((rd_T43 l i).f0 ≤ j ∧ j < (rd_T43 l i).f0 + ((0 : Nat) : Int)))]
      · have e : (rd_T43 l i).f0 + ((0 : Nat) : Int) = (rd_T43 l i).f0 := by omega
        rw [e] at h2 ⊢
        exact h2
      · intro t _ _
        have : ¬ ((rd_T43 l i).f0 ≤ t ∧ t < (rd_T43 l i).f0 + ((0 : Nat) : Int)) := by omega
        simp only [decide_eq_false this, Bool.or_false]
    · refine u_ev_neg (by simp only [decide_eq_true_eq]; exact hv) ?_
      rw [u_w64 (x := (i : Int) + 1) (by omega) (by omega)]
      rw [u_tab_same (u_in (l.take i)) (u_in (l.take (i + 1)))]
      · exact h
      · intro t _ _
        rw [u_in_succ l i (by omega)]
        have : u_sp (rd_T43 l i).f0 (rd_T43 l i).f1 t = false := by
          cases hc : u_sp (rd_T43 l i).f0 (rd_T43 l i).f1 t
          · rfl
          · exact absurd ((u_sp_iff _ _ _).1 hc).1 hv
        rw [this, Bool.or_false]
theorem u_ticks (l : List S43) (hx : l.length ≤ 1152921504606846976) : Ev (fun k => impl_ticks.f k l) (u_tab (u_in l)) := by
  unfold impl_ticks.f
  refine u_ev_pos (by omega) ?_
  have e : List.replicate 1000 false = u_tab (u_in (l.take 0)) := by
    apply List.ext_getElem
    · rw [List.length_replicate, u_tab_len]
    · intro i h1 h2
      simp only [u_tab, List.getElem_replicate, List.getElem_map, List.take_zero]
      rfl
  rw [e]
  exact u_ticks_l l hx l.length 0 (by omega)
theorem u_sw (g : Int → Option Bool) (p : Int → Bool) (hg : ∀ t : Int, 0 ≤ t → t < 1000 → g t = some (p t)) : Ev (fun k => impl_spansWhere.f k 0 1000 g) (u_runs p 1000) := by
  unfold impl_spansWhere.f
  have e0 : mx 0 0 = 0 := by decide
  have e1 : mn 1000 1000 = 1000 := by decide
  rw [e0]
  refine u_evloop (fun k i => impl_spansWhere.l0 k 1000 g (u_runs p i) i) 1000 _ (fun i hi => ⟨0, fun k _ => ?_⟩) ⟨0, fun k _ => ?_⟩
  · have hl := u_runs_len p i
    simp only [impl_spansWhere.l0, u_runs]
    rw [e1, if_pos (by omega), hg i (by omega) (by omega), u_w64 (x := (i : Int) + 1) (by omega) (by omega)]
    simp only [Option.bind_some]
    by_cases h : p i = true
    · rw [if_pos h, if_pos h, u_w64 (x := ((u_runs p i).length : Int) - 1) (by omega) (by omega)]
      unfold u_put
      by_cases h1 : ((u_runs p i).length : Int) - 1 ≥ 0
      · rw [if_pos h1, if_pos (by omega), if_pos (by omega), show (((u_runs p i).length : Int) - 1).toNat = (u_runs p i).length - 1 from by omega]
        by_cases h2 : (rd_T43 (u_runs p i) (((u_runs p i).length : Int) - 1)).f1 = i
        · rw [if_pos h2, if_pos ⟨by omega, h2⟩, h2, u_w64 (x := (i : Int) + 1) (by omega) (by omega)]; rfl
        · rw [if_neg h2, if_pos (by omega), if_neg (fun h => h2 h.2)]; rfl
      · rw [if_neg h1, if_pos (by omega), if_neg (fun h' => h1 (by omega))]; rfl
    · rw [if_neg h, if_neg h]; rfl
  · simp only [impl_spansWhere.l0]
    rw [e1, if_neg (by omega)]
theorem u_ijoin (l : List S43) (hx : l.length ≤ 1152921504606846976) : Ev (fun k => impl_JoinSpans.f k l) (u_runs (u_in l) 1000) := by
  unfold impl_JoinSpans.f
  refine Ev.bind (u_ticks l hx) ?_
  refine Ev.bind (u_sw (g19 (u_tab (u_in l))) (u_in l) (fun t h0 h1 => ?_)) (Ev.now _)
  unfold g19
  rw [if_pos h0, u_tab_len, if_pos (by omega), u_tab_get _ t h0 h1]
/-- Runs lie within 0..n. -/
def u_okn (n : Int) (l : List S43) : Prop := ∀ s ∈ l, 0 ≤ s.f0 ∧ s.f0 < s.f1 ∧ s.f1 ≤ n
theorem u_ok_rd (n : Int) (l : List S43) (h : u_okn n l) (i : Int) (h0 : 0 ≤ i) (h1 : i < l.length) : 0 ≤ (rd_T43 l i).f0 ∧ (rd_T43 l i).f0 < (rd_T43 l i).f1 ∧ (rd_T43 l i).f1 ≤ n := by
  apply h
  unfold rd_T43
  rw [List.getD_eq_getElem?_getD, List.getElem?_eq_getElem (by omega)]
  exact List.getElem_mem _
theorem u_put_ok (l : List S43) (t : Int) (h0 : 0 ≤ t) (h : u_okn t l) : u_okn (t + 1) (u_put l t) := by
  unfold u_put
  intro s hs
  split at hs
  · rename_i hc
    have hr := u_ok_rd t l h ((l.length : Int) - 1) (by omega) (by omega)
    rcases List.mem_or_eq_of_mem_set hs with hs | rfl
    · have := h s hs; omega
    · dsimp only; omega
  · rcases List.mem_append.1 hs with hs | hs
    · have := h s hs; omega
    · simp only [List.mem_singleton] at hs; subst hs; dsimp only; omega
theorem u_runs_ok (p : Int → Bool) (n : Nat) : u_okn n (u_runs p n) := by
  induction n with
  | zero => intro s hs; simp [u_runs] at hs
  | succ n ih =>
    simp only [u_runs]
    split
    · have := u_put_ok (u_runs p n) n (by omega) ih
      rw [show ((n + 1 : Nat) : Int) = (n : Int) + 1 from by omega]
      exact this
    · intro s hs
      have := ih s hs
      omega
def u_sh (l : List S43) (a b : Int) : List S43 := l.filterMap fun s => if s.f0 + a < s.f1 - b then some ⟨s.f0 + a, s.f1 - b⟩ else none
theorem u_sh_succ (l : List S43) (a b : Int) (i : Nat) (h : i < l.length) : u_sh (l.take (i + 1)) a b = u_sh (l.take i) a b ++ (if (rd_T43 l i).f0 + a < (rd_T43 l i).f1 - b then [⟨(rd_T43 l i).f0 + a, (rd_T43 l i).f1 - b⟩] else []) := by
  unfold u_sh
  rw [u_take_succ l z43 i h, List.filterMap_append]
  congr 1
  have e : l.getD i z43 = rd_T43 l i := by simp [rd_T43]
  rw [e]
  by_cases hc : (rd_T43 l i).f0 + a < (rd_T43 l i).f1 - b
  · simp [hc]
  · simp [hc]
theorem u_sh_len (l : List S43) (a b : Int) : (u_sh l a b).length ≤ l.length := List.length_filterMap_le _ _
/-- What both sides tell. -/
def u_short (l : List S43) (a b : Int) : List S43 := if 0 ≤ a ∧ 0 ≤ b ∧ a ≤ 1000 ∧ b ≤ 1000 then u_sh (u_runs (u_in l) 1000) a b else []
theorem u_short_len (l : List S43) (a b : Int) : (u_short l a b).length ≤ 1000 := by
  unfold u_short
  split
  · exact Nat.le_trans (u_sh_len _ _ _) (u_runs_len _ _)
  · simp
theorem u_sshort (l : List S43) (a b : Int) (hx : l.length ≤ 1152921504606846976) (ha : -9223372036854775808 ≤ a) (ha1 : a ≤ 9223372036854775807) (hb : -9223372036854775808 ≤ b) (hb1 : b ≤ 9223372036854775807) : Ev (fun k => spec_ShortenSpans.f k l a b) (u_short l a b) := by
  unfold spec_ShortenSpans.f u_short
  simp only [Option.bind_some]
  by_cases h0 : a < 0
  · rw [if_neg (by omega)]
    refine u_ev_pos h0 (u_evsucc ?_)
    simp only [spec_ShortenSpans.j0, if_true]
    exact Ev.now _
  · refine u_ev_neg h0 (u_evsucc ?_)
    by_cases h1 : b < 0
    · rw [if_neg (by omega)]
      simp only [spec_ShortenSpans.j0]
      exact u_ev_pos (decide_eq_true h1) (Ev.now _)
    · simp only [spec_ShortenSpans.j0]
      refine u_ev_neg (by simpa using h1) ?_
      refine Ev.bind (u_sjoin l hx) ?_
      have hr := u_runs_len (u_in l) 1000
      have hk := u_runs_ok (u_in l) 1000
      generalize u_runs (u_in l) 1000 = r at hr hk
      have hma : spec_Min.f a 1000 = some (if a ≤ 1000 then a else 1000) := by
        unfold spec_Min.f
        split <;> split <;> first | rfl | (congr 1; omega)
      have hmb : spec_Min.f b 1000 = some (if b ≤ 1000 then b else 1000) := by
        unfold spec_Min.f
        split <;> split <;> first | rfl | (congr 1; omega)
      obtain ⟨p, hp⟩ : ∃ p, (if a ≤ 1000 then a else 1000) = p := ⟨_, rfl⟩
      obtain ⟨q, hq⟩ : ∃ q, (if b ≤ 1000 then b else 1000) = q := ⟨_, rfl⟩
      rw [hp] at hma
      rw [hq] at hmb
      have hp0 : 0 ≤ p ∧ p ≤ 1000 := by split at hp <;> omega
      have hq0 : 0 ≤ q ∧ q ≤ 1000 := by split at hq <;> omega
      have e : (if 0 ≤ a ∧ 0 ≤ b ∧ a ≤ 1000 ∧ b ≤ 1000 then u_sh r a b else []) = u_sh r p q := by
        by_cases hc : 0 ≤ a ∧ 0 ≤ b ∧ a ≤ 1000 ∧ b ≤ 1000
        · rw [if_pos hc]; rw [if_pos hc.2.2.1] at hp; rw [if_pos hc.2.2.2] at hq; rw [hp, hq]
        · rw [if_neg hc]
          have hpq : p = 1000 ∨ q = 1000 := by split at hp <;> split at hq <;> omega
          have : u_sh r p q = [] := by
            unfold u_sh
            rw [List.filterMap_eq_nil_iff]
            intro s hs
            have := hk s hs
            rw [if_neg (by omega)]
          rw [this]
      rw [e]
      have h := u_evloop (fun k i => spec_ShortenSpans.l0 k a b (u_sh (r.take i) p q) r i) r.length (u_sh r p q) (fun i hi => ⟨0, fun k _ => ?_⟩) ⟨0, fun k _ => ?_⟩
      · simpa [u_sh] using h
      · have hd := u_ok_rd 1000 r hk i (by omega) (by omega)
        have hl := u_sh_len (r.take i) p q
        have hl2 : (r.take i).length ≤ i := by simp; omega
        simp only [spec_ShortenSpans.l0]
        rw [if_pos (by omega), if_pos (by omega), hma, hmb, u_sh_succ r p q i hi]
        simp only [Option.bind_some, u_sisspan]
        rw [u_w64 (x := (rd_T43 r i).f0 + p) (by omega) (by omega), u_w64 (x := (rd_T43 r i).f1 - q) (by omega) (by omega), u_w64 (x := (i : Int) + 1) (by omega) (by omega)]
        by_cases hc : (rd_T43 r i).f0 + p < (rd_T43 r i).f1 - q
        · rw [if_pos hc, if_pos (decide_eq_true (by omega)), if_pos (by omega)]; rfl
        · rw [if_neg hc, if_neg (by simp only [decide_eq_true_eq]; omega), List.append_nil]; rfl
      · simp only [spec_ShortenSpans.l0]
        rw [if_neg (by omega), List.take_of_length_le (by omega)]
theorem u_ishort (l : List S43) (a b : Int) (hx : l.length ≤ 1152921504606846976) (ha : -9223372036854775808 ≤ a) (ha1 : a ≤ 9223372036854775807) (hb : -9223372036854775808 ≤ b) (hb1 : b ≤ 9223372036854775807) : Ev (fun k => impl_ShortenSpans.f k l a b) (u_short l a b) := by
  unfold impl_ShortenSpans.f u_short
  simp only [Option.bind_some]
  by_cases h0 : a < 0
  · rw [if_neg (by omega)]
    refine u_ev_pos h0 (u_evsucc ?_)
    simp only [impl_ShortenSpans.j0, if_true]
    exact Ev.now _
  · refine u_ev_neg h0 ?_
    by_cases h1 : b < 0
    · rw [if_neg (by omega)]
      refine u_ev_pos h1 (u_evsucc ?_)
      simp only [impl_ShortenSpans.j0, if_true]
      exact Ev.now _
    · refine u_ev_neg h1 ?_
      by_cases h2 : a > 1000
      · rw [if_neg (by omega)]
        refine u_ev_pos h2 (u_evsucc ?_)
        simp only [impl_ShortenSpans.j0, if_true]
        exact Ev.now _
      · refine u_ev_neg h2 (u_evsucc ?_)
        by_cases h3 : b > 1000
        · rw [if_neg (by omega)]
          simp only [impl_ShortenSpans.j0]
          exact u_ev_pos (decide_eq_true h3) (Ev.now _)
        · rw [if_pos ⟨by omega, by omega, by omega, by omega⟩]
          simp only [impl_ShortenSpans.j0]
          refine u_ev_neg (by simpa using h3) ?_
          refine Ev.bind (u_ijoin l hx) ?_
          have hr := u_runs_len (u_in l) 1000
          have hk := u_runs_ok (u_in l) 1000
          generalize u_runs (u_in l) 1000 = r at hr hk
          have h := u_evloop (fun k i => impl_ShortenSpans.l0 k a b (u_sh (r.take i) a b) r r.length i) r.length (u_sh r a b) (fun i hi => ⟨0, fun k _ => ?_⟩) ⟨0, fun k _ => ?_⟩
          · simpa [u_sh] using h
          · have hd := u_ok_rd 1000 r hk i (by omega) (by omega)
            have hl := u_sh_len (r.take i) a b
            have hl2 : (r.take i).length ≤ i := by simp; omega
            simp only [impl_ShortenSpans.l0]
            rw [if_pos (by omega), if_pos (by omega), if_pos (by omega), u_sh_succ r a b i hi]
            rw [u_w64 (x := (rd_T43 r i).f0 + a) (by omega) (by omega), u_w64 (x := (rd_T43 r i).f1 - b) (by omega) (by omega), u_w64 (x := (i : Int) + 1) (by omega) (by omega)]
            by_cases hc : (rd_T43 r i).f0 + a < (rd_T43 r i).f1 - b
            · rw [if_pos hc, if_pos hc, if_pos (by omega)]; rfl
            · rw [if_neg hc, if_neg hc, List.append_nil]; rfl
          · simp only [impl_ShortenSpans.l0]
            rw [if_neg (by omega), List.take_of_length_le (by omega)]
def u_mk (m : Int) (n : Nat) : List S43 := (List.range n).map fun j : Nat => ⟨m + 2 * j, m + 2 * j + 1⟩
theorem u_mk_len (m : Int) (n : Nat) : (u_mk m n).length = n := by simp [u_mk]
theorem u_mk_get (m : Int) (n i : Nat) (h : i < n) : rd_T43 (u_mk m n) i = ⟨m + 2 * i, m + 2 * i + 1⟩ := by
  simp [rd_T43, u_mk, List.getD_eq_getElem?_getD, List.getElem?_map, List.getElem?_range h]
theorem u_mk_set (m : Int) (xs : List S43) (i : Nat) (h : i < xs.length) : (u_mk m i ++ xs.drop i).set i ⟨m + 2 * i, m + 2 * i + 1⟩ = u_mk m (i + 1) ++ xs.drop (i + 1) := by
  have e : u_mk m (i + 1) = u_mk m i ++ [⟨m + 2 * i, m + 2 * i + 1⟩] := by simp [u_mk, List.range_succ]
  rw [e, List.set_append_right _ _ (by rw [u_mk_len]; omega), u_mk_len, Nat.sub_self, List.append_assoc]
  congr 1
  rw [List.drop_eq_getElem_cons h]
  rfl
theorem u_markM (l : List S43) (m : Int) (h0 : 0 ≤ m) (hm : m ≤ 4611686018427387904) (hx : l.length ≤ 1152921504606846976) : Ev (fun k => laws_markSpanS.f k l m) (m + 2 * l.length, u_mk m l.length) := by
  unfold laws_markSpanS.f
  have h := u_evloop (fun k i => laws_markSpanS.l0 k (u_mk m i ++ l.drop i) (m + 2 * (i : Int)) i) l.length (m + 2 * (l.length : Int), u_mk m l.length) (fun i hi => ⟨0, fun k _ => ?_⟩) ⟨0, fun k _ => ?_⟩
  · simpa [u_mk] using h
  · have hlen : (u_mk m i ++ l.drop i).length = l.length := by simp [u_mk_len]; omega
    simp only [laws_markSpanS.l0, Option.bind_some]
    rw [hlen, if_pos (by omega), if_pos (by omega), Int.toNat_natCast, List.set_set, u_w64 (x := m + 2 * (i : Int) + 1) (by omega) (by omega), u_w64 (x := m + 2 * (i : Int) + 1 + 1) (by omega) (by omega), u_w64 (x := (i : Int) + 1) (by omega) (by omega)]
    have e : (rd_T43 ((u_mk m i ++ l.drop i).set i (⟨m + 2 * (i : Int), (rd_T43 (u_mk m i ++ l.drop i) i).f1⟩ : S43)) i).f0 = m + 2 * (i : Int) := by
      unfold rd_T43
      rw [Int.toNat_natCast, List.getD_eq_getElem?_getD, List.getElem?_set_self (by omega)]
      rfl
    rw [e, u_mk_set m l i hi, show m + 2 * (i : Int) + 1 + 1 = m + 2 * ((i + 1 : Nat) : Int) from by omega, show (i : Int) + 1 = ((i + 1 : Nat) : Int) from by omega]
  · simp only [laws_markSpanS.l0]
    rw [List.drop_of_length_le (by omega), List.append_nil, u_mk_len, if_neg (by omega)]
theorem u_markS (l : List S43) (hx : l.length ≤ 1152921504606846976) : Ev (fun k => laws_markSpanS.f k l 1) (1 + 2 * l.length, u_mk 1 l.length) := u_markM l 1 (by omega) (by omega) hx
theorem u_heldS (n : Nat) (hx : n ≤ 1152921504606846976) : Ev (fun k => laws_heldSpanS.f k (u_mk 1 n) 1) (1 + 2 * n) := by
  unfold laws_heldSpanS.f
  refine u_evloop (fun k i => laws_heldSpanS.l0 k (u_mk 1 n) (1 + 2 * (i : Int)) i) n (1 + 2 * (n : Int)) (fun i hi => ⟨0, fun k _ => ?_⟩) ⟨0, fun k _ => ?_⟩
  · simp only [laws_heldSpanS.l0]
    rw [u_mk_len, if_pos (by omega), if_pos (by omega), u_mk_get 1 n i hi, u_w64 (x := 1 + 2 * (i : Int) + 1) (by omega) (by omega), u_w64 (x := 1 + 2 * (i : Int) + 1 + 1) (by omega) (by omega), u_w64 (x := (i : Int) + 1) (by omega) (by omega), if_pos rfl, if_pos rfl, show 1 + 2 * (i : Int) + 1 + 1 = 1 + 2 * ((i + 1 : Nat) : Int) from by omega, show (i : Int) + 1 = ((i + 1 : Nat) : Int) from by omega]
  · simp only [laws_heldSpanS.l0]
    rw [u_mk_len, if_neg (by omega)]
theorem u_bd {a : Int} (h : (Lit.int .i64 a).wf = true) : -9223372036854775808 ≤ a ∧ a ≤ 9223372036854775807 := by
  simp [Lit.wf, IntKind.min, IntKind.max, IntKind.bits, IntKind.signed] at h
  exact h

theorem FnExactShortenSpans : ∀ (l0 : List (S45)) (a1 : Int) (a2 : Int), l0.length ≤ 9223372036854775807 → (Lit.int .i64 a1).wf = true → (Lit.int .i64 a2).wf = true → ∃ k, laws_FnExactShortenSpans.f k l0 a1 a2 = some true := by
  intro l a b hx ha hb
  have ha1 := u_bd ha
  have hb1 := u_bd hb
  refine Ev.rounds ?_
  unfold laws_FnExactShortenSpans.f laws_szSpanS.f
  rw [u_w64 (x := 1048576 - (l.length : Int)) (by omega) (by omega)]
  by_cases hl : 1048576 - (l.length : Int) < 0
  · simp only [hl, if_true, Option.bind_some]
    exact u_ev_pos (by omega) (Ev.now true)
  · simp only [hl, if_false, Option.bind_some]
    have hc := u_conv_len l
    have h1 := u_toSpanS l (by omega)
    generalize u_conv l = x at hc h1
    have hs := u_sshort x a b (by omega) ha1.1 ha1.2 hb1.1 hb1.2
    have hi := u_ishort x a b (by omega) ha1.1 ha1.2 hb1.1 hb1.2
    have hr := u_short_len x a b
    generalize u_short x a b = r at hs hi hr
    have her := u_eqSpanS r (by omega)
    have hex := u_eqSpanS x (by omega)
    have hmx := u_markS x (by omega)
    have hmr := u_markS r (by omega)
    have hh := u_heldS r.length (by omega)
    refine Ev.bind h1 (Ev.bind hs (Ev.bind h1 (Ev.bind hi (Ev.bind her (u_ev_pos (by trivial) (Ev.bind h1 (Ev.bind hex (u_ev_pos (by trivial) (Ev.bind hmx (u_ev_neg (by dsimp only; omega) (Ev.bind her ?_)))))))))))
    refine u_evsucc ?_
    simp only [laws_FnExactShortenSpans.j0, Bool.not_true, Bool.false_eq_true, if_false]
    refine Ev.bind hmr (Ev.bind hh (u_ev_neg (by omega) (u_ev_pos (by trivial) (Ev.bind h1 (Ev.bind hi (Ev.bind her (u_ev_pos (by trivial) (Ev.bind hh (u_ev_neg (by omega) (u_ev_pos (by trivial) (Ev.now true)))))))))))

end Go.Proofs.Ytolepbdmbedloae.Pure
