/- FnSpans returns true for every byte slice; no condition. -/
import Derived.Laws.Bits128
import Derived.Test.YtolepbdmbedloaeHFnSpansx5
namespace Go.Proofs.Ytolepbdmbedloae.Pure
open Go.RowKit Go.Proofs.Ytolepbdmbedloae.PFnSpans Go.Proofs.YtolepbdmbedloaeW.PrintWords Go.Proofs.YtolepbdmbedloaeW.PrintLast
set_option linter.unusedVariables false
set_option linter.unusedSimpArgs false

/-- A tick lies in a valid span. -/
def u_sp (a b t : Int) : Bool := decide ((0 ≤ a ∧ b ≤ 1000 ∧ a < b) ∧ a ≤ t ∧ t < b)
theorem u_sp_iff (a b t : Int) : u_sp a b t = true ↔ (0 ≤ a ∧ b ≤ 1000 ∧ a < b) ∧ a ≤ t ∧ t < b := by unfold u_sp; exact decide_eq_true_iff
def u_in (l : List S43) (t : Int) : Bool := l.any fun s => u_sp s.f0 s.f1 t
theorem u_drop_any (l : List S43) (p : S43 → Bool) (i : Nat) (h : i < l.length) : (l.drop i).any p = (p (rd_T43 l i) || (l.drop (i + 1)).any p) := by
  rw [List.drop_eq_getElem_cons h, List.any_cons]
  have e : rd_T43 l i = l[i] := by simp [rd_T43, List.getD_eq_getElem?_getD, List.getElem?_eq_getElem h]
  rw [e]
theorem u_evloop {ρ : Type} (g : Nat → Nat → Option ρ) (n : Nat) (r : ρ) (hs : ∀ i, i < n → ∃ K, ∀ k, K ≤ k → g (k + 1) i = g k (i + 1)) (he : ∃ K, ∀ k, K ≤ k → g (k + 1) n = some r) : Ev (fun k => g k 0) r := by
  have h : ∀ d i, i + d = n → Ev (fun k => g k i) r := by
    intro d
    induction d with
    | zero =>
      intro i hi
      obtain ⟨K, hK⟩ := he
      refine ⟨K + 1, fun k hk => ?_⟩
      obtain ⟨k, rfl⟩ : ∃ m, k = m + 1 := ⟨k - 1, by omega⟩
      obtain rfl : i = n := by omega
      exact hK k (by omega)
    | succ d ih =>
      intro i hi
      obtain ⟨K, hK⟩ := hs i (by omega)
      obtain ⟨L, hL⟩ := ih (i + 1) (by omega)
      refine ⟨K + L + 1, fun k hk => ?_⟩
      obtain ⟨k, rfl⟩ : ∃ m, k = m + 1 := ⟨k - 1, by omega⟩
      show g (k + 1) i = some r
      rw [hK k (by omega)]
      exact hL k (by omega)
  exact h n 0 (by omega)
theorem u_ev_ite {α : Type} {c : Prop} [Decidable c] {f g : Nat → Option α} {r : α} (h1 : c → Ev f r) (h2 : ¬ c → Ev g r) : Ev (fun k => if c then f k else g k) r := by
  by_cases h : c
  · simpa [h] using h1 h
  · simpa [h] using h2 h
theorem u_evsucc {α : Type} {g : Nat → Option α} {r : α} (h : Ev (fun k => g (k + 1)) r) : Ev g r := by
  obtain ⟨K, hK⟩ := h
  refine ⟨K + 1, fun k hk => ?_⟩
  obtain ⟨k, rfl⟩ : ∃ m, k = m + 1 := ⟨k - 1, by omega⟩
  exact hK k (by omega)
theorem u_ev_pos {α : Type} {c : Prop} [Decidable c] {f g : Nat → Option α} {r : α} (hc : c) (h : Ev f r) : Ev (fun k => if c then f k else g k) r := by simpa [hc] using h
theorem u_ev_neg {α : Type} {c : Prop} [Decidable c] {f g : Nat → Option α} {r : α} (hc : ¬ c) (h : Ev g r) : Ev (fun k => if c then f k else g k) r := by simpa [hc] using h
theorem u_w64 {x : Int} (h1 : -9223372036854775808 ≤ x) (h2 : x ≤ 9223372036854775807) : wrap64 x = x := by unfold wrap64; omega
theorem u_rd (xs : List Int) (i : Nat) : rd xs (i : Int) = xs.getD i 0 := by simp [rd]
theorem u_set_fill {α : Type} (xs : List α) (z d : α) (i : Nat) (h : i < xs.length) : (xs.take i ++ List.replicate (xs.length - i) z).set i (xs.getD i d) = xs.take (i + 1) ++ List.replicate (xs.length - (i + 1)) z := by
  apply List.ext_getElem?
  intro j
  have hl : (xs.take i).length = i := by simp; omega
  rcases Nat.lt_trichotomy j i with h1 | h1 | h1
  · rw [List.getElem?_set_ne (by omega), List.getElem?_append_left (by omega), List.getElem?_append_left (by simp; omega)]
    simp [List.getElem?_take, h1, show j < i + 1 by omega]
  · subst h1
    rw [List.getElem?_set_self (by simp; omega), List.getElem?_append_left (by simp; omega)]
    simp [List.getElem?_take, List.getD_eq_getElem?_getD, List.getElem?_eq_getElem h]
  · rw [List.getElem?_set_ne (by omega), List.getElem?_append_right (by omega), List.getElem?_append_right (by simp; omega)]
    simp only [List.getElem?_replicate, hl, List.length_take]
    have e : min (i + 1) xs.length = i + 1 := by omega
    rw [e]
    by_cases h2 : j < xs.length
    · rw [if_pos (by omega), if_pos (by omega)]
    · rw [if_neg (by omega), if_neg (by omega)]
/-- What mark writes: the counters from k on. -/
def u_marks (f : Int → Int) (k : Int) (n : Nat) : List Int := (List.range n).map fun i : Nat => f (k + (i : Int))
theorem u_marks_len (f : Int → Int) (k : Int) (n : Nat) : (u_marks f k n).length = n := by simp [u_marks]
theorem u_marks_get (f : Int → Int) (k : Int) (n i : Nat) (h : i < n) : (u_marks f k n).getD i 0 = f (k + i) := by simp [u_marks, List.getD_eq_getElem?_getD, List.getElem?_map, List.getElem?_range h]
theorem u_marks_set (f : Int → Int) (k : Int) (xs : List Int) (i : Nat) (h : i < xs.length) : (u_marks f k i ++ xs.drop i).set i (f (k + i)) = u_marks f k (i + 1) ++ xs.drop (i + 1) := by
  have e : u_marks f k (i + 1) = u_marks f k i ++ [f (k + i)] := by simp [u_marks, List.range_succ]
  rw [e, List.set_append_right _ _ (by rw [u_marks_len]; omega), u_marks_len, Nat.sub_self, List.append_assoc]
  congr 1
  rw [List.drop_eq_getElem_cons h]
  rfl
theorem u_take_succ {α : Type} (xs : List α) (d : α) (i : Nat) (h : i < xs.length) : xs.take (i + 1) = xs.take i ++ [xs.getD i d] := by
  rw [List.take_succ_eq_append_getElem h]; simp [List.getD_eq_getElem?_getD, List.getElem?_eq_getElem h]
/-- A tick put at the end of a list of runs. -/
def u_put (l : List S43) (t : Int) : List S43 := if 0 < l.length ∧ (rd_T43 l ((l.length : Int) - 1)).f1 = t then l.set (l.length - 1) ⟨(rd_T43 l ((l.length : Int) - 1)).f0, t + 1⟩ else l ++ [⟨t, t + 1⟩]
/-- The runs of the ticks below n for which p holds. -/
def u_runs (p : Int → Bool) : Nat → List S43
  | 0 => []
  | n + 1 => if p n = true then u_put (u_runs p n) n else u_runs p n
theorem u_put_len (l : List S43) (t : Int) : (u_put l t).length ≤ l.length + 1 := by
  unfold u_put; split <;> simp
theorem u_runs_len (p : Int → Bool) (n : Nat) : (u_runs p n).length ≤ n := by
  induction n with
  | zero => simp [u_runs]
  | succ n ih =>
    have := u_put_len (u_runs p n) n
    simp only [u_runs]; split <;> omega
theorem u_runs_more (p : Int → Bool) (m : Nat) (d : Nat) (h : ∀ t : Int, m ≤ t → p t = false) : u_runs p (m + d) = u_runs p m := by
  induction d with
  | zero => rfl
  | succ d ih =>
    show (if p ((m + d : Nat) : Int) = true then u_put (u_runs p (m + d)) ((m + d : Nat) : Int) else u_runs p (m + d)) = _
    rw [h _ (by omega), if_neg (by simp), ih]
theorem u_runs_same (p q : Int → Bool) (n : Nat) (h : ∀ t : Int, 0 ≤ t → t < n → p t = q t) : u_runs p n = u_runs q n := by
  induction n with
  | zero => rfl
  | succ n ih =>
    simp only [u_runs]
    rw [h n (by omega) (by omega), ih (fun t h0 h1 => h t h0 (by omega))]
theorem u_in_succ (l : List S43) (i : Nat) (h : i < l.length) (t : Int) : u_in (l.take (i + 1)) t = (u_in (l.take i) t || u_sp (rd_T43 l i).f0 (rd_T43 l i).f1 t) := by
  unfold u_in
  rw [u_take_succ l z43 i h, List.any_append]
  simp [rd_T43]
theorem u_sisspan (a b : Int) : spec_IsSpan.f a b = some (decide (0 ≤ a ∧ b ≤ 1000 ∧ a < b)) := by
  unfold spec_IsSpan.f
  by_cases h1 : 0 ≤ a <;> by_cases h2 : b ≤ 1000 <;> by_cases h3 : a < b <;> simp [h1, h2, h3]
theorem u_l4last_l (l : List S43) (hx : l.length ≤ 1152921504606846976) (d : Nat) : ∀ (i n : Nat), i + d = l.length → n ≤ 1000 → (∀ t, u_in (l.take i) t = true → t < n) → ∃ m : Nat, Ev (fun k => spec_l4Last.l0 k l (n : Int) i) (m : Int) ∧ m ≤ 1000 ∧ ∀ t, u_in l t = true → t < m := by
  induction d with
  | zero =>
    intro i n hi hn ht
    refine ⟨n, u_evsucc ?_, hn, ?_⟩
    · simp only [spec_l4Last.l0]
      exact u_ev_neg (by omega) (Ev.now _)
    · rw [List.take_of_length_le (by omega)] at ht; exact ht
  | succ d ih =>
    intro i n hi hn ht
    by_cases hv : 0 ≤ (rd_T43 l i).f0 ∧ (rd_T43 l i).f1 ≤ 1000 ∧ (rd_T43 l i).f0 < (rd_T43 l i).f1
    · obtain ⟨m, he, hm, hmt⟩ := ih (i + 1) (if (rd_T43 l i).f1 > n then (rd_T43 l i).f1.toNat else n) (by omega) (by split <;> omega) (by
        intro t h
        rw [u_in_succ l i (by omega), Bool.or_eq_true] at h
        rcases h with h | h
        · have := ht t h; split <;> omega
        · have := (u_sp_iff _ _ _).1 h; split <;> omega)
      refine ⟨m, u_evsucc ?_, hm, hmt⟩
      simp only [spec_l4Last.l0, u_sisspan, Option.bind_some]
      refine u_ev_pos (by omega) (u_ev_pos (by omega) (u_ev_pos (decide_eq_true hv) ?_))
      rw [u_w64 (x := (i : Int) + 1) (by omega) (by omega)]
      refine Ev.bind (a := (((if (rd_T43 l i).f1 > n then (rd_T43 l i).f1.toNat else n : Nat)) : Int)) ⟨0, fun k _ => ?_⟩ he
      unfold spec_Max.f
      by_cases hc : (rd_T43 l i).f1 > n
      · rw [if_pos hc, if_pos hc, Int.toNat_of_nonneg (by omega)]
      · rw [if_neg hc, if_neg hc]
    · obtain ⟨m, he, hm, hmt⟩ := ih (i + 1) n (by omega) hn (by
        intro t h
        rw [u_in_succ l i (by omega), Bool.or_eq_true] at h
        rcases h with h | h
        · exact ht t h
        · exact absurd ((u_sp_iff _ _ _).1 h).1 hv)
      refine ⟨m, u_evsucc ?_, hm, hmt⟩
      simp only [spec_l4Last.l0, u_sisspan, Option.bind_some]
      refine u_ev_pos (by omega) (u_ev_pos (by omega) (u_ev_neg (by simp only [decide_eq_true_eq]; exact hv) ?_))
      rw [u_w64 (x := (i : Int) + 1) (by omega) (by omega)]
      exact he
theorem u_l4last (l : List S43) (hx : l.length ≤ 1152921504606846976) : ∃ n : Nat, Ev (fun k => spec_l4Last.f k l) (n : Int) ∧ n ≤ 1000 ∧ ∀ t, u_in l t = true → t < n := by
  unfold spec_l4Last.f
  exact u_l4last_l l hx l.length 0 0 (by omega) (by omega) (by intro t h; simp [u_in] at h)
theorem u_l4put (l : List S43) (t : Int) (hl : l.length ≤ 1000) (h0 : 0 ≤ t) (h1 : t ≤ 1000) : spec_l4Put.f l t = some (u_put l t) := by
  unfold spec_l4Put.f u_put
  rw [u_w64 (x := (l.length : Int) - 1) (by omega) (by omega), u_w64 (x := t + 1) (by omega) (by omega)]
  by_cases h : (l.length : Int) > 0
  · rw [if_pos h, if_pos (by omega), if_pos (by omega), show ((l.length : Int) - 1).toNat = l.length - 1 from by omega]
    by_cases h2 : (rd_T43 l ((l.length : Int) - 1)).f1 = t
    · rw [if_pos h2, if_pos ⟨by omega, h2⟩]
    · rw [if_neg h2, if_pos (by omega), if_neg (fun h => h2 h.2)]
  · rw [if_neg h, if_pos (by omega), if_neg (fun h' => h (by omega))]
theorem u_sinspan (a b t : Int) : spec_InSpan.f a b t = some (u_sp a b t) := by
  unfold spec_InSpan.f spec_IsSpan.f u_sp
  by_cases h1 : 0 ≤ a <;> by_cases h2 : b ≤ 1000 <;> by_cases h3 : a < b <;> by_cases h4 : a ≤ t <;> simp [h1, h2, h3, h4]
theorem u_sinspans (l : List S43) (t : Int) (hx : l.length ≤ 1152921504606846976) : Ev (fun k => spec_InSpans.f k l t) (u_in l t) := by
  unfold spec_InSpans.f u_in
  have h : ∀ (d i : Nat), i + d = l.length → Ev (fun k => spec_InSpans.l0 k l t i) ((l.drop i).any fun s => u_sp s.f0 s.f1 t) := by
    intro d
    induction d with
    | zero =>
      intro i hi
      rw [List.drop_of_length_le (by omega)]
      refine u_evsucc ?_
      simp only [spec_InSpans.l0]
      exact u_ev_neg (by omega) (Ev.now _)
    | succ d ih =>
      intro i hi
      rw [u_drop_any l _ i (by omega)]
      refine u_evsucc ?_
      simp only [spec_InSpans.l0, u_sinspan, Option.bind_some]
      refine u_ev_pos (by omega) (u_ev_pos (by omega) ?_)
      rw [u_w64 (by omega) (by omega)]
      cases hp : u_sp (rd_T43 l i).f0 (rd_T43 l i).f1 t with
      | true => exact u_ev_pos (by trivial) (Ev.now _)
      | false => exact u_ev_neg (by simp) (by simpa using ih (i + 1) (by omega))
  simpa using h l.length 0 (by omega)
theorem u_sjoin (l : List S43) (hx : l.length ≤ 1152921504606846976) : Ev (fun k => spec_JoinSpans.f k l) (u_runs (u_in l) 1000) := by
  unfold spec_JoinSpans.f
  obtain ⟨n, hn, hn1, hn2⟩ := u_l4last l hx
  refine Ev.bind hn ?_
  have e : u_runs (u_in l) 1000 = u_runs (u_in l) n := by
    rw [show 1000 = n + (1000 - n) from by omega]
    exact u_runs_more _ n _ (fun t ht => by cases h : u_in l t; rfl; have := hn2 t h; omega)
  rw [e]
  refine u_evloop (fun k i => spec_JoinSpans.l0 k l (u_runs (u_in l) i) n i) n _ (fun i hi => ?_) ⟨0, fun k _ => ?_⟩
  · obtain ⟨K, hK⟩ := u_sinspans l i hx
    refine ⟨K, fun k hk => ?_⟩
    have hl := u_runs_len (u_in l) i
    simp only [spec_JoinSpans.l0]
    rw [if_pos (by omega), show spec_InSpans.f k l i = some (u_in l i) from hK k hk, u_w64 (x := (i : Int) + 1) (by omega) (by omega)]
    simp only [Option.bind_some, u_runs]
    by_cases h : u_in l i = true
    · rw [if_pos h, if_pos h, u_l4put _ _ (by omega) (by omega) (by omega)]; rfl
    · rw [if_neg h, if_neg h]; rfl
  · simp only [spec_JoinSpans.l0]
    rw [if_neg (by omega)]
theorem u_iisspan (a b : Int) : impl_IsSpan.f a b = some (decide (0 ≤ a ∧ b ≤ 1000 ∧ a < b)) := by
  unfold impl_IsSpan.f
  by_cases h1 : 0 ≤ a <;> by_cases h2 : b ≤ 1000 <;> by_cases h3 : a < b <;> simp [h1, h2, h3]
def u_tab (f : Int → Bool) : List Bool := (List.range 1000).map fun j : Nat => f j
theorem u_tab_len (f : Int → Bool) : (u_tab f).length = 1000 := by simp [u_tab]
theorem u_tab_get (f : Int → Bool) (t : Int) (h0 : 0 ≤ t) (h1 : t < 1000) : rdOf false (u_tab f) t = f t := by
  unfold rdOf u_tab
  rw [List.getD_eq_getElem?_getD, List.getElem?_map, List.getElem?_range (by omega)]
  simp [Int.toNat_of_nonneg h0]
theorem u_tab_set (f : Int → Bool) (t : Int) (h0 : 0 ≤ t) : (u_tab f).set t.toNat true = u_tab (fun j => f j || decide (j = t)) := by
  apply List.ext_getElem
  · simp [u_tab]
  · intro i h1 h2
    simp only [u_tab, List.getElem_set, List.getElem_map, List.getElem_range]
    by_cases h : t.toNat = i
    · rw [if_pos h]; simp; right; omega
    · rw [if_neg h]; have : ¬ ((i : Int) = t) := by omega
      simp [this]
theorem u_tab_same (f g : Int → Bool) (h : ∀ t : Int, 0 ≤ t → t < 1000 → f t = g t) : u_tab f = u_tab g := by
  unfold u_tab
  apply List.map_congr_left
  intro j hj
  exact h j (by omega) (by have := List.mem_range.1 hj; omega)
theorem u_tick_in (l : List S43) (r : List Bool) (i : Nat) (n : Int) (a b : Int) (ha : 0 ≤ a) (hb : b ≤ 1000) (q : Int → Bool) (d : Nat) : ∀ (m : Nat), a + m + d = b →
    Ev (fun k => impl_ticks.l0 k (u_tab (fun j => q j || decide (a ≤ j ∧ j < b))) l n (wrap64 ((i : Int) + 1))) r →
    Ev (fun k => impl_ticks.l1 k (u_tab (fun j => q j || decide (a ≤ j ∧ j < a + m))) (a + m) l n i a b) r := by
  induction d with
  | zero =>
    intro m hm he
    refine u_evsucc ?_
    simp only [impl_ticks.l1]
    refine u_ev_neg (by omega) ?_
    rw [show a + (m : Int) = b from by omega]
    exact he
  | succ d ih =>
    intro m hm he
    refine u_evsucc ?_
    simp only [impl_ticks.l1]
    refine u_ev_pos (by omega) (u_ev_pos (by omega) (u_ev_pos (by rw [u_tab_len]; omega) ?_))
    rw [u_tab_set _ _ (by omega), u_w64 (x := a + (m : Int) + 1) (by omega) (by omega)]
    have h := ih (m + 1) (by omega) he
    rw [u_tab_same (fun j => (q j || decide (a ≤ j ∧ j < a + m)) || decide (j = a + m)) (fun j => q j || decide (a ≤ j ∧ j < a + ((m + 1 : Nat) : Int)))]
    · rw [show a + (m : Int) + 1 = a + ((m + 1 : Nat) : Int) from by omega]
      exact h
    · intro t _ _
      rw [Bool.or_assoc]
      congr 1
      rw [← Bool.decide_or]
      apply decide_eq_decide.2
      omega
theorem u_ticks_l (l : List S43) (hx : l.length ≤ 1152921504606846976) (d : Nat) : ∀ (i : Nat), i + d = l.length → Ev (fun k => impl_ticks.l0 k (u_tab (u_in (l.take i))) l l.length i) (u_tab (u_in l)) := by
  induction d with
  | zero =>
    intro i hi
    rw [List.take_of_length_le (by omega)]
    refine u_evsucc ?_
    simp only [impl_ticks.l0]
    exact u_ev_neg (by omega) (Ev.now _)
  | succ d ih =>
    intro i hi
    have h := ih (i + 1) (by omega)
    refine u_evsucc ?_
    simp only [impl_ticks.l0, u_iisspan, Option.bind_some]
    refine u_ev_pos (by omega) (u_ev_pos (by omega) (u_ev_pos (by omega) ?_))
    by_cases hv : 0 ≤ (rd_T43 l i).f0 ∧ (rd_T43 l i).f1 ≤ 1000 ∧ (rd_T43 l i).f0 < (rd_T43 l i).f1
    · refine u_ev_pos (decide_eq_true hv) ?_
      have h2 := u_tick_in l (u_tab (u_in l)) i l.length (rd_T43 l i).f0 (rd_T43 l i).f1 hv.1 hv.2.1 (u_in (l.take i)) ((rd_T43 l i).f1 - (rd_T43 l i).f0).toNat 0 (by omega) (by
        rw [u_w64 (x := (i : Int) + 1) (by omega) (by omega)]
        rw [u_tab_same (fun j => u_in (l.take i) j || decide ((rd_T43 l i).f0 ≤ j ∧ j < (rd_T43 l i).f1)) (u_in (l.take (i + 1)))]
        · exact h
        · intro t _ _
          rw [u_in_succ l i (by omega)]
          unfold u_sp
          congr 1
          apply decide_eq_decide.2
          exact ⟨fun h => ⟨hv, h⟩, fun h => h.2⟩)
      rw [u_tab_same (u_in (l.take i)) (fun j => u_in (l.take i) j || decide ((rd_T43 l i).f0 ≤ j ∧ j < (rd_T43 l i).f0 + ((0 : Nat) : Int)))]
      · have e : (rd_T43 l i).f0 + ((0 : Nat) : Int) = (rd_T43 l i).f0 := by omega
        rw [e] at h2 ⊢
        exact h2
      · intro t _ _
        have : ¬ ((rd_T43 l i).f0 ≤ t ∧ t < (rd_T43 l i).f0 + ((0 : Nat) : Int)) := by omega
        simp only [decide_eq_false this, Bool.or_false]
    · refine u_ev_neg (by simp only [decide_eq_true_eq]; exact hv) ?_
      rw [u_w64 (x := (i : Int) + 1) (by omega) (by omega)]
      rw [u_tab_same (u_in (l.take i)) (u_in (l.take (i + 1)))]
      · exact h
      · intro t _ _
        rw [u_in_succ l i (by omega)]
        have : u_sp (rd_T43 l i).f0 (rd_T43 l i).f1 t = false := by
          cases hc : u_sp (rd_T43 l i).f0 (rd_T43 l i).f1 t
          · rfl
          · exact absurd ((u_sp_iff _ _ _).1 hc).1 hv
        rw [this, Bool.or_false]
theorem u_ticks (l : List S43) (hx : l.length ≤ 1152921504606846976) : Ev (fun k => impl_ticks.f k l) (u_tab (u_in l)) := by
  unfold impl_ticks.f
  refine u_ev_pos (by omega) ?_
  have e : List.replicate 1000 false = u_tab (u_in (l.take 0)) := by
    apply List.ext_getElem
    · rw [List.length_replicate, u_tab_len]
    · intro i h1 h2
      simp only [u_tab, List.getElem_replicate, List.getElem_map, List.take_zero]
      rfl
  rw [e]
  exact u_ticks_l l hx l.length 0 (by omega)
theorem u_sw (g : Int → Option Bool) (p : Int → Bool) (hg : ∀ t : Int, 0 ≤ t → t < 1000 → g t = some (p t)) : Ev (fun k => impl_spansWhere.f k 0 1000 g) (u_runs p 1000) := by
  unfold impl_spansWhere.f
  have e0 : mx 0 0 = 0 := by decide
  have e1 : mn 1000 1000 = 1000 := by decide
  rw [e0]
  refine u_evloop (fun k i => impl_spansWhere.l0 k 1000 g (u_runs p i) i) 1000 _ (fun i hi => ⟨0, fun k _ => ?_⟩) ⟨0, fun k _ => ?_⟩
  · have hl := u_runs_len p i
    simp only [impl_spansWhere.l0, u_runs]
    rw [e1, if_pos (by omega), hg i (by omega) (by omega), u_w64 (x := (i : Int) + 1) (by omega) (by omega)]
    simp only [Option.bind_some]
    by_cases h : p i = true
    · rw [if_pos h, if_pos h, u_w64 (x := ((u_runs p i).length : Int) - 1) (by omega) (by omega)]
      unfold u_put
      by_cases h1 : ((u_runs p i).length : Int) - 1 ≥ 0
      · rw [if_pos h1, if_pos (by omega), if_pos (by omega), show (((u_runs p i).length : Int) - 1).toNat = (u_runs p i).length - 1 from by omega]
        by_cases h2 : (rd_T43 (u_runs p i) (((u_runs p i).length : Int) - 1)).f1 = i
        · rw [if_pos h2, if_pos ⟨by omega, h2⟩, h2, u_w64 (x := (i : Int) + 1) (by omega) (by omega)]; rfl
        · rw [if_neg h2, if_pos (by omega), if_neg (fun h => h2 h.2)]; rfl
      · rw [if_neg h1, if_pos (by omega), if_neg (fun h' => h1 (by omega))]; rfl
    · rw [if_neg h, if_neg h]; rfl
  · simp only [impl_spansWhere.l0]
    rw [e1, if_neg (by omega)]
theorem u_ijoin (l : List S43) (hx : l.length ≤ 1152921504606846976) : Ev (fun k => impl_JoinSpans.f k l) (u_runs (u_in l) 1000) := by
  unfold impl_JoinSpans.f
  refine Ev.bind (u_ticks l hx) ?_
  refine Ev.bind (u_sw (g19 (u_tab (u_in l))) (u_in l) (fun t h0 h1 => ?_)) (Ev.now _)
  unfold g19
  rw [if_pos h0, u_tab_len, if_pos (by omega), u_tab_get _ t h0 h1]
def u_p21 (a b : List S43) (t : Int) : Bool := u_in a t && u_in b t
theorem u_imeet (a b : List S43) (hx : a.length ≤ 1152921504606846976) (hy : b.length ≤ 1152921504606846976) : Ev (fun k => impl_MeetSpans.f k a b) (u_runs (u_p21 a b) 1000) := by
  unfold impl_MeetSpans.f
  refine Ev.bind (u_ticks a hx) (Ev.bind (u_ticks b hy) ?_)
  refine Ev.bind (u_sw (g21 (u_tab (u_in a)) (u_tab (u_in b))) (u_p21 a b) (fun t h0 h1 => ?_)) (Ev.now _)
  unfold g21 u_p21
  rw [if_pos h0, u_tab_len, u_tab_len, u_tab_get _ t h0 h1, u_tab_get _ t h0 h1]
  have h2 : t < ((1000 : Nat) : Int) := by omega
  simp only [h2, if_true]
  cases u_in a t <;> cases u_in b t <;> rfl
def u_p15 (a b : List S43) (t : Int) : Bool := u_in a t && !u_in b t
theorem u_icut (a b : List S43) (hx : a.length ≤ 1152921504606846976) (hy : b.length ≤ 1152921504606846976) : Ev (fun k => impl_CutSpans.f k a b) (u_runs (u_p15 a b) 1000) := by
  unfold impl_CutSpans.f
  refine Ev.bind (u_ticks a hx) (Ev.bind (u_ticks b hy) ?_)
  refine Ev.bind (u_sw (g15 (u_tab (u_in a)) (u_tab (u_in b))) (u_p15 a b) (fun t h0 h1 => ?_)) (Ev.now _)
  unfold g15 u_p15
  rw [if_pos h0, u_tab_len, u_tab_len, u_tab_get _ t h0 h1, u_tab_get _ t h0 h1]
  have h2 : t < ((1000 : Nat) : Int) := by omega
  simp only [h2, if_true]
  cases u_in a t <;> cases u_in b t <;> rfl
/-- Runs lie within 0..n. -/
def u_okn (n : Int) (l : List S43) : Prop := ∀ s ∈ l, 0 ≤ s.f0 ∧ s.f0 < s.f1 ∧ s.f1 ≤ n
theorem u_ok_rd (n : Int) (l : List S43) (h : u_okn n l) (i : Int) (h0 : 0 ≤ i) (h1 : i < l.length) : 0 ≤ (rd_T43 l i).f0 ∧ (rd_T43 l i).f0 < (rd_T43 l i).f1 ∧ (rd_T43 l i).f1 ≤ n := by
  apply h
  unfold rd_T43
  rw [List.getD_eq_getElem?_getD, List.getElem?_eq_getElem (by omega)]
  exact List.getElem_mem _
theorem u_put_ok (l : List S43) (t : Int) (h0 : 0 ≤ t) (h : u_okn t l) : u_okn (t + 1) (u_put l t) := by
  unfold u_put
  intro s hs
  split at hs
  · rename_i hc
    have hr := u_ok_rd t l h ((l.length : Int) - 1) (by omega) (by omega)
    rcases List.mem_or_eq_of_mem_set hs with hs | rfl
    · have := h s hs; omega
    · dsimp only; omega
  · rcases List.mem_append.1 hs with hs | hs
    · have := h s hs; omega
    · simp only [List.mem_singleton] at hs; subst hs; dsimp only; omega
theorem u_runs_ok (p : Int → Bool) (n : Nat) : u_okn n (u_runs p n) := by
  induction n with
  | zero => intro s hs; simp [u_runs] at hs
  | succ n ih =>
    simp only [u_runs]
    split
    · have := u_put_ok (u_runs p n) n (by omega) ih
      rw [show ((n + 1 : Nat) : Int) = (n : Int) + 1 from by omega]
      exact this
    · intro s hs
      have := ih s hs
      omega
def u_sum (l : List S43) : Int := (l.map fun s => s.f1 - s.f0).sum
theorem u_sum_succ (l : List S43) (i : Nat) (h : i < l.length) : u_sum (l.take (i + 1)) = u_sum (l.take i) + ((rd_T43 l i).f1 - (rd_T43 l i).f0) := by
  unfold u_sum
  rw [u_take_succ l z43 i h, List.map_append, List.sum_append]
  simp [rd_T43]
theorem u_sum_bd (l : List S43) (h : u_okn 1000 l) (i : Nat) (hi : i ≤ l.length) : 0 ≤ u_sum (l.take i) ∧ u_sum (l.take i) ≤ 1000 * i := by
  induction i with
  | zero => simp [u_sum]
  | succ i ih =>
    have h1 := ih (by omega)
    have h2 := u_ok_rd 1000 l h i (by omega) (by omega)
    rw [u_sum_succ l i (by omega)]
    omega
theorem u_itick (l : List S43) (hx : l.length ≤ 1152921504606846976) : Ev (fun k => impl_TicksOf.f k l) (u_sum (u_runs (u_in l) 1000)) := by
  unfold impl_TicksOf.f
  refine Ev.bind (u_ijoin l hx) ?_
  have hr := u_runs_len (u_in l) 1000
  have hk := u_runs_ok (u_in l) 1000
  generalize u_runs (u_in l) 1000 = r at hr hk
  have h := u_evloop (fun k i => impl_TicksOf.l0 k (u_sum (r.take i)) r r.length i) r.length (u_sum r) (fun i hi => ⟨0, fun k _ => ?_⟩) ⟨0, fun k _ => ?_⟩
  · simpa [u_sum] using h
  · have hb := u_sum_bd r hk i (by omega)
    have hd := u_ok_rd 1000 r hk i (by omega) (by omega)
    simp only [impl_TicksOf.l0]
    rw [if_pos (by omega), if_pos (by omega), if_pos (by omega), u_sum_succ r i hi, u_w64 (x := (rd_T43 r i).f1 - (rd_T43 r i).f0) (by omega) (by omega), u_w64 (x := u_sum (r.take i) + ((rd_T43 r i).f1 - (rd_T43 r i).f0)) (by omega) (by omega), u_w64 (x := (i : Int) + 1) (by omega) (by omega)]
    rfl
  · simp only [impl_TicksOf.l0]
    rw [if_neg (by omega), List.take_of_length_le (by omega)]
def u_sh (l : List S43) (a b : Int) : List S43 := l.filterMap fun s => if s.f0 + a < s.f1 - b then some ⟨s.f0 + a, s.f1 - b⟩ else none
theorem u_sh_succ (l : List S43) (a b : Int) (i : Nat) (h : i < l.length) : u_sh (l.take (i + 1)) a b = u_sh (l.take i) a b ++ (if (rd_T43 l i).f0 + a < (rd_T43 l i).f1 - b then [⟨(rd_T43 l i).f0 + a, (rd_T43 l i).f1 - b⟩] else []) := by
  unfold u_sh
  rw [u_take_succ l z43 i h, List.filterMap_append]
  congr 1
  have e : l.getD i z43 = rd_T43 l i := by simp [rd_T43]
  rw [e]
  by_cases hc : (rd_T43 l i).f0 + a < (rd_T43 l i).f1 - b
  · simp [hc]
  · simp [hc]
theorem u_sh_len (l : List S43) (a b : Int) : (u_sh l a b).length ≤ l.length := List.length_filterMap_le _ _
/-- What both sides tell. -/
def u_short (l : List S43) (a b : Int) : List S43 := if 0 ≤ a ∧ 0 ≤ b ∧ a ≤ 1000 ∧ b ≤ 1000 then u_sh (u_runs (u_in l) 1000) a b else []
theorem u_short_len (l : List S43) (a b : Int) : (u_short l a b).length ≤ 1000 := by
  unfold u_short
  split
  · exact Nat.le_trans (u_sh_len _ _ _) (u_runs_len _ _)
  · simp
theorem u_ishort (l : List S43) (a b : Int) (hx : l.length ≤ 1152921504606846976) (ha : -9223372036854775808 ≤ a) (ha1 : a ≤ 9223372036854775807) (hb : -9223372036854775808 ≤ b) (hb1 : b ≤ 9223372036854775807) : Ev (fun k => impl_ShortenSpans.f k l a b) (u_short l a b) := by
  unfold impl_ShortenSpans.f u_short
  simp only [Option.bind_some]
  by_cases h0 : a < 0
  · rw [if_neg (by omega)]
    refine u_ev_pos h0 (u_evsucc ?_)
    simp only [impl_ShortenSpans.j0, if_true]
    exact Ev.now _
  · refine u_ev_neg h0 ?_
    by_cases h1 : b < 0
    · rw [if_neg (by omega)]
      refine u_ev_pos h1 (u_evsucc ?_)
      simp only [impl_ShortenSpans.j0, if_true]
      exact Ev.now _
    · refine u_ev_neg h1 ?_
      by_cases h2 : a > 1000
      · rw [if_neg (by omega)]
        refine u_ev_pos h2 (u_evsucc ?_)
        simp only [impl_ShortenSpans.j0, if_true]
        exact Ev.now _
      · refine u_ev_neg h2 (u_evsucc ?_)
        by_cases h3 : b > 1000
        · rw [if_neg (by omega)]
          simp only [impl_ShortenSpans.j0]
          exact u_ev_pos (decide_eq_true h3) (Ev.now _)
        · rw [if_pos ⟨by omega, by omega, by omega, by omega⟩]
          simp only [impl_ShortenSpans.j0]
          refine u_ev_neg (by simpa using h3) ?_
          refine Ev.bind (u_ijoin l hx) ?_
          have hr := u_runs_len (u_in l) 1000
          have hk := u_runs_ok (u_in l) 1000
          generalize u_runs (u_in l) 1000 = r at hr hk
          have h := u_evloop (fun k i => impl_ShortenSpans.l0 k a b (u_sh (r.take i) a b) r r.length i) r.length (u_sh r a b) (fun i hi => ⟨0, fun k _ => ?_⟩) ⟨0, fun k _ => ?_⟩
          · simpa [u_sh] using h
          · have hd := u_ok_rd 1000 r hk i (by omega) (by omega)
            have hl := u_sh_len (r.take i) a b
            have hl2 : (r.take i).length ≤ i := by simp; omega
            simp only [impl_ShortenSpans.l0]
            rw [if_pos (by omega), if_pos (by omega), if_pos (by omega), u_sh_succ r a b i hi]
            rw [u_w64 (x := (rd_T43 r i).f0 + a) (by omega) (by omega), u_w64 (x := (rd_T43 r i).f1 - b) (by omega) (by omega), u_w64 (x := (i : Int) + 1) (by omega) (by omega)]
            by_cases hc : (rd_T43 r i).f0 + a < (rd_T43 r i).f1 - b
            · rw [if_pos hc, if_pos hc, if_pos (by omega)]; rfl
            · rw [if_neg hc, if_neg hc, List.append_nil]; rfl
          · simp only [impl_ShortenSpans.l0]
            rw [if_neg (by omega), List.take_of_length_le (by omega)]
theorem u_iinspan (a b t : Int) : impl_InSpan.f a b t = some (u_sp a b t) := by
  unfold impl_InSpan.f impl_IsSpan.f u_sp
  by_cases h1 : 0 ≤ a <;> by_cases h2 : b ≤ 1000 <;> by_cases h3 : a < b <;> by_cases h4 : a ≤ t <;> simp [h1, h2, h3, h4]
theorem u_iinspans (l : List S43) (t : Int) (hx : l.length ≤ 1152921504606846976) : Ev (fun k => impl_InSpans.f k l t) (u_in l t) := by
  unfold impl_InSpans.f u_in
  have h : ∀ (d i : Nat), i + d = l.length → Ev (fun k => impl_InSpans.l0 k t l l.length i) ((l.drop i).any fun s => u_sp s.f0 s.f1 t) := by
    intro d
    induction d with
    | zero =>
      intro i hi
      rw [List.drop_of_length_le (by omega)]
      refine u_evsucc ?_
      simp only [impl_InSpans.l0]
      exact u_ev_neg (by omega) (Ev.now _)
    | succ d ih =>
      intro i hi
      rw [u_drop_any l _ i (by omega)]
      refine u_evsucc ?_
      simp only [impl_InSpans.l0, u_iinspan, Option.bind_some]
      refine u_ev_pos (by omega) (u_ev_pos (by omega) (u_ev_pos (by omega) ?_))
      rw [u_w64 (by omega) (by omega)]
      cases hp : u_sp (rd_T43 l i).f0 (rd_T43 l i).f1 t with
      | true => exact u_ev_pos (by trivial) (Ev.now _)
      | false => exact u_ev_neg (by simp) (by simpa using ih (i + 1) (by omega))
  simpa using h l.length 0 (by omega)
theorem u_and255 (n : Int) : Go.bits .and .i64 n 255 = n % 256 := by
  have h : (BitVec.ofInt 64 255).toNat = 2 ^ 8 - 1 := by decide
  have key : (BitVec.ofInt 64 n &&& BitVec.ofInt 64 255).toNat = (n % ((2 ^ 64 : Nat) : Int)).toNat % 2 ^ 8 := by
    rw [BitVec.toNat_and, BitVec.toNat_ofInt, h, Nat.and_two_pow_sub_one_eq_mod]
  show IntKind.i64.wrap ((BitVec.ofInt 64 n &&& BitVec.ofInt 64 255).toNat : Nat) = n % 256
  rw [key, IntKind.wrap_i64]
  omega
/-- A draw answers, its cursor stays in place, and what it draws is as p says. -/
def u_dr {α : Type} (o : Option (α × Int × Int)) (p : α → Prop) : Prop := ∃ r i h, o = some (r, i, h) ∧ 0 ≤ i ∧ p r
theorem u_drew {α β : Type} {o : Option (α × Int × Int)} {p : α → Prop} {f : α × Int × Int → Option (β × Int × Int)} {q : β → Prop} (h : u_dr o p) (k : ∀ r i h, 0 ≤ i → p r → u_dr (f (r, i, h)) q) : u_dr (o.bind f) q := by
  obtain ⟨r, i, h, rfl, h0, hp⟩ := h
  exact k r i h h0 hp
theorem u_done {α : Type} {r : α} {i h : Int} {p : α → Prop} (h0 : 0 ≤ i) (hp : p r) : u_dr (some (r, i, h)) p := ⟨r, i, h, rfl, h0, hp⟩
theorem u_new (b : List Int) (hb : b.length ≤ 1048576) : ∃ h, Ev (fun k => spec_l1New.f k b) (b, 0, h) := by
  unfold spec_l1New.f
  have hx : ∀ (d : Nat) (h : Int) (i : Nat), i + d = b.length → ∃ r, Ev (fun k => spec_l1New.l0 k b h i) (b, 0, r) := by
    intro d
    induction d with
    | zero =>
      intro h i hi
      refine ⟨h, u_evsucc ?_⟩
      simp only [spec_l1New.l0]
      exact u_ev_neg (by omega) (Ev.now _)
    | succ d ih =>
      intro h i hi
      by_cases h4 : (i : Int) < 4000
      · obtain ⟨r, hr⟩ := ih (Go.bits .and .i64 (wrap64 ((wrap64 ((wrap64 (h * 137)) + (wrap64 (rd b i)))) + 11)) 1073741823) (i + 1) (by omega)
        refine ⟨r, u_evsucc ?_⟩
        simp only [spec_l1New.l0]
        refine u_ev_pos (by omega) (u_ev_pos h4 (u_ev_pos (by omega) ?_))
        rw [u_w64 (x := (i : Int) + 1) (by omega) (by omega)]
        exact hr
      · refine ⟨h, u_evsucc ?_⟩
        simp only [spec_l1New.l0]
        exact u_ev_pos (by omega) (u_ev_neg h4 (Ev.now _))
  exact hx b.length _ 0 (by omega)
theorem u_byte (b : List Int) (i h : Int) (hb : b.length ≤ 1048576) (hi : 0 ≤ i) : u_dr (spec_l1Byte.f b i h) (fun r => 0 ≤ r ∧ r ≤ 255) := by
  unfold spec_l1Byte.f
  by_cases hl : i < (b.length : Int)
  · rw [if_pos hl, if_pos hi, u_and255, u_and255, u_w64 (x := i + 1) (by omega) (by omega)]
    exact u_done (by omega) (by omega)
  · rw [if_neg hl, u_and255]
    exact u_done hi (by omega)
theorem u_tmod_add (p : Int) {q : Int} (hq : 0 < q) : (p.tmod q + q).tmod q = p % q := by
  have h1 := Int.tmod_lt_of_pos p hq
  have h2 : -q < p.tmod q := by
    rcases Int.le_total 0 p with h | h
    · have := Int.tmod_nonneg q h; omega
    · have h3 : (-p).tmod q = -(p.tmod q) := Int.neg_tmod _ _
      have h4 := Int.tmod_lt_of_pos (-p) hq
      omega
  rw [Int.tmod_eq_emod_of_nonneg (by omega), Int.add_emod_right]
  have := Int.tmod_eq_emod (a := p) (b := q)
  rw [this]
  split
  · simp
  · rw [Int.sub_emod]
    have : ((q.natAbs : Int)) % q = 0 := by
      have : (q.natAbs : Int) = q := by omega
      rw [this]; exact Int.emod_self
    rw [this]; simp
theorem u_tmod_fix (p : Int) {q : Int} (hq : 0 < q) : (if p.tmod q < 0 then p.tmod q + q else p.tmod q) = p % q := by
  have h1 := Int.tmod_lt_of_pos p hq
  have h2 : -q < p.tmod q := by
    rcases Int.le_total 0 p with h | h
    · have := Int.tmod_nonneg q h; omega
    · have h3 : (-p).tmod q = -(p.tmod q) := Int.neg_tmod _ _
      have h4 := Int.tmod_lt_of_pos (-p) hq
      omega
  have h3 := u_tmod_add p hq
  split
  · rw [Int.tmod_eq_emod_of_nonneg (by omega)] at h3
    rw [← h3, Int.emod_eq_of_lt (by omega) (by omega)]
  · rw [Int.tmod_eq_emod_of_nonneg (by omega), Int.add_emod_right, Int.emod_eq_of_lt (by omega) (by omega)] at h3
    exact h3
theorem u_tmod_bd (p : Int) {q : Int} (hq : 0 < q) : -q < p.tmod q ∧ p.tmod q < q := by
  have h1 := Int.tmod_lt_of_pos p hq
  refine ⟨?_, h1⟩
  rcases Int.le_total 0 p with h | h
  · have := Int.tmod_nonneg q h; omega
  · have h3 : (-p).tmod q = -(p.tmod q) := Int.neg_tmod _ _
    have h4 := Int.tmod_lt_of_pos (-p) hq
    omega
theorem u_below (b : List Int) (i h n : Int) (hb : b.length ≤ 1048576) (hi : 0 ≤ i) : u_dr (spec_l1Below.f b i h n) (fun r => 0 ≤ r ∧ (r < n ∨ n ≤ 0 ∧ r = 0)) := by
  unfold spec_l1Below.f
  split
  · exact u_done hi (by omega)
  · rename_i hn
    split
    · refine u_drew (u_byte b i h hb hi) fun r i h hi hr => ?_
      rw [if_neg (by omega)]
      dsimp only
      have := Int.tmod_lt_of_pos r (show 0 < n by omega)
      have := Int.tmod_nonneg n hr.1
      exact u_done hi (by omega)
    · refine u_drew (u_byte b i h hb hi) fun r i h hi hr => u_drew (u_byte b i h hb hi) fun r2 i h hi hr2 => u_drew (u_byte b i h hb hi) fun r3 i h hi hr3 => ?_
      rw [if_neg (by omega)]
      dsimp only
      rw [u_w64 (x := r * 65536) (by omega) (by omega), u_w64 (x := r2 * 256) (by omega) (by omega), u_w64 (x := r * 65536 + r2 * 256) (by omega) (by omega), u_w64 (x := r * 65536 + r2 * 256 + r3) (by omega) (by omega)]
      have := Int.tmod_lt_of_pos (r * 65536 + r2 * 256 + r3) (show 0 < n by omega)
      have := Int.tmod_nonneg n (show 0 ≤ r * 65536 + r2 * 256 + r3 by omega)
      exact u_done hi (by omega)
theorem u_once (b : List Int) (i h n : Int) (hb : b.length ≤ 1048576) (hi : 0 ≤ i) : u_dr (spec_l1Once.f b i h n) (fun _ => True) := by
  unfold spec_l1Once.f
  exact u_drew (u_below b i h n hb hi) fun r i h hi hr => u_done hi trivial
theorem u_pick (b : List Int) (i h : Int) (l : List Int) (hb : b.length ≤ 1048576) (hi : 0 ≤ i) (hl : l ≠ []) : u_dr (spec_l1Int.f b i h l) (fun r => r ∈ l) := by
  unfold spec_l1Int.f
  refine u_drew (u_below b i h _ hb hi) fun r i h hi hr => ?_
  have hp := List.length_pos_iff.2 hl
  rw [if_pos hr.1, if_pos (by omega)]
  refine u_done hi ?_
  unfold rd
  rw [List.getD_eq_getElem?_getD, List.getElem?_eq_getElem (by omega)]
  exact List.getElem_mem _
theorem u_raw4 (b : List Int) (i h : Int) (hb : b.length ≤ 1048576) (hi : 0 ≤ i) : u_dr (spec_l4Raw.f b i h) (fun r => -9223372036854775808 ≤ r ∧ r ≤ 9223372036854775807) := by
  unfold spec_l4Raw.f
  refine u_drew (u_once b i h 6 hb hi) fun r i h hi hr => ?_
  cases r with
  | true =>
    simp only [if_true]
    refine u_drew (u_pick b i h _ hb hi (by simp)) fun r i h hi hr => u_done hi ?_
    simp only [List.mem_cons, List.not_mem_nil, or_false] at hr; omega
  | false =>
    simp only [Bool.false_eq_true, if_false]
    exact u_drew (u_below b i h 40 hb hi) fun r i h hi hr => u_done hi (by omega)
theorem u_big {α : Type} {f g : Nat → Option α} {x : List Int} {r : α} (h1 : Ev f r) (h2 : x.length ≤ 1048576 → Ev g r) : Ev (fun k => (laws_big.f x).bind fun t => if t = true then f k else g k) r := by
  unfold laws_big.f
  simp only [Option.bind_some]
  by_cases h : (x.length : Int) > 1048576
  · simpa [h] using h1
  · simpa [h] using h2 (by omega)
theorem u_rd_last (M : List S43) (s : S43) : rd_T43 (M ++ [s]) (((M ++ [s]).length : Int) - 1) = s := by
  unfold rd_T43
  have e : (((M ++ [s]).length : Int) - 1).toNat = M.length := by simp
  rw [e, List.getD_eq_getElem?_getD, List.getElem?_append_right (Nat.le_refl _)]
  simp
theorem u_put_snoc (M : List S43) (s : S43) (t : Int) : u_put (M ++ [s]) t = if s.f1 = t then M ++ [⟨s.f0, t + 1⟩] else M ++ [s] ++ [⟨t, t + 1⟩] := by
  unfold u_put
  rw [u_rd_last]
  by_cases h : s.f1 = t
  · rw [if_pos ⟨by simp, h⟩, if_pos h]
    have e : (M ++ [s]).length - 1 = M.length := by simp
    rw [e, List.set_append_right _ _ (Nat.le_refl _)]
    simp
  · rw [if_neg (fun hc => h hc.2), if_neg h]
theorem u_put_nil (t : Int) : u_put ([] : List S43) t = [⟨t, t + 1⟩] := by
  unfold u_put
  rw [if_neg (by simp)]
  rfl
theorem u_in_app (L M : List S43) (t : Int) : u_in (L ++ M) t = (u_in L t || u_in M t) := by unfold u_in; exact List.any_append
theorem u_in_one (a b t : Int) : u_in [(⟨a, b⟩ : S43)] t = u_sp a b t := by unfold u_in; simp
theorem u_snoc (l : List S43) (h : l ≠ []) : ∃ M s, l = M ++ [s] := ⟨l.dropLast, l.getLast h, (List.dropLast_concat_getLast h).symm⟩
theorem u_in_put (l : List S43) (n t : Int) (hk : u_okn n l) (h0 : 0 ≤ n) (h1 : n + 1 ≤ 1000) : u_in (u_put l n) t = (u_in l t || decide (t = n)) := by
  have hone : u_sp n (n + 1) t = decide (t = n) := by unfold u_sp; apply decide_eq_decide.2; omega
  by_cases hl : l = []
  · subst hl
    rw [u_put_nil, u_in_one, hone]
    simp [u_in]
  · obtain ⟨M, s, rfl⟩ := u_snoc l hl
    have hs := hk s (by simp)
    rw [u_put_snoc]
    by_cases h : s.f1 = n
    · rw [if_pos h, u_in_app, u_in_app, Bool.or_assoc]
      congr 1
      rw [u_in_one]
      have e : u_in [s] t = u_sp s.f0 s.f1 t := u_in_one s.f0 s.f1 t
      rw [e]
      unfold u_sp
      rw [← Bool.decide_or]
      apply decide_eq_decide.2
      omega
    · rw [if_neg h, u_in_app (M ++ [s]), u_in_one, hone]
theorem u_in_runs (p : Int → Bool) (n : Nat) (hn : n ≤ 1000) (t : Int) : u_in (u_runs p n) t = (decide (0 ≤ t ∧ t < n) && p t) := by
  induction n with
  | zero =>
    have : ¬ (0 ≤ t ∧ t < ((0 : Nat) : Int)) := by omega
    rw [decide_eq_false this]
    simp [u_runs, u_in]
  | succ n ih =>
    have ih := ih (by omega)
    simp only [u_runs]
    by_cases hp : p n = true
    · rw [if_pos hp, u_in_put _ _ _ (u_runs_ok p n) (by omega) (by omega), ih]
      by_cases ht : t = n
      · subst ht
        have h2 : (0 : Int) ≤ (n : Int) ∧ (n : Int) < ((n + 1 : Nat) : Int) := by omega
        rw [decide_eq_true h2, hp]
        simp
      · rw [decide_eq_false ht, Bool.or_false]
        congr 1
        apply decide_eq_decide.2
        omega
    · rw [if_neg hp, ih]
      by_cases ht : t = n
      · subst ht
        have : p n = false := by simpa using hp
        rw [this]; simp
      · congr 1
        apply decide_eq_decide.2
        omega
theorem u_in_all (p : Int → Bool) (hp : ∀ t, p t = true → 0 ≤ t ∧ t < 1000) (t : Int) : u_in (u_runs p 1000) t = p t := by
  rw [u_in_runs p 1000 (Nat.le_refl _)]
  cases h : p t with
  | false => simp
  | true =>
    have := hp t h
    rw [decide_eq_true (show 0 ≤ t ∧ t < ((1000 : Nat) : Int) by omega)]
    rfl
theorem u_in_bd (l : List S43) (t : Int) (h : u_in l t = true) : 0 ≤ t ∧ t < 1000 := by
  unfold u_in at h
  obtain ⟨s, _, hs⟩ := List.any_eq_true.1 h
  have := (u_sp_iff _ _ _).1 hs
  omega
/-- How many ticks below n. -/
def u_cnt (p : Int → Bool) : Nat → Int
  | 0 => 0
  | n + 1 => u_cnt p n + (if p n = true then 1 else 0)
theorem u_sum_app (L M : List S43) : u_sum (L ++ M) = u_sum L + u_sum M := by unfold u_sum; rw [List.map_append, List.sum_append]
theorem u_sum_one (a b : Int) : u_sum [(⟨a, b⟩ : S43)] = b - a := by simp [u_sum]
theorem u_sum_put (l : List S43) (t : Int) : u_sum (u_put l t) = u_sum l + 1 := by
  by_cases hl : l = []
  · subst hl
    rw [u_put_nil, u_sum_one]
    simp [u_sum]; omega
  · obtain ⟨M, s, rfl⟩ := u_snoc l hl
    have e : u_sum [s] = s.f1 - s.f0 := u_sum_one s.f0 s.f1
    rw [u_put_snoc]
    by_cases h : s.f1 = t
    · rw [if_pos h, u_sum_app, u_sum_app, u_sum_one, e]; omega
    · rw [if_neg h, u_sum_app (M ++ [s]), u_sum_one]; omega
theorem u_sum_runs (p : Int → Bool) (n : Nat) : u_sum (u_runs p n) = u_cnt p n := by
  induction n with
  | zero => rfl
  | succ n ih =>
    simp only [u_runs, u_cnt]
    by_cases h : p n = true
    · rw [if_pos h, if_pos h, u_sum_put, ih]
    · rw [if_neg h, if_neg h, ih]; omega
theorem u_cnt_bd (p : Int → Bool) (n : Nat) : 0 ≤ u_cnt p n ∧ u_cnt p n ≤ n := by
  induction n with
  | zero => exact ⟨Int.le_refl _, Int.le_refl _⟩
  | succ n ih => simp only [u_cnt]; split <;> omega
theorem u_cnt_two (p q r : Int → Bool) (h : ∀ t, p t = (q t || r t)) (h2 : ∀ t, ¬ (q t = true ∧ r t = true)) (n : Nat) : u_cnt q n + u_cnt r n = u_cnt p n := by
  induction n with
  | zero => rfl
  | succ n ih =>
    have h1 := h n
    have h3 := h2 n
    simp only [u_cnt]
    rw [h1, ← ih]
    cases hq : q n <;> cases hr : r n <;> simp [hq, hr] at h3 ⊢ <;> omega
theorem u_cnt_le (p q : Int → Bool) (h : ∀ t, p t = true → q t = true) (n : Nat) : u_cnt p n ≤ u_cnt q n := by
  induction n with
  | zero => exact Int.le_refl _
  | succ n ih =>
    simp only [u_cnt]
    by_cases hp : p n = true
    · rw [if_pos hp, if_pos (h n hp)]; omega
    · rw [if_neg hp]; split <;> omega
def u_gap (l : List S43) : Prop := ∀ i : Nat, i + 1 < l.length → (rd_T43 l i).f1 < (rd_T43 l ((i + 1 : Nat) : Int)).f0
theorem u_rd_app (M N : List S43) (i : Nat) (h : i < M.length) : rd_T43 (M ++ N) i = rd_T43 M i := by
  simp [rd_T43, List.getD_eq_getElem?_getD, List.getElem?_append_left h]
theorem u_rd_at (M : List S43) (s : S43) : rd_T43 (M ++ [s]) (M.length : Int) = s := by
  simp [rd_T43, List.getD_eq_getElem?_getD]
theorem u_gap_snoc (M : List S43) (s : S43) (h : u_gap M) (h2 : ∀ i : Nat, i + 1 = M.length → (rd_T43 M i).f1 < s.f0) : u_gap (M ++ [s]) := by
  intro i hi
  rw [List.length_append, List.length_singleton] at hi
  by_cases hc : i + 1 < M.length
  · rw [u_rd_app _ _ _ (by omega), u_rd_app _ _ _ hc]; exact h i hc
  · have e : i + 1 = M.length := by omega
    rw [u_rd_app _ _ _ (by omega), e, u_rd_at]
    exact h2 i e
theorem u_gap_init (M : List S43) (s : S43) (h : u_gap (M ++ [s])) : u_gap M ∧ ∀ i : Nat, i + 1 = M.length → (rd_T43 M i).f1 < s.f0 := by
  constructor
  · intro i hi
    have := h i (by simp; omega)
    rw [u_rd_app _ _ _ (by omega), u_rd_app _ _ _ hi] at this
    exact this
  · intro i hi
    have := h i (by simp; omega)
    rw [u_rd_app _ _ _ (by omega), hi, u_rd_at] at this
    exact this
theorem u_gap_put (l : List S43) (n : Int) (hk : u_okn n l) (h : u_gap l) : u_gap (u_put l n) := by
  by_cases hl : l = []
  · subst hl
    rw [u_put_nil]
    intro i hi; simp at hi
  · obtain ⟨M, s, rfl⟩ := u_snoc l hl
    obtain ⟨h1, h2⟩ := u_gap_init M s h
    have hs := hk s (by simp)
    rw [u_put_snoc]
    by_cases hc : s.f1 = n
    · rw [if_pos hc]; exact u_gap_snoc M _ h1 h2
    · rw [if_neg hc]
      refine u_gap_snoc _ _ h (fun i hi => ?_)
      have e : i = M.length := by simp at hi; omega
      rw [e, u_rd_at]
      dsimp only
      omega
theorem u_gap_runs (p : Int → Bool) (n : Nat) : u_gap (u_runs p n) := by
  induction n with
  | zero => intro i hi; simp [u_runs] at hi
  | succ n ih =>
    simp only [u_runs]
    split
    · exact u_gap_put _ _ (u_runs_ok p n) ih
    · exact ih
theorem u_short_in (l : List S43) (a b t : Int) (h : u_in (u_short l a b) t = true) : u_in l t = true := by
  unfold u_short at h
  split at h
  · rename_i hc
    unfold u_in u_sh at h
    obtain ⟨s, hs, hst⟩ := List.any_eq_true.1 h
    obtain ⟨s0, hs0, he⟩ := List.mem_filterMap.1 hs
    split at he
    · have he := Option.some.inj he
      subst he
      have hk := u_runs_ok (u_in l) 1000 s0 hs0
      have h2 := (u_sp_iff _ _ _).1 hst
      dsimp only at h2
      rw [← u_in_all (u_in l) (u_in_bd l) t]
      unfold u_in
      exact List.any_eq_true.2 ⟨s0, hs0, (u_sp_iff _ _ _).2 (by omega)⟩
    · cases he
  · simp [u_in] at h
theorem u_any4 (b : List Int) (i h : Int) (hb : b.length ≤ 1048576) (hi : 0 ≤ i) : ∃ p q i' h', spec_l4Any.f b i h = some (p, q, i', h') ∧ 0 ≤ i' := by
  obtain ⟨f, i1, h1, e1, hi1, _⟩ := u_below b i h 30 hb hi
  obtain ⟨g, i2, h2, e2, hi2, _⟩ := u_below b i1 h1 9 hb hi1
  obtain ⟨c, i3, h3, e3, hi3, _⟩ := u_below b i2 h2 9 hb hi2
  obtain ⟨r, i4, h4, e4, hi4, _⟩ := u_raw4 b i3 h3 hb hi3
  unfold spec_l4Any.f
  simp only [e1, e2, e3, e4, Option.bind_some]
  by_cases c0 : c = 0
  · rw [if_pos c0]; exact ⟨_, _, _, _, rfl, hi4⟩
  · rw [if_neg c0]
    by_cases c1 : c = 1
    · rw [if_pos c1]; exact ⟨_, _, _, _, rfl, hi4⟩
    · rw [if_neg c1]; exact ⟨_, _, _, _, rfl, hi3⟩
theorem u_list4_l (b : List Int) (hb : b.length ≤ 1048576) (d : Nat) : ∀ (i h : Int) (out : List S43), out.length + d ≤ 8 → 0 ≤ i →
    ∃ r i' h', Ev (fun k => spec_l4List.l0 k out (d : Int) b i h) (r, i', h') ∧ 0 ≤ i' ∧ r.length ≤ 8 := by
  induction d with
  | zero =>
    intro i h out hl hi
    refine ⟨out, i, h, u_evsucc ?_, hi, by omega⟩
    simp only [spec_l4List.l0]
    exact u_ev_neg (by omega) (Ev.now _)
  | succ d ih =>
    intro i h out hl hi
    obtain ⟨p, q, i1, h1, e, hi1⟩ := u_any4 b i h hb hi
    obtain ⟨r', i', h', he, hi', hl'⟩ := ih i1 h1 (out ++ [⟨p, q⟩]) (by simp; omega) hi1
    refine ⟨r', i', h', u_evsucc ?_, hi', hl'⟩
    simp only [spec_l4List.l0, e, Option.bind_some]
    refine u_ev_pos (by omega) (u_ev_pos (by omega) ?_)
    rw [u_w64 (x := ((d + 1 : Nat) : Int) - 1) (by omega) (by omega), show ((d + 1 : Nat) : Int) - 1 = (d : Int) from by omega]
    exact he
theorem u_list4 (b : List Int) (i h : Int) (hb : b.length ≤ 1048576) (hi : 0 ≤ i) : ∃ r i' h', Ev (fun k => spec_l4List.f k b i h) (r, i', h') ∧ 0 ≤ i' ∧ r.length ≤ 8 := by
  unfold spec_l4List.f
  obtain ⟨n, i1, h1, e, hi1, hn⟩ := u_below b i h 5 hb hi
  obtain ⟨r', i', h', he, h0, hl⟩ := u_list4_l b hb n.toNat i1 h1 [] (by simp; omega) hi1
  refine ⟨r', i', h', ?_, h0, hl⟩
  simp only [e, Option.bind_some]
  rw [show ((n.toNat : Nat) : Int) = n from by omega] at he
  exact he
theorem u_dcut (l : List Int) (hb : l.length ≤ 1048576) : ∃ x y, Ev (fun k => spec_DrawCutSpans.f k l) (x, y) ∧ x.length ≤ 8 ∧ y.length ≤ 8 := by
  obtain ⟨h0, hn⟩ := u_new l hb
  obtain ⟨x, i1, h1, e1, hi1, hx⟩ := u_list4 l 0 h0 hb (by omega)
  obtain ⟨y, i2, h2, e2, hi2, hy⟩ := u_list4 l i1 h1 hb hi1
  refine ⟨x, y, ?_, hx, hy⟩
  unfold spec_DrawCutSpans.f spec_DrawMeetSpans.f
  exact Ev.bind (Ev.bind hn (Ev.bind e1 (Ev.bind e2 (Ev.now _)))) (Ev.now _)
theorem u_dshort (l : List Int) (hb : l.length ≤ 1048576) : ∃ x a b, Ev (fun k => spec_DrawShortenSpans.f k l) (x, a, b) ∧ x.length ≤ 8 ∧ (-9223372036854775808 ≤ a ∧ a ≤ 9223372036854775807) ∧ (-9223372036854775808 ≤ b ∧ b ≤ 9223372036854775807) := by
  obtain ⟨h0, hn⟩ := u_new l hb
  obtain ⟨x, i1, h1, e1, hi1, hx⟩ := u_list4 l 0 h0 hb (by omega)
  obtain ⟨a, i2, h2, e2, hi2, ha⟩ := u_below l i1 h1 4 hb hi1
  obtain ⟨c, i3, h3, e3, hi3, hc⟩ := u_once l i2 h2 8 hb hi2
  cases c with
  | true =>
    obtain ⟨r, i4, h4, e4, hi4, hr⟩ := u_raw4 l i3 h3 hb hi3
    obtain ⟨b, i5, h5, e5, hi5, hb5⟩ := u_below l i4 h4 3 hb hi4
    refine ⟨x, r, b, ?_, hx, hr, by omega, by omega⟩
    unfold spec_DrawShortenSpans.f
    refine Ev.bind hn (Ev.bind e1 ?_)
    simp only [e2, e3, e4, e5, Option.bind_some]
    exact u_ev_pos (by trivial) (Ev.now _)
  | false =>
    obtain ⟨b, i5, h5, e5, hi5, hb5⟩ := u_below l i3 h3 3 hb hi3
    refine ⟨x, a, b, ?_, hx, ⟨by omega, by omega⟩, by omega, by omega⟩
    unfold spec_DrawShortenSpans.f
    refine Ev.bind hn (Ev.bind e1 ?_)
    simp only [e2, e3, e5, Option.bind_some]
    exact u_ev_neg (by simp) (Ev.now _)
theorem u_tick_runs (p : Int → Bool) (hp : ∀ t, p t = true → 0 ≤ t ∧ t < 1000) : Ev (fun k => impl_TicksOf.f k (u_runs p 1000)) (u_cnt p 1000) := by
  have h := u_itick (u_runs p 1000) (by have := u_runs_len p 1000; omega)
  rw [u_sum_runs] at h
  have e : u_in (u_runs p 1000) = p := funext (u_in_all p hp)
  rw [e] at h
  exact h
theorem u_last_part (a x : List S43) (p q : List S43) (l s : List S43) (hcm : u_cnt (u_in a) 1000 = u_cnt (u_p21 a x) 1000 + u_cnt (u_p15 a x) 1000)
    (hm : Ev (fun k => impl_TicksOf.f k p) (u_cnt (u_p21 a x) 1000)) (hc : Ev (fun k => impl_TicksOf.f k q) (u_cnt (u_p15 a x) 1000)) (ha : Ev (fun k => impl_TicksOf.f k a) (u_cnt (u_in a) 1000))
    (hs : Ev (fun k => impl_TicksOf.f k s) (u_cnt (u_in s) 1000)) (hl : Ev (fun k => impl_TicksOf.f k l) (u_cnt (u_in l) 1000)) (hle : u_cnt (u_in s) 1000 ≤ u_cnt (u_in l) 1000)
    (j : List S43) (hj : u_gap j) (hjl : j.length ≤ 1000) (d : Nat) : ∀ i : Nat, 1 ≤ i → i + d = j.length ∨ (d = 0 ∧ j.length ≤ i) → i ≤ 1001 → Ev (fun k => laws_FnSpans.l1 k a j p q l s i) true := by
  induction d with
  | zero =>
    intro i hi hd _
    refine u_evsucc ?_
    simp only [laws_FnSpans.l1]
    have b1 := u_cnt_bd (u_p21 a x) 1000
    have b2 := u_cnt_bd (u_p15 a x) 1000
    refine u_ev_neg (by omega) (Ev.bind hm (Ev.bind hc (Ev.bind ha ?_)))
    rw [u_w64 (by omega) (by omega)]
    refine u_ev_pos (by omega) (Ev.bind hs (Ev.bind hl ?_))
    rw [decide_eq_true hle]
    exact Ev.now true
  | succ d ih =>
    intro i hi hd hb
    have hlt : i < j.length := by omega
    have hg := hj (i - 1) (by omega)
    rw [show i - 1 + 1 = i from by omega] at hg
    refine u_evsucc ?_
    simp only [laws_FnSpans.l1]
    rw [u_w64 (x := (i : Int) - 1) (by omega) (by omega), u_w64 (x := (i : Int) + 1) (by omega) (by omega), show (i : Int) - 1 = ((i - 1 : Nat) : Int) from by omega]
    refine u_ev_pos (by omega) (u_ev_pos (by omega) (u_ev_pos (by omega) (u_ev_pos (by omega) (u_ev_neg (by omega) ?_))))
    exact ih (i + 1) (by omega) (by omega) (by omega)
theorem u_loop_part (a b j p q l s : List S43) (ha : a.length ≤ 1000) (hb : b.length ≤ 1000) (hj : j.length ≤ 1000) (hp : p.length ≤ 1000) (hq : q.length ≤ 1000) (hl : l.length ≤ 1000) (hs : s.length ≤ 1000)
    (ej : ∀ t, u_in j t = u_in a t) (ep : ∀ t, u_in p t = (u_in a t && u_in b t)) (eq : ∀ t, u_in q t = (u_in a t && !u_in b t)) (es : ∀ t, u_in s t = true → u_in l t = true)
    (hend : Ev (fun k => laws_FnSpans.l1 k a j p q l s 1) true) (d : Nat) : ∀ t : Int, -1 ≤ t → t + d = 61 → Ev (fun k => laws_FnSpans.l0 k a b j p q l s t) true := by
  induction d with
  | zero =>
    intro t h0 h1
    refine u_evsucc ?_
    simp only [laws_FnSpans.l0]
    exact u_ev_neg (by omega) hend
  | succ d ih =>
    intro t h0 h1
    have hn := ih (t + 1) (by omega) (by omega)
    have i1 := u_iinspans a t (by omega)
    have i2 := u_iinspans b t (by omega)
    have i3 := u_iinspans j t (by omega)
    have i4 := u_iinspans p t (by omega)
    have i5 := u_iinspans q t (by omega)
    have i6 := u_iinspans s t (by omega)
    have i7 := u_iinspans l t (by omega)
    rw [ej] at i3
    rw [ep] at i4
    rw [eq] at i5
    have e6 := es t
    refine u_evsucc ?_
    simp only [laws_FnSpans.l0]
    rw [u_w64 (x := t + 1) (by omega) (by omega)]
    generalize u_in a t = va at *
    generalize u_in b t = vb at *
    generalize u_in s t = vs at *
    generalize u_in l t = vl at *
    refine u_ev_pos (by omega) (Ev.bind i1 (Ev.bind i2 (Ev.bind i3 (u_ev_neg (by simp) (Ev.bind i4 ?_)))))
    have hshort : Ev (fun k => (impl_InSpans.f k s t).bind fun t332 => (if t332 = true then ((impl_InSpans.f k l t).bind fun t333 => (if t333 = true then (laws_FnSpans.l0 k a b j p q l s (t + 1)) else (some false))) else (laws_FnSpans.l0 k a b j p q l s (t + 1)))) true := by
      refine Ev.bind i6 ?_
      cases vs with
      | true => exact u_ev_pos rfl (Ev.bind i7 (u_ev_pos (e6 rfl) hn))
      | false => exact u_ev_neg (by simp) hn
    cases va with
    | true => exact u_ev_pos rfl (u_ev_neg (by cases vb <;> simp) (Ev.bind i5 (u_ev_neg (by cases vb <;> simp) hshort)))
    | false => exact u_ev_neg (by simp) (u_ev_neg (by simp) (Ev.bind i5 (u_ev_neg (by simp) hshort)))

theorem FnSpans : laws_FnSpans.Pure := by
  intro l _ _ _
  refine Ev.rounds ?_
  unfold laws_FnSpans.f
  refine u_big (Ev.now true) fun hb => ?_
  obtain ⟨a, b, hab, hla, hlb⟩ := u_dcut l hb
  obtain ⟨x, f, g, hx, hlx, hf, hg⟩ := u_dshort l hb
  have hij := u_ijoin a (by omega)
  have hsj := u_sjoin a (by omega)
  have him := u_imeet a b (by omega) (by omega)
  have hic := u_icut a b (by omega) (by omega)
  have his := u_ishort x f g (by omega) hf.1 hf.2 hg.1 hg.2
  have bdm : ∀ t, u_p21 a b t = true → 0 ≤ t ∧ t < 1000 := fun t h => u_in_bd a t (by unfold u_p21 at h; simp at h; exact h.1)
  have bdc : ∀ t, u_p15 a b t = true → 0 ≤ t ∧ t < 1000 := fun t h => u_in_bd a t (by unfold u_p15 at h; simp at h; exact h.1)
  have ej := u_in_all (u_in a) (u_in_bd a)
  have em := u_in_all (u_p21 a b) bdm
  have ec := u_in_all (u_p15 a b) bdc
  have es := u_short_in x f g
  have tm := u_tick_runs (u_p21 a b) bdm
  have tc := u_tick_runs (u_p15 a b) bdc
  have hls := u_short_len x f g
  have ta := u_itick a (by omega)
  rw [u_sum_runs] at ta
  have tx := u_itick x (by omega)
  rw [u_sum_runs] at tx
  have ts := u_itick (u_short x f g) (by omega)
  rw [u_sum_runs] at ts
  have hle := u_cnt_le (u_in (u_short x f g)) (u_in x) es 1000
  have hsum := u_cnt_two (u_in a) (u_p21 a b) (u_p15 a b) (fun t => by unfold u_p21 u_p15; cases u_in a t <;> cases u_in b t <;> rfl) (fun t => by unfold u_p21 u_p15; cases u_in a t <;> cases u_in b t <;> simp) 1000
  have hgap := u_gap_runs (u_in a) 1000
  have lj := u_runs_len (u_in a) 1000
  have lm := u_runs_len (u_p21 a b) 1000
  have lc := u_runs_len (u_p15 a b) 1000
  generalize u_runs (u_in a) 1000 = j at *
  generalize u_runs (u_p21 a b) 1000 = p at *
  generalize u_runs (u_p15 a b) 1000 = q at *
  generalize u_short x f g = s at *
  refine Ev.bind hab (Ev.bind hij (Ev.bind hsj (u_ev_pos rfl (Ev.bind him (Ev.bind hic (Ev.bind hx (Ev.bind his ?_)))))))
  have hend : Ev (fun k => laws_FnSpans.l1 k a j p q x s 1) true := u_last_part a b p q x s hsum.symm tm tc ta ts tx hle j hgap lj (j.length - 1) 1 (by omega) (by omega) (by omega)
  exact u_loop_part a b j p q x s (by omega) (by omega) lj lm lc (by omega) hls ej em ec es hend 62 (-1) (by omega) (by omega)

end Go.Proofs.Ytolepbdmbedloae.Pure
