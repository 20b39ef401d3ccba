/- FnExactInSpans returns true for every list of spans and tick; no condition. -/
import Derived.Test.YtolepbdmbedloacPFnExactInSpansx2
namespace Go.Proofs.Ytolepbdmbedloac.Pure
open Go.RowKit Go.Proofs.Ytolepbdmbedloac.PFnExactInSpans Go.Proofs.YtolepbdmbedloacW.PrintWords Go.Proofs.YtolepbdmbedloacW.PrintLast
set_option linter.unusedVariables false
set_option linter.unusedSimpArgs false

theorem u_evloop {ρ : Type} (g : Nat → Nat → Option ρ) (n : Nat) (r : ρ) (hs : ∀ i, i < n → ∃ K, ∀ k, K ≤ k → g (k + 1) i = g k (i + 1)) (he : ∃ K, ∀ k, K ≤ k → g (k + 1) n = some r) : Ev (fun k => g k 0) r := by
  have h : ∀ d i, i + d = n → Ev (fun k => g k i) r := by
    intro d
    induction d with
    | zero =>
      intro i hi
      obtain ⟨K, hK⟩ := he
      refine ⟨K + 1, fun k hk => ?_⟩
      obtain ⟨k, rfl⟩ : ∃ m, k = m + 1 := ⟨k - 1, by omega⟩
      obtain rfl : i = n := by omega
      exact hK k (by omega)
    | succ d ih =>
      intro i hi
      obtain ⟨K, hK⟩ := hs i (by omega)
      obtain ⟨L, hL⟩ := ih (i + 1) (by omega)
      refine ⟨K + L + 1, fun k hk => ?_⟩
      obtain ⟨k, rfl⟩ : ∃ m, k = m + 1 := ⟨k - 1, by omega⟩
      show g (k + 1) i = some r
      rw [hK k (by omega)]
      exact hL k (by omega)
  exact h n 0 (by omega)
theorem u_ev_ite {α : Type} {c : Prop} [Decidable c] {f g : Nat → Option α} {r : α} (h1 : c → Ev f r) (h2 : ¬ c → Ev g r) : Ev (fun k => if c then f k else g k) r := by
  by_cases h : c
  · simpa [h] using h1 h
  · simpa [h] using h2 h
theorem u_w64 {x : Int} (h1 : -9223372036854775808 ≤ x) (h2 : x ≤ 9223372036854775807) : wrap64 x = x := by unfold wrap64; omega
theorem u_rd (xs : List Int) (i : Nat) : rd xs (i : Int) = xs.getD i 0 := by simp [rd]
theorem u_set_fill {α : Type} (xs : List α) (z d : α) (i : Nat) (h : i < xs.length) : (xs.take i ++ List.replicate (xs.length - i) z).set i (xs.getD i d) = xs.take (i + 1) ++ List.replicate (xs.length - (i + 1)) z := by
  apply List.ext_getElem?
  intro j
  have hl : (xs.take i).length = i := by simp; omega
  rcases Nat.lt_trichotomy j i with h1 | h1 | h1
  · rw [List.getElem?_set_ne (by omega), List.getElem?_append_left (by omega), List.getElem?_append_left (by simp; omega)]
    simp [List.getElem?_take, h1, show j < i + 1 by omega]
  · subst h1
    rw [List.getElem?_set_self (by simp; omega), List.getElem?_append_left (by simp; omega)]
    simp [List.getElem?_take, List.getD_eq_getElem?_getD, List.getElem?_eq_getElem h]
  · rw [List.getElem?_set_ne (by omega), List.getElem?_append_right (by omega), List.getElem?_append_right (by simp; omega)]
    simp only [List.getElem?_replicate, hl, List.length_take]
    have e : min (i + 1) xs.length = i + 1 := by omega
    rw [e]
    by_cases h2 : j < xs.length
    · rw [if_pos (by omega), if_pos (by omega)]
    · rw [if_neg (by omega), if_neg (by omega)]
/-- What mark writes: the counters from k on. -/
def u_marks (f : Int → Int) (k : Int) (n : Nat) : List Int := (List.range n).map fun i : Nat => f (k + (i : Int))
theorem u_marks_len (f : Int → Int) (k : Int) (n : Nat) : (u_marks f k n).length = n := by simp [u_marks]
theorem u_marks_get (f : Int → Int) (k : Int) (n i : Nat) (h : i < n) : (u_marks f k n).getD i 0 = f (k + i) := by simp [u_marks, List.getD_eq_getElem?_getD, List.getElem?_map, List.getElem?_range h]
theorem u_marks_set (f : Int → Int) (k : Int) (xs : List Int) (i : Nat) (h : i < xs.length) : (u_marks f k i ++ xs.drop i).set i (f (k + i)) = u_marks f k (i + 1) ++ xs.drop (i + 1) := by
  have e : u_marks f k (i + 1) = u_marks f k i ++ [f (k + i)] := by simp [u_marks, List.range_succ]
  rw [e, List.set_append_right _ _ (by rw [u_marks_len]; omega), u_marks_len, Nat.sub_self, List.append_assoc]
  congr 1
  rw [List.drop_eq_getElem_cons h]
  rfl
theorem u_take_succ {α : Type} (xs : List α) (d : α) (i : Nat) (h : i < xs.length) : xs.take (i + 1) = xs.take i ++ [xs.getD i d] := by
  rw [List.take_succ_eq_append_getElem h]; simp [List.getD_eq_getElem?_getD, List.getElem?_eq_getElem h]
def u_conv (l : List S75) : List S73 := l.map fun x => ⟨x.f0, x.f1⟩
theorem u_conv_len (l : List S75) : (u_conv l).length = l.length := by simp [u_conv]
theorem u_conv_get (l : List S75) (i : Nat) (h : i < l.length) : (u_conv l).getD i z73 = ⟨(rd_T75 l i).f0, (rd_T75 l i).f1⟩ := by
  unfold u_conv rd_T75
  simp [List.getD_eq_getElem?_getD, List.getElem?_map, List.getElem?_eq_getElem h]
theorem u_toSpanS (l : List S75) (hx : l.length ≤ 1048576) : Ev (fun k => laws_toSpanS.f k l) (u_conv l) := by
  unfold laws_toSpanS.f
  simp only [show (0 : Int) ≤ (l.length : Int) by omega, if_true, Int.toNat_natCast, show l.length ≤ 17592186044416 by omega]
  have hl := u_conv_len l
  have h := u_evloop (fun k i => laws_toSpanS.l0 k l ((u_conv l).take i ++ List.replicate ((u_conv l).length - i) z73) (i : Int)) l.length (u_conv l) (fun i hi => ⟨0, fun k _ => ?_⟩) ⟨0, fun k _ => ?_⟩
  · simpa [hl] using h
  · simp only [laws_toSpanS.l0, laws_toSpan.f, Option.bind_some]
    rw [if_pos (by omega), if_pos (by omega), if_pos (by simp; omega), u_w64 (by omega) (by omega), Int.toNat_natCast, ← u_conv_get l i hi, u_set_fill (u_conv l) z73 z73 i (by omega)]
    simp
  · simp only [laws_toSpanS.l0]
    rw [if_neg (by omega), List.take_of_length_le (by omega)]; simp [hl]
theorem u_evsucc {α : Type} {g : Nat → Option α} {r : α} (h : Ev (fun k => g (k + 1)) r) : Ev g r := by
  obtain ⟨K, hK⟩ := h
  refine ⟨K + 1, fun k hk => ?_⟩
  obtain ⟨k, rfl⟩ : ∃ m, k = m + 1 := ⟨k - 1, by omega⟩
  exact hK k (by omega)
theorem u_ev_pos {α : Type} {c : Prop} [Decidable c] {f g : Nat → Option α} {r : α} (hc : c) (h : Ev f r) : Ev (fun k => if c then f k else g k) r := by simpa [hc] using h
theorem u_ev_neg {α : Type} {c : Prop} [Decidable c] {f g : Nat → Option α} {r : α} (hc : ¬ c) (h : Ev g r) : Ev (fun k => if c then f k else g k) r := by simpa [hc] using h
theorem u_eqSpanS (x : List S73) (hx : x.length ≤ 1152921504606846976) : Ev (fun k => laws_eqSpanS.f k x x) true := by
  unfold laws_eqSpanS.f
  simp only [if_true]
  refine u_evloop (fun k i => laws_eqSpanS.l0 k x x (i : Int)) x.length true (fun i hi => ⟨0, fun k _ => ?_⟩) ⟨0, fun k _ => ?_⟩
  · simp only [laws_eqSpanS.l0, laws_eqSpan.f, if_true, Option.bind_some]
    rw [if_pos (by omega), if_pos (by omega), if_pos (by omega), u_w64 (by omega) (by omega)]; simp
  · simp only [laws_eqSpanS.l0]
    rw [if_neg (by omega)]
/-- A tick lies in a valid span. -/
def u_sp (a b t : Int) : Bool := decide ((0 ≤ a ∧ b ≤ 1000 ∧ a < b) ∧ a ≤ t ∧ t < b)
theorem u_sp_iff (a b t : Int) : u_sp a b t = true ↔ (0 ≤ a ∧ b ≤ 1000 ∧ a < b) ∧ a ≤ t ∧ t < b := by unfold u_sp; exact decide_eq_true_iff
def u_in (l : List S73) (t : Int) : Bool := l.any fun s => u_sp s.f0 s.f1 t
theorem u_drop_any (l : List S73) (p : S73 → Bool) (i : Nat) (h : i < l.length) : (l.drop i).any p = (p (rd_T73 l i) || (l.drop (i + 1)).any p) := by
  rw [List.drop_eq_getElem_cons h, List.any_cons]
  have e : rd_T73 l i = l[i] := by simp [rd_T73, List.getD_eq_getElem?_getD, List.getElem?_eq_getElem h]
  rw [e]
theorem u_sinspan (a b t : Int) : spec_InSpan.f a b t = some (u_sp a b t) := by
  unfold spec_InSpan.f spec_IsSpan.f u_sp
  by_cases h1 : 0 ≤ a <;> by_cases h2 : b ≤ 1000 <;> by_cases h3 : a < b <;> by_cases h4 : a ≤ t <;> simp [h1, h2, h3, h4]
theorem u_sinspans (l : List S73) (t : Int) (hx : l.length ≤ 1152921504606846976) : Ev (fun k => spec_InSpans.f k l t) (u_in l t) := by
  unfold spec_InSpans.f u_in
  have h : ∀ (d i : Nat), i + d = l.length → Ev (fun k => spec_InSpans.l0 k l t i) ((l.drop i).any fun s => u_sp s.f0 s.f1 t) := by
    intro d
    induction d with
    | zero =>
      intro i hi
      rw [List.drop_of_length_le (by omega)]
      refine u_evsucc ?_
      simp only [spec_InSpans.l0]
      exact u_ev_neg (by omega) (Ev.now _)
    | succ d ih =>
      intro i hi
      rw [u_drop_any l _ i (by omega)]
      refine u_evsucc ?_
      simp only [spec_InSpans.l0, u_sinspan, Option.bind_some]
      refine u_ev_pos (by omega) (u_ev_pos (by omega) ?_)
      rw [u_w64 (by omega) (by omega)]
      cases hp : u_sp (rd_T73 l i).f0 (rd_T73 l i).f1 t with
      | true => exact u_ev_pos (by trivial) (Ev.now _)
      | false => exact u_ev_neg (by simp) (by simpa using ih (i + 1) (by omega))
  simpa using h l.length 0 (by omega)
theorem u_iinspan (a b t : Int) : impl_InSpan.f a b t = some (u_sp a b t) := by
  unfold impl_InSpan.f impl_IsSpan.f u_sp
  by_cases h1 : 0 ≤ a <;> by_cases h2 : b ≤ 1000 <;> by_cases h3 : a < b <;> by_cases h4 : a ≤ t <;> simp [h1, h2, h3, h4]
theorem u_iinspans (l : List S73) (t : Int) (hx : l.length ≤ 1152921504606846976) : Ev (fun k => impl_InSpans.f k l t) (u_in l t) := by
  unfold impl_InSpans.f u_in
  have h : ∀ (d i : Nat), i + d = l.length → Ev (fun k => impl_InSpans.l0 k t l l.length i) ((l.drop i).any fun s => u_sp s.f0 s.f1 t) := by
    intro d
    induction d with
    | zero =>
      intro i hi
      rw [List.drop_of_length_le (by omega)]
      refine u_evsucc ?_
      simp only [impl_InSpans.l0]
      exact u_ev_neg (by omega) (Ev.now _)
    | succ d ih =>
      intro i hi
      rw [u_drop_any l _ i (by omega)]
      refine u_evsucc ?_
      simp only [impl_InSpans.l0, u_iinspan, Option.bind_some]
      refine u_ev_pos (by omega) (u_ev_pos (by omega) (u_ev_pos (by omega) ?_))
      rw [u_w64 (by omega) (by omega)]
      cases hp : u_sp (rd_T73 l i).f0 (rd_T73 l i).f1 t with
      | true => exact u_ev_pos (by trivial) (Ev.now _)
      | false => exact u_ev_neg (by simp) (by simpa using ih (i + 1) (by omega))
  simpa using h l.length 0 (by omega)

theorem FnExactInSpans : ∀ (l0 : List (S75)) (a1 : Int), l0.length ≤ 9223372036854775807 → (Lit.int .i64 a1).wf = true → ∃ k, laws_FnExactInSpans.f k l0 a1 = some true := by
  intro l t hx _
  refine Ev.rounds ?_
  unfold laws_FnExactInSpans.f laws_szSpanS.f
  rw [u_w64 (x := 1048576 - (l.length : Int)) (by omega) (by omega)]
  by_cases hl : 1048576 - (l.length : Int) < 0
  · simp only [hl, if_true, Option.bind_some]
    exact u_ev_pos (by omega) (Ev.now true)
  · simp only [hl, if_false, Option.bind_some]
    have hc := u_conv_len l
    have h1 := u_toSpanS l (by omega)
    refine Ev.bind h1 (Ev.bind (u_sinspans _ t (by omega)) (Ev.bind h1 (Ev.bind (u_iinspans _ t (by omega)) (u_ev_neg (by simp) (Ev.bind h1 (Ev.bind (u_eqSpanS _ (by omega)) (u_ev_pos (by trivial) (Ev.now true))))))))

end Go.Proofs.Ytolepbdmbedloac.Pure
