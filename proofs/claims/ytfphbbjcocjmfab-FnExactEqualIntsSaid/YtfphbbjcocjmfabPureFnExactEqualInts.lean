/- FnExactEqualInts returns true for all slices of whole numbers; no condition. -/
import Derived.Test.YtfphbbjcocjmfabWSized
import Derived.Test.YtfphbbjcocjmfabPFnExactEqualIntsx1
namespace Go.Proofs.Ytfphbbjcocjmfab.PrintWords
/-- The name by which the printed row calls it. -/
theorem sized_ints {H : Type} {enc : TypeId × Value → H} {P : Program} {W : World} {base : Nat} {spare : Nat → Bool} {held : Bool} {t e : TypeId} {k : IntKind} {a : Option Addr} {len cap : Nat} {d : DataW H} {ps : List MemPlace} {ts : List TypeId} {ds : List (DataW H)} {j : Nat}
    (hsz : (DataW.weightsEach P ts ds).all (· ≤ reachBytes) = true) (ht : ts[j]? = some t) (hd : ds[j]? = some d) (hu : P.underlying t = some (.slice e)) (he : P.underlying e = some (.int k)) (hc : P.cellsOf e = 1) {B : Nat} (hB : P.bytesOf e = B)
    (h : DataW.Trod enc P W base spare held t (.slice a len cap) d ps) : len * B ≤ 140737488351232 := Go.Proofs.YtfphbbjcocjmfabW.PrintWords.sized_ints hsz ht hd hu he hc hB h
end Go.Proofs.Ytfphbbjcocjmfab.PrintWords
namespace Go.Proofs.Ytfphbbjcocjmfab.Pure
open Go.RowKit Go.Proofs.Ytfphbbjcocjmfab.PFnExactEqualInts Go.Proofs.YtfphbbjcocjmfabW.PrintWords Go.Proofs.YtfphbbjcocjmfabW.PrintLast
set_option linter.unusedVariables false
set_option linter.unusedSimpArgs false

theorem u_evloop {ρ : Type} (g : Nat → Nat → Option ρ) (n : Nat) (r : ρ) (hs : ∀ i, i < n → ∃ K, ∀ k, K ≤ k → g (k + 1) i = g k (i + 1)) (he : ∃ K, ∀ k, K ≤ k → g (k + 1) n = some r) : Ev (fun k => g k 0) r := by
  have h : ∀ d i, i + d = n → Ev (fun k => g k i) r := by
    intro d
    induction d with
    | zero =>
      intro i hi
      obtain ⟨K, hK⟩ := he
      refine ⟨K + 1, fun k hk => ?_⟩
      obtain ⟨k, rfl⟩ : ∃ m, k = m + 1 := ⟨k - 1, by omega⟩
      obtain rfl : i = n := by omega
      exact hK k (by omega)
    | succ d ih =>
      intro i hi
      obtain ⟨K, hK⟩ := hs i (by omega)
      obtain ⟨L, hL⟩ := ih (i + 1) (by omega)
      refine ⟨K + L + 1, fun k hk => ?_⟩
      obtain ⟨k, rfl⟩ : ∃ m, k = m + 1 := ⟨k - 1, by omega⟩
      show g (k + 1) i = some r
      rw [hK k (by omega)]
      exact hL k (by omega)
  exact h n 0 (by omega)
theorem u_ev_ite {α : Type} {c : Prop} [Decidable c] {f g : Nat → Option α} {r : α} (h1 : c → Ev f r) (h2 : ¬ c → Ev g r) : Ev (fun k => if c then f k else g k) r := by
  by_cases h : c
  · simpa [h] using h1 h
  · simpa [h] using h2 h
theorem u_w64 {x : Int} (h1 : -9223372036854775808 ≤ x) (h2 : x ≤ 9223372036854775807) : wrap64 x = x := by unfold wrap64; omega
theorem u_rd (xs : List Int) (i : Nat) : rd xs (i : Int) = xs.getD i 0 := by simp [rd]
theorem u_set_fill {α : Type} (xs : List α) (z d : α) (i : Nat) (h : i < xs.length) : (xs.take i ++ List.replicate (xs.length - i) z).set i (xs.getD i d) = xs.take (i + 1) ++ List.replicate (xs.length - (i + 1)) z := by
  apply List.ext_getElem?
  intro j
  have hl : (xs.take i).length = i := by simp; omega
  rcases Nat.lt_trichotomy j i with h1 | h1 | h1
  · rw [List.getElem?_set_ne (by omega), List.getElem?_append_left (by omega), List.getElem?_append_left (by simp; omega)]
    simp [List.getElem?_take, h1, show j < i + 1 by omega]
  · subst h1
    rw [List.getElem?_set_self (by simp; omega), List.getElem?_append_left (by simp; omega)]
    simp [List.getElem?_take, List.getD_eq_getElem?_getD, List.getElem?_eq_getElem h]
  · rw [List.getElem?_set_ne (by omega), List.getElem?_append_right (by omega), List.getElem?_append_right (by simp; omega)]
    simp only [List.getElem?_replicate, hl, List.length_take]
    have e : min (i + 1) xs.length = i + 1 := by omega
    rw [e]
    by_cases h2 : j < xs.length
    · rw [if_pos (by omega), if_pos (by omega)]
    · rw [if_neg (by omega), if_neg (by omega)]
/-- What mark writes: the counters from k on. -/
def u_marks (f : Int → Int) (k : Int) (n : Nat) : List Int := (List.range n).map fun i : Nat => f (k + (i : Int))
theorem u_marks_len (f : Int → Int) (k : Int) (n : Nat) : (u_marks f k n).length = n := by simp [u_marks]
theorem u_marks_get (f : Int → Int) (k : Int) (n i : Nat) (h : i < n) : (u_marks f k n).getD i 0 = f (k + i) := by simp [u_marks, List.getD_eq_getElem?_getD, List.getElem?_map, List.getElem?_range h]
theorem u_marks_set (f : Int → Int) (k : Int) (xs : List Int) (i : Nat) (h : i < xs.length) : (u_marks f k i ++ xs.drop i).set i (f (k + i)) = u_marks f k (i + 1) ++ xs.drop (i + 1) := by
  have e : u_marks f k (i + 1) = u_marks f k i ++ [f (k + i)] := by simp [u_marks, List.range_succ]
  rw [e, List.set_append_right _ _ (by rw [u_marks_len]; omega), u_marks_len, Nat.sub_self, List.append_assoc]
  congr 1
  rw [List.drop_eq_getElem_cons h]
  rfl
theorem u_take_succ {α : Type} (xs : List α) (d : α) (i : Nat) (h : i < xs.length) : xs.take (i + 1) = xs.take i ++ [xs.getD i d] := by
  rw [List.take_succ_eq_append_getElem h]; simp [List.getD_eq_getElem?_getD, List.getElem?_eq_getElem h]
theorem u_toIntS (x : List Int) (hx : x.length ≤ 1048576) : Ev (fun k => laws_toIntS.f k x) x := by
  unfold laws_toIntS.f
  simp only [show (0 : Int) ≤ (x.length : Int) by omega, if_true, Int.toNat_natCast, show x.length ≤ 35184372088832 by omega]
  have h := u_evloop (fun k i => laws_toIntS.l0 k x (x.take i ++ List.replicate (x.length - i) 0) (i : Int)) x.length x (fun i hi => ⟨0, fun k _ => ?_⟩) ⟨0, fun k _ => ?_⟩
  · simpa using h
  · simp only [laws_toIntS.l0]
    rw [if_pos (by omega), if_pos (by omega), if_pos (by simp; omega), u_w64 (by omega) (by omega), u_rd, Int.toNat_natCast, u_set_fill x 0 0 i hi]
    simp
  · simp only [laws_toIntS.l0]
    rw [if_neg (by omega)]; simp
theorem u_eqIntS (x : List Int) (hx : x.length ≤ 1152921504606846976) : Ev (fun k => laws_eqIntS.f k x x) true := by
  unfold laws_eqIntS.f
  simp only [if_true]
  refine u_evloop (fun k i => laws_eqIntS.l0 k x x (i : Int)) x.length true (fun i hi => ⟨0, fun k _ => ?_⟩) ⟨0, fun k _ => ?_⟩
  · simp only [laws_eqIntS.l0]
    rw [if_pos (by omega), if_pos (by omega), if_pos (by omega), if_pos trivial, u_w64 (by omega) (by omega)]; simp
  · simp only [laws_eqIntS.l0]
    rw [if_neg (by omega)]
theorem u_first_diff (x y : List Int) (hl : x.length = y.length) : x = y ∨ ∃ n, n < x.length ∧ x.getD n 0 ≠ y.getD n 0 ∧ ∀ i, i < n → x.getD i 0 = y.getD i 0 := by
  by_cases hex : ∃ n, n < x.length ∧ x.getD n 0 ≠ y.getD n 0
  · right
    obtain ⟨d, hd⟩ := hex
    induction d using Nat.strongRecOn with
    | ind d ih =>
      by_cases h : ∃ m, m < d ∧ (m < x.length ∧ x.getD m 0 ≠ y.getD m 0)
      · obtain ⟨m, hm, hp⟩ := h; exact ih m hm hp
      · refine ⟨d, hd.1, hd.2, fun i hi => ?_⟩
        by_cases e : x.getD i 0 = y.getD i 0
        · exact e
        · exact absurd ⟨i, hi, by omega, e⟩ h
  · left
    apply List.ext_getElem hl
    intro i h1 h2
    by_cases e : x.getD i 0 = y.getD i 0
    · simpa [List.getD_eq_getElem?_getD, List.getElem?_eq_getElem h1, List.getElem?_eq_getElem h2] using e
    · exact absurd ⟨i, h1, e⟩ hex
theorem u_sEqualInts (x y : List Int) (hx : x.length ≤ 1048576) : Ev (fun k => spec_EqualInts.f k x y) (decide (x = y)) := by
  unfold spec_EqualInts.f
  refine u_ev_ite (fun hl => ?_) (fun hl => ?_)
  · rcases u_first_diff x y (by omega) with rfl | ⟨n, hn, hne, heq⟩
    · rw [decide_eq_true rfl]
      refine u_evloop (fun k i => spec_EqualInts.l0 k x x (i : Int)) x.length true (fun i hi => ⟨0, fun k _ => ?_⟩) ⟨0, fun k _ => ?_⟩
      · simp only [spec_EqualInts.l0]
        rw [if_pos (by omega), if_pos (by omega), if_pos (by omega), if_pos trivial, u_w64 (by omega) (by omega)]; simp
      · simp only [spec_EqualInts.l0]
        rw [if_neg (by omega)]
    · rw [decide_eq_false (fun e => hne (by rw [e]))]
      refine u_evloop (fun k i => spec_EqualInts.l0 k x y (i : Int)) n false (fun i hi => ⟨0, fun k _ => ?_⟩) ⟨0, fun k _ => ?_⟩
      · simp only [spec_EqualInts.l0]
        rw [if_pos (by omega), if_pos (by omega), if_pos (by omega), u_rd, u_rd, if_pos (heq i hi), u_w64 (by omega) (by omega)]; simp
      · simp only [spec_EqualInts.l0]
        rw [if_pos (by omega), if_pos (by omega), if_pos (by omega), u_rd, u_rd, if_neg hne]
  · rw [decide_eq_false (fun e => hl (by rw [e]))]
    exact Ev.now false
theorem u_iEqualInts (x y : List Int) (hx : x.length ≤ 1048576) : Ev (fun k => impl_EqualInts.f k x y) (decide (x = y)) := by
  unfold impl_EqualInts.f slices_Equal_int_int.f
  refine Ev.bind (a := decide (x = y)) ?_ (Ev.now _)
  refine u_ev_ite (fun hl => ?_) (fun hl => ?_)
  · rcases u_first_diff x y (by omega) with rfl | ⟨n, hn, hne, heq⟩
    · rw [decide_eq_true rfl]
      refine u_evloop (fun k i => slices_Equal_int_int.l0 k x x x.length (i : Int)) x.length true (fun i hi => ⟨0, fun k _ => ?_⟩) ⟨0, fun k _ => ?_⟩
      · simp only [slices_Equal_int_int.l0]
        rw [if_pos (by omega), if_pos (by omega), if_pos (by omega), if_pos (by omega), if_pos trivial, u_w64 (by omega) (by omega)]; simp
      · simp only [slices_Equal_int_int.l0]
        rw [if_neg (by omega)]
    · rw [decide_eq_false (fun e => hne (by rw [e]))]
      refine u_evloop (fun k i => slices_Equal_int_int.l0 k x y x.length (i : Int)) n false (fun i hi => ⟨0, fun k _ => ?_⟩) ⟨0, fun k _ => ?_⟩
      · simp only [slices_Equal_int_int.l0]
        rw [if_pos (by omega), if_pos (by omega), if_pos (by omega), if_pos (by omega), u_rd, u_rd, if_pos (heq i hi), u_w64 (by omega) (by omega)]; simp
      · simp only [slices_Equal_int_int.l0]
        rw [if_pos (by omega), if_pos (by omega), if_pos (by omega), if_pos (by omega), u_rd, u_rd, if_neg hne]
  · rw [decide_eq_false (fun e => hl (by rw [e]))]
    exact Ev.now false

theorem FnExactEqualInts : laws_FnExactEqualInts.Pure := by
  intro x y hx _ _ hy _ _
  refine Ev.rounds ?_
  unfold laws_FnExactEqualInts.f
  refine u_ev_ite (fun _ => Ev.now true) fun h1 => u_ev_ite (fun _ => Ev.now true) fun h2 => ?_
  have hx1 := u_toIntS x (by omega)
  have hy1 := u_toIntS y (by omega)
  refine Ev.bind hx1 (Ev.bind hy1 (Ev.bind (u_sEqualInts x y (by omega)) (Ev.bind hx1 (Ev.bind hy1 (Ev.bind (u_iEqualInts x y (by omega)) ?_)))))
  simp only [bne_self_eq_false, Bool.false_eq_true, if_false]
  refine Ev.bind hx1 (Ev.bind (u_eqIntS x (by omega)) ?_)
  simp only [if_true]
  refine Ev.bind hy1 (Ev.bind (u_eqIntS y (by omega)) ?_)
  simp only [if_true]
  exact Ev.now true

end Go.Proofs.Ytfphbbjcocjmfab.Pure
