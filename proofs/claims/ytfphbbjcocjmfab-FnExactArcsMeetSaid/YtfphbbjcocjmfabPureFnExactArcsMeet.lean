/- FnExactArcsMeet returns true for every two arcs; no condition. -/
import Derived.Test.YtfphbbjcocjmfabHFnExactArcsMeetx2
namespace Go.Proofs.Ytfphbbjcocjmfab.Pure
open Go.RowKit Go.Proofs.Ytfphbbjcocjmfab.PFnExactArcsMeet Go.Proofs.YtfphbbjcocjmfabW.PrintWords Go.Proofs.YtfphbbjcocjmfabW.PrintLast
set_option linter.unusedVariables false
set_option linter.unusedSimpArgs false

theorem u_w64 {x : Int} (h1 : -9223372036854775808 ≤ x) (h2 : x ≤ 9223372036854775807) : wrap64 x = x := by unfold wrap64; omega
theorem u_tmod_add (p : Int) {q : Int} (hq : 0 < q) : (p.tmod q + q).tmod q = p % q := by
  have h1 := Int.tmod_lt_of_pos p hq
  have h2 : -q < p.tmod q := by
    rcases Int.le_total 0 p with h | h
    · have := Int.tmod_nonneg q h; omega
    · have h3 : (-p).tmod q = -(p.tmod q) := Int.neg_tmod _ _
      have h4 := Int.tmod_lt_of_pos (-p) hq
      omega
  rw [Int.tmod_eq_emod_of_nonneg (by omega), Int.add_emod_right]
  have := Int.tmod_eq_emod (a := p) (b := q)
  rw [this]
  split
  · simp
  · rw [Int.sub_emod]
    have : ((q.natAbs : Int)) % q = 0 := by
      have : (q.natAbs : Int) = q := by omega
      rw [this]; exact Int.emod_self
    rw [this]; simp
theorem u_tmod_fix (p : Int) {q : Int} (hq : 0 < q) : (if p.tmod q < 0 then p.tmod q + q else p.tmod q) = p % q := by
  have h1 := Int.tmod_lt_of_pos p hq
  have h2 : -q < p.tmod q := by
    rcases Int.le_total 0 p with h | h
    · have := Int.tmod_nonneg q h; omega
    · have h3 : (-p).tmod q = -(p.tmod q) := Int.neg_tmod _ _
      have h4 := Int.tmod_lt_of_pos (-p) hq
      omega
  have h3 := u_tmod_add p hq
  split
  · rw [Int.tmod_eq_emod_of_nonneg (by omega)] at h3
    rw [← h3, Int.emod_eq_of_lt (by omega) (by omega)]
  · rw [Int.tmod_eq_emod_of_nonneg (by omega), Int.add_emod_right, Int.emod_eq_of_lt (by omega) (by omega)] at h3
    exact h3
theorem u_tmod_bd (p : Int) {q : Int} (hq : 0 < q) : -q < p.tmod q ∧ p.tmod q < q := by
  have h1 := Int.tmod_lt_of_pos p hq
  refine ⟨?_, h1⟩
  rcases Int.le_total 0 p with h | h
  · have := Int.tmod_nonneg q h; omega
  · have h3 : (-p).tmod q = -(p.tmod q) := Int.neg_tmod _ _
    have h4 := Int.tmod_lt_of_pos (-p) hq
    omega
theorem u_imod (a : Int) {q : Int} (h1 : 1 ≤ q) (h2 : q ≤ 1000000000000) : impl_Mod.f a q = some (a % q) := by
  unfold impl_Mod.f impl_InRange.f
  have hb := u_tmod_bd a (q := q) (by omega)
  simp only [h1, if_true, h2, decide_true, Option.bind_some, show ¬ q = 0 by omega, if_false]
  rw [u_w64 (by omega) (by omega), ← u_tmod_fix a (q := q) (by omega)]
  split <;> rfl
theorem u_imod0 (a : Int) {q : Int} (h : q < 1 ∨ 1000000000000 < q) : impl_Mod.f a q = some 0 := by
  unfold impl_Mod.f impl_InRange.f
  by_cases h1 : 1 ≤ q
  · simp [h1, show ¬ q ≤ 1000000000000 by omega]
  · simp [h1]
theorem u_iangle (a : Int) : impl_AngleOf.f a = some (a % 360) := by
  unfold impl_AngleOf.f; rw [u_imod a (by omega) (by omega)]; rfl
def u_arc (s w a : Int) : Bool := decide (0 ≤ w ∧ (a % 360 - s % 360) % 360 ≤ w)
theorem u_arc_iff (s w a : Int) : u_arc s w a = true ↔ 0 ≤ w ∧ (a % 360 - s % 360) % 360 ≤ w := by unfold u_arc; exact decide_eq_true_iff
theorem u_arc_not (s w a : Int) : u_arc s w a = false ↔ ¬ (0 ≤ w ∧ (a % 360 - s % 360) % 360 ≤ w) := by unfold u_arc; exact decide_eq_false_iff_not
theorem u_iinarc (s w a : Int) : impl_InArc.f s w a = some (u_arc s w a) := by
  unfold impl_InArc.f u_arc
  simp only [u_iangle, Option.bind_some]
  rw [u_w64 (by omega) (by omega)]
  congr 1
  exact decide_eq_decide.2 ⟨fun h => ⟨by omega, h⟩, fun h => h.2⟩
theorem u_evloop {ρ : Type} (g : Nat → Nat → Option ρ) (n : Nat) (r : ρ) (hs : ∀ i, i < n → ∃ K, ∀ k, K ≤ k → g (k + 1) i = g k (i + 1)) (he : ∃ K, ∀ k, K ≤ k → g (k + 1) n = some r) : Ev (fun k => g k 0) r := by
  have h : ∀ d i, i + d = n → Ev (fun k => g k i) r := by
    intro d
    induction d with
    | zero =>
      intro i hi
      obtain ⟨K, hK⟩ := he
      refine ⟨K + 1, fun k hk => ?_⟩
      obtain ⟨k, rfl⟩ : ∃ m, k = m + 1 := ⟨k - 1, by omega⟩
      obtain rfl : i = n := by omega
      exact hK k (by omega)
    | succ d ih =>
      intro i hi
      obtain ⟨K, hK⟩ := hs i (by omega)
      obtain ⟨L, hL⟩ := ih (i + 1) (by omega)
      refine ⟨K + L + 1, fun k hk => ?_⟩
      obtain ⟨k, rfl⟩ : ∃ m, k = m + 1 := ⟨k - 1, by omega⟩
      show g (k + 1) i = some r
      rw [hK k (by omega)]
      exact hL k (by omega)
  exact h n 0 (by omega)
theorem u_ev_ite {α : Type} {c : Prop} [Decidable c] {f g : Nat → Option α} {r : α} (h1 : c → Ev f r) (h2 : ¬ c → Ev g r) : Ev (fun k => if c then f k else g k) r := by
  by_cases h : c
  · simpa [h] using h1 h
  · simpa [h] using h2 h
theorem u_arcsmeet (s w t v : Int) : Ev (fun k => impl_ArcsMeet.f k s w t v) (decide (0 ≤ w ∧ 0 ≤ v) && (u_arc s w t || u_arc t v s)) := by
  by_cases hex : ∃ d : Nat, d < 360 ∧ u_arc s w d = true ∧ u_arc t v d = true
  · obtain ⟨d, hd⟩ := hex
    have hmin : ∃ n : Nat, (n < 360 ∧ u_arc s w n = true ∧ u_arc t v n = true) ∧ ∀ m : Nat, m < n → ¬ (m < 360 ∧ u_arc s w m = true ∧ u_arc t v m = true) := by
      induction d using Nat.strongRecOn with
      | ind d ih =>
        by_cases h : ∃ m : Nat, m < d ∧ (m < 360 ∧ u_arc s w m = true ∧ u_arc t v m = true)
        · obtain ⟨m, hm, hp⟩ := h; exact ih m hm hp
        · exact ⟨d, hd, fun m hm hp => h ⟨m, hm, hp⟩⟩
    obtain ⟨n, ⟨hn, ha, hb⟩, hl⟩ := hmin
    have hr : (decide (0 ≤ w ∧ 0 ≤ v) && (u_arc s w t || u_arc t v s)) = true := by
      simp only [Bool.and_eq_true, Bool.or_eq_true, decide_eq_true_iff]
      rw [u_arc_iff] at *
      rw [u_arc_iff] at *
      refine ⟨⟨ha.1, hb.1⟩, ?_⟩
      by_cases hc : ((n : Int) % 360 - s % 360) % 360 ≤ ((n : Int) % 360 - t % 360) % 360
      · right; omega
      · left; omega
    rw [hr]
    refine u_evloop (fun k i => impl_ArcsMeet.l0 k (i : Int) s w t v) n true (fun i hi => ⟨0, fun k _ => ?_⟩) ⟨0, fun k _ => ?_⟩
    · have hni := hl i hi
      simp only [impl_ArcsMeet.l0, u_iinarc, Option.bind_some]
      rw [if_pos (by omega), u_w64 (by omega) (by omega)]
      cases h1 : u_arc s w i with
      | false => simp
      | true =>
        cases h2 : u_arc t v i with
        | false => simp
        | true => exact absurd ⟨by omega, h1, h2⟩ hni
    · simp only [impl_ArcsMeet.l0, u_iinarc, Option.bind_some]
      rw [if_pos (by omega), if_pos ha, if_pos hb]
  · have hr : (decide (0 ≤ w ∧ 0 ≤ v) && (u_arc s w t || u_arc t v s)) = false := by
      rw [← Bool.not_eq_true]
      simp only [Bool.and_eq_true, Bool.or_eq_true, decide_eq_true_iff]
      rintro ⟨⟨h1, h2⟩, h | h⟩
      · exact hex ⟨(t % 360).toNat, by omega, by rw [u_arc_iff] at *; omega, by rw [u_arc_iff] at *; omega⟩
      · exact hex ⟨(s % 360).toNat, by omega, by rw [u_arc_iff] at *; omega, by rw [u_arc_iff] at *; omega⟩
    rw [hr]
    refine u_evloop (fun k i => impl_ArcsMeet.l0 k (i : Int) s w t v) 360 false (fun i hi => ⟨0, fun k _ => ?_⟩) ⟨0, fun k _ => ?_⟩
    · simp only [impl_ArcsMeet.l0, u_iinarc, Option.bind_some]
      rw [if_pos (by omega), u_w64 (by omega) (by omega)]
      cases h1 : u_arc s w i with
      | false => simp
      | true =>
        cases h2 : u_arc t v i with
        | false => simp
        | true => exact absurd ⟨i, by omega, h1, h2⟩ hex
    · simp only [impl_ArcsMeet.l0]
      rw [if_neg (by omega)]
theorem u_smod (a : Int) {q : Int} (h1 : 1 ≤ q) (h2 : q ≤ 1000000000000) : spec_Mod.f a q = some (a % q) := by
  unfold spec_Mod.f spec_l1In.f
  have hb := u_tmod_bd a (q := q) (by omega)
  simp only [ge_iff_le, h1, if_true, h2, decide_true, Option.bind_some, show ¬ q = 0 by omega, if_false]
  rw [u_w64 (by omega) (by omega), u_tmod_add a (by omega)]
theorem u_smod0 (a : Int) {q : Int} (h : q < 1 ∨ 1000000000000 < q) : spec_Mod.f a q = some 0 := by
  unfold spec_Mod.f spec_l1In.f
  by_cases h1 : 1 ≤ q
  · simp [h1, show ¬ q ≤ 1000000000000 by omega]
  · simp [h1]
theorem u_sangle (a : Int) : spec_AngleOf.f a = some (a % 360) := by
  unfold spec_AngleOf.f; rw [u_smod a (by omega) (by omega)]; rfl
theorem u_sinarc (s w a : Int) : spec_InArc.f s w a = some (u_arc s w a) := by
  unfold spec_InArc.f u_arc
  simp only [u_sangle, Option.bind_some]
  rw [u_w64 (by omega) (by omega)]
  by_cases h : 0 ≤ w
  · rw [if_pos h]; simp [h]
  · rw [if_neg h]; simp [h]
theorem u_sarcsmeet (s w t v : Int) : spec_ArcsMeet.f s w t v = some (decide (0 ≤ w ∧ 0 ≤ v) && (u_arc s w t || u_arc t v s)) := by
  unfold spec_ArcsMeet.f
  simp only [u_sinarc, Option.bind_some]
  by_cases h1 : 0 ≤ w <;> by_cases h2 : 0 ≤ v <;> simp [h1, h2]
  cases u_arc s w t <;> simp

theorem FnExactArcsMeet : ∀ (a0_0 : Int) (a0_1 : Int) (a1_0 : Int) (a1_1 : Int), (Lit.int .i64 a0_0).wf = true → (Lit.int .i64 a0_1).wf = true → (Lit.int .i64 a1_0).wf = true → (Lit.int .i64 a1_1).wf = true → ∃ k, laws_FnExactArcsMeet.f k a0_0 a0_1 a1_0 a1_1 = some true := by
  intro s w t v _ _ _ _
  refine Ev.rounds ?_
  unfold laws_FnExactArcsMeet.f laws_toArc.f
  simp only [Option.bind_some, u_sarcsmeet]
  refine Ev.bind (u_arcsmeet s w t v) ?_
  simp only [bne_self_eq_false, Bool.false_eq_true, if_false]
  exact Ev.now true

end Go.Proofs.Ytfphbbjcocjmfab.Pure
