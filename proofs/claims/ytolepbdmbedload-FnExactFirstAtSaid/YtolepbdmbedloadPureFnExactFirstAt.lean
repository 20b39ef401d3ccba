/- FnExactFirstAt returns true for every satellite, arc and ticks; no condition. -/
import Derived.Test.YtolepbdmbedloadHFnExactFirstAtx3
namespace Go.Proofs.Ytolepbdmbedload.Pure
open Go.RowKit Go.Proofs.Ytolepbdmbedload.PFnExactFirstAt Go.Proofs.YtolepbdmbedloadW.PrintWords Go.Proofs.YtolepbdmbedloadW.PrintLast
set_option linter.unusedVariables false
set_option linter.unusedSimpArgs false

def u_speed (v : Int) : Int := if -60 ≤ v ∧ v ≤ 60 then v else 0
theorem u_speed_bd (v : Int) : -60 ≤ u_speed v ∧ u_speed v ≤ 60 := by unfold u_speed; split <;> omega
theorem u_mul_bd (v n : Int) (h1 : -60 ≤ v) (h2 : v ≤ 60) (h3 : 0 ≤ n) : -60 * n ≤ v * n ∧ v * n ≤ 60 * n := ⟨Int.mul_le_mul_of_nonneg_right h1 h3, Int.mul_le_mul_of_nonneg_right h2 h3⟩
def u_place (p v t : Int) : Int := (p % 360 + u_speed v * (if 0 ≤ t ∧ t ≤ 1000 then t else 0)) % 360
theorem u_place_bd (p v t : Int) : 0 ≤ u_place p v t ∧ u_place p v t < 360 := by unfold u_place; omega
def u_arc (s w a : Int) : Bool := decide (0 ≤ w ∧ (a % 360 - s % 360) % 360 ≤ w)
theorem u_arc_iff (s w a : Int) : u_arc s w a = true ↔ 0 ≤ w ∧ (a % 360 - s % 360) % 360 ≤ w := by unfold u_arc; exact decide_eq_true_iff
theorem u_arc_not (s w a : Int) : u_arc s w a = false ↔ ¬ (0 ≤ w ∧ (a % 360 - s % 360) % 360 ≤ w) := by unfold u_arc; exact decide_eq_false_iff_not
/-- The first tick from t on, below 'tt' and at most 1000, at which p holds; or -1. -/
def u_first (p : Int → Bool) (tt : Int) : Nat → Int → Int
  | 0, _ => -1
  | d + 1, t => if t < tt ∧ t ≤ 1000 then (if p t = true then t else u_first p tt d (t + 1)) else -1
def u_firstAt (ph v s w fr tt : Int) : Int := u_first (fun t => u_arc s w (u_place ph v t)) tt (1001 - (if fr ≤ 0 then 0 else fr)).toNat (if fr ≤ 0 then 0 else fr)
theorem u_sspeed (v : Int) : spec_l6Speed.f v = some (u_speed v) := by
  unfold spec_l6Speed.f spec_l1In.f u_speed
  by_cases h1 : -60 ≤ v <;> by_cases h2 : v ≤ 60 <;> simp [h1, h2]
theorem u_w64 {x : Int} (h1 : -9223372036854775808 ≤ x) (h2 : x ≤ 9223372036854775807) : wrap64 x = x := by unfold wrap64; omega
theorem u_tmod_add (p : Int) {q : Int} (hq : 0 < q) : (p.tmod q + q).tmod q = p % q := by
  have h1 := Int.tmod_lt_of_pos p hq
  have h2 : -q < p.tmod q := by
    rcases Int.le_total 0 p with h | h
    · have := Int.tmod_nonneg q h; omega
    · have h3 : (-p).tmod q = -(p.tmod q) := Int.neg_tmod _ _
      have h4 := Int.tmod_lt_of_pos (-p) hq
      omega
  rw [Int.tmod_eq_emod_of_nonneg (by omega), Int.add_emod_right]
  have := Int.tmod_eq_emod (a := p) (b := q)
  rw [this]
  split
  · simp
  · rw [Int.sub_emod]
    have : ((q.natAbs : Int)) % q = 0 := by
      have : (q.natAbs : Int) = q := by omega
      rw [this]; exact Int.emod_self
    rw [this]; simp
theorem u_tmod_fix (p : Int) {q : Int} (hq : 0 < q) : (if p.tmod q < 0 then p.tmod q + q else p.tmod q) = p % q := by
  have h1 := Int.tmod_lt_of_pos p hq
  have h2 : -q < p.tmod q := by
    rcases Int.le_total 0 p with h | h
    · have := Int.tmod_nonneg q h; omega
    · have h3 : (-p).tmod q = -(p.tmod q) := Int.neg_tmod _ _
      have h4 := Int.tmod_lt_of_pos (-p) hq
      omega
  have h3 := u_tmod_add p hq
  split
  · rw [Int.tmod_eq_emod_of_nonneg (by omega)] at h3
    rw [← h3, Int.emod_eq_of_lt (by omega) (by omega)]
  · rw [Int.tmod_eq_emod_of_nonneg (by omega), Int.add_emod_right, Int.emod_eq_of_lt (by omega) (by omega)] at h3
    exact h3
theorem u_tmod_bd (p : Int) {q : Int} (hq : 0 < q) : -q < p.tmod q ∧ p.tmod q < q := by
  have h1 := Int.tmod_lt_of_pos p hq
  refine ⟨?_, h1⟩
  rcases Int.le_total 0 p with h | h
  · have := Int.tmod_nonneg q h; omega
  · have h3 : (-p).tmod q = -(p.tmod q) := Int.neg_tmod _ _
    have h4 := Int.tmod_lt_of_pos (-p) hq
    omega
theorem u_smod (a : Int) {q : Int} (h1 : 1 ≤ q) (h2 : q ≤ 1000000000000) : spec_Mod.f a q = some (a % q) := by
  unfold spec_Mod.f spec_l1In.f
  have hb := u_tmod_bd a (q := q) (by omega)
  simp only [ge_iff_le, h1, if_true, h2, decide_true, Option.bind_some, show ¬ q = 0 by omega, if_false]
  rw [u_w64 (by omega) (by omega), u_tmod_add a (by omega)]
theorem u_smod0 (a : Int) {q : Int} (h : q < 1 ∨ 1000000000000 < q) : spec_Mod.f a q = some 0 := by
  unfold spec_Mod.f spec_l1In.f
  by_cases h1 : 1 ≤ q
  · simp [h1, show ¬ q ≤ 1000000000000 by omega]
  · simp [h1]
theorem u_sangle (a : Int) : spec_AngleOf.f a = some (a % 360) := by
  unfold spec_AngleOf.f; rw [u_smod a (by omega) (by omega)]; rfl
theorem u_splace (a p v e t : Int) : spec_PlaceAt.f a p v e t = some (u_place p v t) := by
  have hs := u_speed_bd v
  unfold spec_PlaceAt.f u_place
  simp only [u_sangle, u_sspeed, Option.bind_some]
  unfold spec_l1In.f
  by_cases h1 : 0 ≤ t
  · by_cases h2 : t ≤ 1000
    · have hm := u_mul_bd (u_speed v) t hs.1 hs.2 h1
      rw [u_w64 (x := u_speed v * t) (by omega) (by omega), u_w64 (x := p % 360 + u_speed v * t) (by omega) (by omega)]
      simp [h1, h2]
    · rw [u_w64 (x := u_speed v * 0) (by omega) (by omega), u_w64 (x := p % 360 + u_speed v * 0) (by omega) (by omega)]
      simp [h1, h2]
  · rw [u_w64 (x := u_speed v * 0) (by omega) (by omega), u_w64 (x := p % 360 + u_speed v * 0) (by omega) (by omega)]
    simp [h1]
theorem u_sinarc (s w a : Int) : spec_InArc.f s w a = some (u_arc s w a) := by
  unfold spec_InArc.f u_arc
  simp only [u_sangle, Option.bind_some]
  rw [u_w64 (by omega) (by omega)]
  by_cases h : 0 ≤ w
  · rw [if_pos h]; simp [h]
  · rw [if_neg h]; simp [h]
theorem u_evloop {ρ : Type} (g : Nat → Nat → Option ρ) (n : Nat) (r : ρ) (hs : ∀ i, i < n → ∃ K, ∀ k, K ≤ k → g (k + 1) i = g k (i + 1)) (he : ∃ K, ∀ k, K ≤ k → g (k + 1) n = some r) : Ev (fun k => g k 0) r := by
  have h : ∀ d i, i + d = n → Ev (fun k => g k i) r := by
    intro d
    induction d with
    | zero =>
      intro i hi
      obtain ⟨K, hK⟩ := he
      refine ⟨K + 1, fun k hk => ?_⟩
      obtain ⟨k, rfl⟩ : ∃ m, k = m + 1 := ⟨k - 1, by omega⟩
      obtain rfl : i = n := by omega
      exact hK k (by omega)
    | succ d ih =>
      intro i hi
      obtain ⟨K, hK⟩ := hs i (by omega)
      obtain ⟨L, hL⟩ := ih (i + 1) (by omega)
      refine ⟨K + L + 1, fun k hk => ?_⟩
      obtain ⟨k, rfl⟩ : ∃ m, k = m + 1 := ⟨k - 1, by omega⟩
      show g (k + 1) i = some r
      rw [hK k (by omega)]
      exact hL k (by omega)
  exact h n 0 (by omega)
theorem u_ev_ite {α : Type} {c : Prop} [Decidable c] {f g : Nat → Option α} {r : α} (h1 : c → Ev f r) (h2 : ¬ c → Ev g r) : Ev (fun k => if c then f k else g k) r := by
  by_cases h : c
  · simpa [h] using h1 h
  · simpa [h] using h2 h
theorem u_evsucc {α : Type} {g : Nat → Option α} {r : α} (h : Ev (fun k => g (k + 1)) r) : Ev g r := by
  obtain ⟨K, hK⟩ := h
  refine ⟨K + 1, fun k hk => ?_⟩
  obtain ⟨k, rfl⟩ : ∃ m, k = m + 1 := ⟨k - 1, by omega⟩
  exact hK k (by omega)
theorem u_ev_pos {α : Type} {c : Prop} [Decidable c] {f g : Nat → Option α} {r : α} (hc : c) (h : Ev f r) : Ev (fun k => if c then f k else g k) r := by simpa [hc] using h
theorem u_ev_neg {α : Type} {c : Prop} [Decidable c] {f g : Nat → Option α} {r : α} (hc : ¬ c) (h : Ev g r) : Ev (fun k => if c then f k else g k) r := by simpa [hc] using h
theorem u_sfirst_l (a ph v e s w tt : Int) (d : Nat) : ∀ t : Int, 0 ≤ t → t + d = 1001 → Ev (fun k => spec_FirstAt.l0 k tt t a ph v e s w) (u_first (fun t => u_arc s w (u_place ph v t)) tt d t) := by
  have hf : ∀ t, Ev (fun k => spec_FirstAt.j1 k tt t false a ph v e s w) (-1) := fun t => by
    refine u_evsucc ?_
    simp only [spec_FirstAt.j1, Bool.false_eq_true, if_false]
    exact Ev.now _
  induction d with
  | zero =>
    intro t h0 hd
    refine u_evsucc ?_
    simp only [spec_FirstAt.l0, show ¬ t ≤ 1000 by omega, decide_false, ite_self]
    exact hf t
  | succ d ih =>
    intro t h0 hd
    refine u_evsucc ?_
    simp only [spec_FirstAt.l0, show t ≤ 1000 by omega, decide_true]
    by_cases h1 : t < tt
    · simp only [h1, if_true]
      refine u_evsucc ?_
      simp only [spec_FirstAt.j1, if_true, u_splace, u_sinarc, Option.bind_some]
      unfold u_first
      rw [if_pos ⟨h1, by omega⟩]
      by_cases hp : u_arc s w (u_place ph v t) = true
      · rw [if_pos hp]; exact u_ev_pos hp (Ev.now _)
      · rw [if_neg hp]
        refine u_ev_neg hp ?_
        rw [u_w64 (by omega) (by omega)]
        exact ih (t + 1) (by omega) (by omega)
    · simp only [h1, if_false]
      unfold u_first
      rw [if_neg (fun hc => h1 hc.1)]
      exact hf t
theorem u_sfirst (a ph v e s w fr tt : Int) : Ev (fun k => spec_FirstAt.f k a ph v e s w fr tt) (u_firstAt ph v s w fr tt) := by
  unfold spec_FirstAt.f u_firstAt spec_Max.f spec_Min.f
  by_cases h1 : fr > 0
  · simp only [h1, if_true, Option.bind_some, show ¬ fr ≤ 0 by omega, if_false]
    by_cases h2 : fr < 1001
    · simp only [h2, if_true, Option.bind_some]
      exact u_sfirst_l a ph v e s w tt _ fr (by omega) (by omega)
    · simp only [h2, if_false, Option.bind_some]
      have e0 : (1001 - fr).toNat = 0 := by omega
      rw [e0]
      exact u_sfirst_l a ph v e s w tt 0 1001 (by omega) (by omega)
  · simp only [h1, if_false, Option.bind_some, show fr ≤ 0 by omega, if_true, show (0 : Int) < 1001 by omega]
    exact u_sfirst_l a ph v e s w tt _ 0 (by omega) (by omega)
theorem u_ispeed (a b v d : Int) : impl_speedOf.f a b v d = some (u_speed v) := by
  unfold impl_speedOf.f impl_InRange.f u_speed
  by_cases h1 : -60 ≤ v <;> by_cases h2 : v ≤ 60 <;> simp [h1, h2]
theorem u_imod (a : Int) {q : Int} (h1 : 1 ≤ q) (h2 : q ≤ 1000000000000) : impl_Mod.f a q = some (a % q) := by
  unfold impl_Mod.f impl_InRange.f
  have hb := u_tmod_bd a (q := q) (by omega)
  simp only [h1, if_true, h2, decide_true, Option.bind_some, show ¬ q = 0 by omega, if_false]
  rw [u_w64 (by omega) (by omega), ← u_tmod_fix a (q := q) (by omega)]
  split <;> rfl
theorem u_imod0 (a : Int) {q : Int} (h : q < 1 ∨ 1000000000000 < q) : impl_Mod.f a q = some 0 := by
  unfold impl_Mod.f impl_InRange.f
  by_cases h1 : 1 ≤ q
  · simp [h1, show ¬ q ≤ 1000000000000 by omega]
  · simp [h1]
theorem u_iangle (a : Int) : impl_AngleOf.f a = some (a % 360) := by
  unfold impl_AngleOf.f; rw [u_imod a (by omega) (by omega)]; rfl
theorem u_iplace (a p v e t : Int) : impl_PlaceAt.f a p v e t = some (u_place p v t) := by
  have hs := u_speed_bd v
  unfold impl_PlaceAt.f u_place
  simp only [u_iangle, u_ispeed, Option.bind_some]
  unfold impl_InRange.f
  by_cases h1 : 0 ≤ t
  · by_cases h2 : t ≤ 1000
    · have hm := u_mul_bd (u_speed v) t hs.1 hs.2 h1
      rw [u_w64 (x := u_speed v * t) (by omega) (by omega), u_w64 (x := p % 360 + u_speed v * t) (by omega) (by omega)]
      simp [h1, h2]
    · rw [u_w64 (x := u_speed v * 0) (by omega) (by omega), u_w64 (x := p % 360 + u_speed v * 0) (by omega) (by omega)]
      simp [h1, h2]
  · rw [u_w64 (x := u_speed v * 0) (by omega) (by omega), u_w64 (x := p % 360 + u_speed v * 0) (by omega) (by omega)]
    simp [h1]
theorem u_iinarc (s w a : Int) : impl_InArc.f s w a = some (u_arc s w a) := by
  unfold impl_InArc.f u_arc
  simp only [u_iangle, Option.bind_some]
  rw [u_w64 (by omega) (by omega)]
  congr 1
  exact decide_eq_decide.2 ⟨fun h => ⟨by omega, h⟩, fun h => h.2⟩
theorem u_ifirst_l (a ph v e s w tt : Int) (d : Nat) : ∀ t : Int, 0 ≤ t → t + d = 1001 → Ev (fun k => impl_FirstAt.l0 k tt t a ph v e s w) (u_first (fun t => u_arc s w (u_place ph v t)) tt d t) := by
  have hf : ∀ t, Ev (fun k => impl_FirstAt.j1 k tt t false a ph v e s w) (-1) := fun t => by
    refine u_evsucc ?_
    simp only [impl_FirstAt.j1, Bool.false_eq_true, if_false]
    exact Ev.now _
  induction d with
  | zero =>
    intro t h0 hd
    refine u_evsucc ?_
    simp only [impl_FirstAt.l0, show ¬ t ≤ 1000 by omega, decide_false, ite_self]
    exact hf t
  | succ d ih =>
    intro t h0 hd
    refine u_evsucc ?_
    simp only [impl_FirstAt.l0, show t ≤ 1000 by omega, decide_true]
    by_cases h1 : t < tt
    · simp only [h1, if_true]
      refine u_evsucc ?_
      simp only [impl_FirstAt.j1, if_true, u_iplace, u_iinarc, Option.bind_some]
      unfold u_first
      rw [if_pos ⟨h1, by omega⟩]
      by_cases hp : u_arc s w (u_place ph v t) = true
      · rw [if_pos hp]; exact u_ev_pos hp (Ev.now _)
      · rw [if_neg hp]
        refine u_ev_neg hp ?_
        rw [u_w64 (by omega) (by omega)]
        exact ih (t + 1) (by omega) (by omega)
    · simp only [h1, if_false]
      unfold u_first
      rw [if_neg (fun hc => h1 hc.1)]
      exact hf t
theorem u_ifirst (a ph v e s w fr tt : Int) : Ev (fun k => impl_FirstAt.f k a ph v e s w fr tt) (u_firstAt ph v s w fr tt) := by
  unfold impl_FirstAt.f u_firstAt mx
  by_cases h1 : fr ≤ 0
  · have e0 : (if fr < 0 then 0 else fr) = 0 := by split <;> omega
    simp only [h1, if_true, e0]
    exact u_ifirst_l a ph v e s w tt _ 0 (by omega) (by omega)
  · simp only [h1, if_false, show ¬ fr < 0 by omega]
    by_cases h2 : fr ≤ 1001
    · exact u_ifirst_l a ph v e s w tt _ fr (by omega) (by omega)
    · have e0 : (1001 - fr).toNat = 0 := by omega
      rw [e0]
      refine u_evsucc ?_
      simp only [impl_FirstAt.l0, show ¬ fr ≤ 1000 by omega, decide_false, ite_self]
      refine u_evsucc ?_
      simp only [impl_FirstAt.j1, Bool.false_eq_true, if_false]
      exact Ev.now _

theorem FnExactFirstAt : ∀ (a0_0 : Int) (a0_1 : Int) (a0_2 : Int) (a0_3 : Int) (a1_0 : Int) (a1_1 : Int) (a2 : Int) (a3 : Int), (Lit.int .i64 a0_0).wf = true → (Lit.int .i64 a0_1).wf = true → (Lit.int .i64 a0_2).wf = true → (Lit.int .i64 a0_3).wf = true → (Lit.int .i64 a1_0).wf = true → (Lit.int .i64 a1_1).wf = true → (Lit.int .i64 a2).wf = true → (Lit.int .i64 a3).wf = true → ∃ k, laws_FnExactFirstAt.f k a0_0 a0_1 a0_2 a0_3 a1_0 a1_1 a2 a3 = some true := by
  intro a p v e s w fr tt _ _ _ _ _ _ _ _
  refine Ev.rounds ?_
  unfold laws_FnExactFirstAt.f laws_toSat.f laws_toArc.f
  simp only [Option.bind_some]
  exact Ev.bind (u_sfirst a p v e s w fr tt) (Ev.bind (u_ifirst a p v e s w fr tt) (u_ev_pos (by trivial) (Ev.now true)))

end Go.Proofs.Ytolepbdmbedload.Pure
