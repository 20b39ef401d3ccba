/- FnExactRoundOf returns true for every satellite; no condition. -/
import Derived.Test.YtolepbdmbedloadPFnExactRoundOfx1
namespace Go.Proofs.Ytolepbdmbedload.Pure
open Go.RowKit Go.Proofs.Ytolepbdmbedload.PFnExactRoundOf Go.Proofs.YtolepbdmbedloadW.PrintWords Go.Proofs.YtolepbdmbedloadW.PrintLast
set_option linter.unusedVariables false
set_option linter.unusedSimpArgs false

def u_speed (v : Int) : Int := if -60 ≤ v ∧ v ≤ 60 then v else 0
theorem u_speed_bd (v : Int) : -60 ≤ u_speed v ∧ u_speed v ≤ 60 := by unfold u_speed; split <;> omega
theorem u_mul_bd (v n : Int) (h1 : -60 ≤ v) (h2 : v ≤ 60) (h3 : 0 ≤ n) : -60 * n ≤ v * n ∧ v * n ≤ 60 * n := ⟨Int.mul_le_mul_of_nonneg_right h1 h3, Int.mul_le_mul_of_nonneg_right h2 h3⟩
def u_place (p v t : Int) : Int := (p % 360 + u_speed v * (if 0 ≤ t ∧ t ≤ 1000 then t else 0)) % 360
theorem u_place_bd (p v t : Int) : 0 ≤ u_place p v t ∧ u_place p v t < 360 := by unfold u_place; omega
theorem u_first_bad (p : Nat → Prop) [DecidablePred p] (n : Nat) : (∀ i, i < n → p i) ∨ ∃ m, m < n ∧ ¬ p m ∧ ∀ i, i < m → p i := by
  by_cases hex : ∃ m, m < n ∧ ¬ p m
  · right
    obtain ⟨d, hd⟩ := hex
    induction d using Nat.strongRecOn with
    | ind d ih =>
      by_cases h : ∃ m, m < d ∧ (m < n ∧ ¬ p m)
      · obtain ⟨m, hm, hp⟩ := h; exact ih m hm hp
      · refine ⟨d, hd.1, hd.2, fun i hi => ?_⟩
        by_cases e : p i
        · exact e
        · exact absurd ⟨i, hi, by omega, e⟩ h
  · left
    intro i hi
    by_cases e : p i
    · exact e
    · exact absurd ⟨i, hi, e⟩ hex
theorem u_round (v : Int) : ∃ N : Nat, N < 360 ∧ (((N : Int) + 1) * u_speed v) % 360 = 0 ∧ ∀ i : Nat, i < N → (((i : Int) + 1) * u_speed v) % 360 ≠ 0 := by
  rcases u_first_bad (fun i : Nat => (((i : Int) + 1) * u_speed v) % 360 ≠ 0) 360 with h | ⟨m, hm, hb, hp⟩
  · exact absurd (by omega) (h 359 (by omega))
  · exact ⟨m, hm, by simpa using hb, hp⟩
theorem u_sspeed (v : Int) : spec_l6Speed.f v = some (u_speed v) := by
  unfold spec_l6Speed.f spec_l1In.f u_speed
  by_cases h1 : -60 ≤ v <;> by_cases h2 : v ≤ 60 <;> simp [h1, h2]
theorem u_w64 {x : Int} (h1 : -9223372036854775808 ≤ x) (h2 : x ≤ 9223372036854775807) : wrap64 x = x := by unfold wrap64; omega
theorem u_tmod_add (p : Int) {q : Int} (hq : 0 < q) : (p.tmod q + q).tmod q = p % q := by
  have h1 := Int.tmod_lt_of_pos p hq
  have h2 : -q < p.tmod q := by
    rcases Int.le_total 0 p with h | h
    · have := Int.tmod_nonneg q h; omega
    · have h3 : (-p).tmod q = -(p.tmod q) := Int.neg_tmod _ _
      have h4 := Int.tmod_lt_of_pos (-p) hq
      omega
  rw [Int.tmod_eq_emod_of_nonneg (by omega), Int.add_emod_right]
  have := Int.tmod_eq_emod (a := p) (b := q)
  rw [this]
  split
  · simp
  · rw [Int.sub_emod]
    have : ((q.natAbs : Int)) % q = 0 := by
      have : (q.natAbs : Int) = q := by omega
      rw [this]; exact Int.emod_self
    rw [this]; simp
theorem u_tmod_fix (p : Int) {q : Int} (hq : 0 < q) : (if p.tmod q < 0 then p.tmod q + q else p.tmod q) = p % q := by
  have h1 := Int.tmod_lt_of_pos p hq
  have h2 : -q < p.tmod q := by
    rcases Int.le_total 0 p with h | h
    · have := Int.tmod_nonneg q h; omega
    · have h3 : (-p).tmod q = -(p.tmod q) := Int.neg_tmod _ _
      have h4 := Int.tmod_lt_of_pos (-p) hq
      omega
  have h3 := u_tmod_add p hq
  split
  · rw [Int.tmod_eq_emod_of_nonneg (by omega)] at h3
    rw [← h3, Int.emod_eq_of_lt (by omega) (by omega)]
  · rw [Int.tmod_eq_emod_of_nonneg (by omega), Int.add_emod_right, Int.emod_eq_of_lt (by omega) (by omega)] at h3
    exact h3
theorem u_tmod_bd (p : Int) {q : Int} (hq : 0 < q) : -q < p.tmod q ∧ p.tmod q < q := by
  have h1 := Int.tmod_lt_of_pos p hq
  refine ⟨?_, h1⟩
  rcases Int.le_total 0 p with h | h
  · have := Int.tmod_nonneg q h; omega
  · have h3 : (-p).tmod q = -(p.tmod q) := Int.neg_tmod _ _
    have h4 := Int.tmod_lt_of_pos (-p) hq
    omega
theorem u_smod (a : Int) {q : Int} (h1 : 1 ≤ q) (h2 : q ≤ 1000000000000) : spec_Mod.f a q = some (a % q) := by
  unfold spec_Mod.f spec_l1In.f
  have hb := u_tmod_bd a (q := q) (by omega)
  simp only [ge_iff_le, h1, if_true, h2, decide_true, Option.bind_some, show ¬ q = 0 by omega, if_false]
  rw [u_w64 (by omega) (by omega), u_tmod_add a (by omega)]
theorem u_smod0 (a : Int) {q : Int} (h : q < 1 ∨ 1000000000000 < q) : spec_Mod.f a q = some 0 := by
  unfold spec_Mod.f spec_l1In.f
  by_cases h1 : 1 ≤ q
  · simp [h1, show ¬ q ≤ 1000000000000 by omega]
  · simp [h1]
theorem u_sangle (a : Int) : spec_AngleOf.f a = some (a % 360) := by
  unfold spec_AngleOf.f; rw [u_smod a (by omega) (by omega)]; rfl
theorem u_evloop {ρ : Type} (g : Nat → Nat → Option ρ) (n : Nat) (r : ρ) (hs : ∀ i, i < n → ∃ K, ∀ k, K ≤ k → g (k + 1) i = g k (i + 1)) (he : ∃ K, ∀ k, K ≤ k → g (k + 1) n = some r) : Ev (fun k => g k 0) r := by
  have h : ∀ d i, i + d = n → Ev (fun k => g k i) r := by
    intro d
    induction d with
    | zero =>
      intro i hi
      obtain ⟨K, hK⟩ := he
      refine ⟨K + 1, fun k hk => ?_⟩
      obtain ⟨k, rfl⟩ : ∃ m, k = m + 1 := ⟨k - 1, by omega⟩
      obtain rfl : i = n := by omega
      exact hK k (by omega)
    | succ d ih =>
      intro i hi
      obtain ⟨K, hK⟩ := hs i (by omega)
      obtain ⟨L, hL⟩ := ih (i + 1) (by omega)
      refine ⟨K + L + 1, fun k hk => ?_⟩
      obtain ⟨k, rfl⟩ : ∃ m, k = m + 1 := ⟨k - 1, by omega⟩
      show g (k + 1) i = some r
      rw [hK k (by omega)]
      exact hL k (by omega)
  exact h n 0 (by omega)
theorem u_ev_ite {α : Type} {c : Prop} [Decidable c] {f g : Nat → Option α} {r : α} (h1 : c → Ev f r) (h2 : ¬ c → Ev g r) : Ev (fun k => if c then f k else g k) r := by
  by_cases h : c
  · simpa [h] using h1 h
  · simpa [h] using h2 h
theorem u_sround (a b v d : Int) (N : Nat) (hN : N < 360) (h0 : (((N : Int) + 1) * u_speed v) % 360 = 0) (hl : ∀ i : Nat, i < N → (((i : Int) + 1) * u_speed v) % 360 ≠ 0) : Ev (fun k => spec_RoundOf.f k a b v d) ((N : Int) + 1) := by
  unfold spec_RoundOf.f
  have hs := u_speed_bd v
  have h := u_evloop (fun k i => spec_RoundOf.l0 k ((i : Int) + 1) a b v d) N ((N : Int) + 1) (fun i hi => ⟨0, fun k _ => ?_⟩) ⟨0, fun k _ => ?_⟩
  · exact h
  · have hb := u_mul_bd (u_speed v) ((i : Int) + 1) hs.1 hs.2 (by omega)
    have hn := hl i hi
    simp only [spec_RoundOf.l0, u_sspeed, u_sangle, Option.bind_some]
    rw [if_pos (by omega), u_w64 (x := u_speed v * ((i : Int) + 1)) (by omega) (by omega), Int.mul_comm (u_speed v), if_neg hn, u_w64 (by omega) (by omega)]
    simp
  · have hb := u_mul_bd (u_speed v) ((N : Int) + 1) hs.1 hs.2 (by omega)
    simp only [spec_RoundOf.l0, u_sspeed, u_sangle, Option.bind_some]
    by_cases h359 : N = 359
    · rw [if_neg (by omega), h359]; rfl
    · rw [if_pos (by omega), u_w64 (x := u_speed v * ((N : Int) + 1)) (by omega) (by omega), Int.mul_comm (u_speed v), if_pos h0]
theorem u_ispeed (a b v d : Int) : impl_speedOf.f a b v d = some (u_speed v) := by
  unfold impl_speedOf.f impl_InRange.f u_speed
  by_cases h1 : -60 ≤ v <;> by_cases h2 : v ≤ 60 <;> simp [h1, h2]
theorem u_imod (a : Int) {q : Int} (h1 : 1 ≤ q) (h2 : q ≤ 1000000000000) : impl_Mod.f a q = some (a % q) := by
  unfold impl_Mod.f impl_InRange.f
  have hb := u_tmod_bd a (q := q) (by omega)
  simp only [h1, if_true, h2, decide_true, Option.bind_some, show ¬ q = 0 by omega, if_false]
  rw [u_w64 (by omega) (by omega), ← u_tmod_fix a (q := q) (by omega)]
  split <;> rfl
theorem u_imod0 (a : Int) {q : Int} (h : q < 1 ∨ 1000000000000 < q) : impl_Mod.f a q = some 0 := by
  unfold impl_Mod.f impl_InRange.f
  by_cases h1 : 1 ≤ q
  · simp [h1, show ¬ q ≤ 1000000000000 by omega]
  · simp [h1]
theorem u_iangle (a : Int) : impl_AngleOf.f a = some (a % 360) := by
  unfold impl_AngleOf.f; rw [u_imod a (by omega) (by omega)]; rfl
theorem u_iround (a b v d : Int) (N : Nat) (hN : N < 360) (h0 : (((N : Int) + 1) * u_speed v) % 360 = 0) (hl : ∀ i : Nat, i < N → (((i : Int) + 1) * u_speed v) % 360 ≠ 0) : Ev (fun k => impl_RoundOf.f k a b v d) ((N : Int) + 1) := by
  unfold impl_RoundOf.f
  have hs := u_speed_bd v
  have h := u_evloop (fun k i => impl_RoundOf.l0 k ((i : Int) + 1) a b v d) N ((N : Int) + 1) (fun i hi => ⟨0, fun k _ => ?_⟩) ⟨0, fun k _ => ?_⟩
  · exact h
  · have hb := u_mul_bd (u_speed v) ((i : Int) + 1) hs.1 hs.2 (by omega)
    have hn := hl i hi
    rw [Int.mul_comm (u_speed v)] at hb
    simp only [impl_RoundOf.l0, u_ispeed, u_iangle, Option.bind_some]
    rw [u_w64 (x := ((i : Int) + 1) * u_speed v) (by omega) (by omega), if_neg hn, u_w64 (by omega) (by omega)]
    simp
  · have hb := u_mul_bd (u_speed v) ((N : Int) + 1) hs.1 hs.2 (by omega)
    rw [Int.mul_comm (u_speed v)] at hb
    simp only [impl_RoundOf.l0, u_ispeed, u_iangle, Option.bind_some]
    rw [u_w64 (x := ((N : Int) + 1) * u_speed v) (by omega) (by omega), if_pos h0]
theorem u_evsucc {α : Type} {g : Nat → Option α} {r : α} (h : Ev (fun k => g (k + 1)) r) : Ev g r := by
  obtain ⟨K, hK⟩ := h
  refine ⟨K + 1, fun k hk => ?_⟩
  obtain ⟨k, rfl⟩ : ∃ m, k = m + 1 := ⟨k - 1, by omega⟩
  exact hK k (by omega)
theorem u_ev_pos {α : Type} {c : Prop} [Decidable c] {f g : Nat → Option α} {r : α} (hc : c) (h : Ev f r) : Ev (fun k => if c then f k else g k) r := by simpa [hc] using h
theorem u_ev_neg {α : Type} {c : Prop} [Decidable c] {f g : Nat → Option α} {r : α} (hc : ¬ c) (h : Ev g r) : Ev (fun k => if c then f k else g k) r := by simpa [hc] using h

theorem FnExactRoundOf : ∀ (a0_0 : Int) (a0_1 : Int) (a0_2 : Int) (a0_3 : Int), (Lit.int .i64 a0_0).wf = true → (Lit.int .i64 a0_1).wf = true → (Lit.int .i64 a0_2).wf = true → (Lit.int .i64 a0_3).wf = true → ∃ k, laws_FnExactRoundOf.f k a0_0 a0_1 a0_2 a0_3 = some true := by
  intro a b v d _ _ _ _
  refine Ev.rounds ?_
  unfold laws_FnExactRoundOf.f laws_toSat.f
  simp only [Option.bind_some]
  obtain ⟨N, h1, h2, h3⟩ := u_round v
  exact Ev.bind (u_sround a b v d N h1 h2 h3) (Ev.bind (u_iround a b v d N h1 h2 h3) (u_ev_pos (by trivial) (Ev.now true)))

end Go.Proofs.Ytolepbdmbedload.Pure
