/- FnExactNodesOf returns true for every sky; no condition. -/
import Derived.Test.YtfphbbjcocjmfaaPFnExactNodesOfx4
namespace Go.Proofs.Ytfphbbjcocjmfaa.Pure
open Go.RowKit Go.Proofs.Ytfphbbjcocjmfaa.PFnExactNodesOf Go.Proofs.YtfphbbjcocjmfaaW.PrintWords Go.Proofs.YtfphbbjcocjmfaaW.PrintLast
set_option linter.unusedVariables false
set_option linter.unusedSimpArgs false

theorem u_evloop {ρ : Type} (g : Nat → Nat → Option ρ) (n : Nat) (r : ρ) (hs : ∀ i, i < n → ∃ K, ∀ k, K ≤ k → g (k + 1) i = g k (i + 1)) (he : ∃ K, ∀ k, K ≤ k → g (k + 1) n = some r) : Ev (fun k => g k 0) r := by
  have h : ∀ d i, i + d = n → Ev (fun k => g k i) r := by
    intro d
    induction d with
    | zero =>
      intro i hi
      obtain ⟨K, hK⟩ := he
      refine ⟨K + 1, fun k hk => ?_⟩
      obtain ⟨k, rfl⟩ : ∃ m, k = m + 1 := ⟨k - 1, by omega⟩
      obtain rfl : i = n := by omega
      exact hK k (by omega)
    | succ d ih =>
      intro i hi
      obtain ⟨K, hK⟩ := hs i (by omega)
      obtain ⟨L, hL⟩ := ih (i + 1) (by omega)
      refine ⟨K + L + 1, fun k hk => ?_⟩
      obtain ⟨k, rfl⟩ : ∃ m, k = m + 1 := ⟨k - 1, by omega⟩
      show g (k + 1) i = some r
      rw [hK k (by omega)]
      exact hL k (by omega)
  exact h n 0 (by omega)
theorem u_ev_ite {α : Type} {c : Prop} [Decidable c] {f g : Nat → Option α} {r : α} (h1 : c → Ev f r) (h2 : ¬ c → Ev g r) : Ev (fun k => if c then f k else g k) r := by
  by_cases h : c
  · simpa [h] using h1 h
  · simpa [h] using h2 h
theorem u_w64 {x : Int} (h1 : -9223372036854775808 ≤ x) (h2 : x ≤ 9223372036854775807) : wrap64 x = x := by unfold wrap64; omega
theorem u_rd (xs : List Int) (i : Nat) : rd xs (i : Int) = xs.getD i 0 := by simp [rd]
theorem u_set_fill {α : Type} (xs : List α) (z d : α) (i : Nat) (h : i < xs.length) : (xs.take i ++ List.replicate (xs.length - i) z).set i (xs.getD i d) = xs.take (i + 1) ++ List.replicate (xs.length - (i + 1)) z := by
  apply List.ext_getElem?
  intro j
  have hl : (xs.take i).length = i := by simp; omega
  rcases Nat.lt_trichotomy j i with h1 | h1 | h1
  · rw [List.getElem?_set_ne (by omega), List.getElem?_append_left (by omega), List.getElem?_append_left (by simp; omega)]
    simp [List.getElem?_take, h1, show j < i + 1 by omega]
  · subst h1
    rw [List.getElem?_set_self (by simp; omega), List.getElem?_append_left (by simp; omega)]
    simp [List.getElem?_take, List.getD_eq_getElem?_getD, List.getElem?_eq_getElem h]
  · rw [List.getElem?_set_ne (by omega), List.getElem?_append_right (by omega), List.getElem?_append_right (by simp; omega)]
    simp only [List.getElem?_replicate, hl, List.length_take]
    have e : min (i + 1) xs.length = i + 1 := by omega
    rw [e]
    by_cases h2 : j < xs.length
    · rw [if_pos (by omega), if_pos (by omega)]
    · rw [if_neg (by omega), if_neg (by omega)]
/-- What mark writes: the counters from k on. -/
def u_marks (f : Int → Int) (k : Int) (n : Nat) : List Int := (List.range n).map fun i : Nat => f (k + (i : Int))
theorem u_marks_len (f : Int → Int) (k : Int) (n : Nat) : (u_marks f k n).length = n := by simp [u_marks]
theorem u_marks_get (f : Int → Int) (k : Int) (n i : Nat) (h : i < n) : (u_marks f k n).getD i 0 = f (k + i) := by simp [u_marks, List.getD_eq_getElem?_getD, List.getElem?_map, List.getElem?_range h]
theorem u_marks_set (f : Int → Int) (k : Int) (xs : List Int) (i : Nat) (h : i < xs.length) : (u_marks f k i ++ xs.drop i).set i (f (k + i)) = u_marks f k (i + 1) ++ xs.drop (i + 1) := by
  have e : u_marks f k (i + 1) = u_marks f k i ++ [f (k + i)] := by simp [u_marks, List.range_succ]
  rw [e, List.set_append_right _ _ (by rw [u_marks_len]; omega), u_marks_len, Nat.sub_self, List.append_assoc]
  congr 1
  rw [List.drop_eq_getElem_cons h]
  rfl
theorem u_take_succ {α : Type} (xs : List α) (d : α) (i : Nat) (h : i < xs.length) : xs.take (i + 1) = xs.take i ++ [xs.getD i d] := by
  rw [List.take_succ_eq_append_getElem h]; simp [List.getD_eq_getElem?_getD, List.getElem?_eq_getElem h]
theorem u_evsucc {α : Type} {g : Nat → Option α} {r : α} (h : Ev (fun k => g (k + 1)) r) : Ev g r := by
  obtain ⟨K, hK⟩ := h
  refine ⟨K + 1, fun k hk => ?_⟩
  obtain ⟨k, rfl⟩ : ∃ m, k = m + 1 := ⟨k - 1, by omega⟩
  exact hK k (by omega)
theorem u_ev_pos {α : Type} {c : Prop} [Decidable c] {f g : Nat → Option α} {r : α} (hc : c) (h : Ev f r) : Ev (fun k => if c then f k else g k) r := by simpa [hc] using h
theorem u_ev_neg {α : Type} {c : Prop} [Decidable c] {f g : Nat → Option α} {r : α} (hc : ¬ c) (h : Ev g r) : Ev (fun k => if c then f k else g k) r := by simpa [hc] using h
def u_sats (l : List S51) : List S53 := l.map fun x => ⟨x.f0, x.f1, x.f2, x.f3⟩
def u_sites (l : List S68) : List S66 := l.map fun x => ⟨x.f0, x.f1, x.f2⟩
def u_zones (l : List S76) : List S72 := l.map fun x => ⟨x.f0, ⟨x.f1.f0, x.f1.f1⟩⟩
theorem u_toSatS (l : List S51) (hx : l.length ≤ 1048576) : Ev (fun k => laws_toSatS.f k l) (u_sats l) := by
  unfold laws_toSatS.f
  simp only [show (0 : Int) ≤ (l.length : Int) by omega, if_true, Int.toNat_natCast, show l.length ≤ 8796093022208 by omega]
  have hl : (u_sats l).length = l.length := by simp [u_sats]
  have h := u_evloop (fun k i => laws_toSatS.l0 k l ((u_sats l).take i ++ List.replicate ((u_sats l).length - i) z53) (i : Int)) l.length (u_sats l) (fun i hi => ⟨0, fun k _ => ?_⟩) ⟨0, fun k _ => ?_⟩
  · simpa [hl] using h
  · have hg : (u_sats l).getD i z53 = ⟨(rd_T51 l i).f0, (rd_T51 l i).f1, (rd_T51 l i).f2, (rd_T51 l i).f3⟩ := by
      unfold u_sats rd_T51
      simp [List.getD_eq_getElem?_getD, List.getElem?_map, List.getElem?_eq_getElem hi]
    simp only [laws_toSatS.l0, laws_toSat.f, Option.bind_some]
    rw [if_pos (by omega), if_pos (by omega), if_pos (by simp; omega), u_w64 (by omega) (by omega), Int.toNat_natCast, ← hg, u_set_fill (u_sats l) z53 z53 i (by omega)]
    simp
  · simp only [laws_toSatS.l0]
    rw [if_neg (by omega), List.take_of_length_le (by omega)]; simp [hl]
theorem u_toSiteS (l : List S68) (hx : l.length ≤ 1048576) : Ev (fun k => laws_toSiteS.f k l) (u_sites l) := by
  unfold laws_toSiteS.f
  simp only [show (0 : Int) ≤ (l.length : Int) by omega, if_true, Int.toNat_natCast, show l.length ≤ 11728124029610 by omega]
  have hl : (u_sites l).length = l.length := by simp [u_sites]
  have h := u_evloop (fun k i => laws_toSiteS.l0 k l ((u_sites l).take i ++ List.replicate ((u_sites l).length - i) z66) (i : Int)) l.length (u_sites l) (fun i hi => ⟨0, fun k _ => ?_⟩) ⟨0, fun k _ => ?_⟩
  · simpa [hl] using h
  · have hg : (u_sites l).getD i z66 = ⟨(rd_T68 l i).f0, (rd_T68 l i).f1, (rd_T68 l i).f2⟩ := by
      unfold u_sites rd_T68
      simp [List.getD_eq_getElem?_getD, List.getElem?_map, List.getElem?_eq_getElem hi]
    simp only [laws_toSiteS.l0, laws_toSite.f, Option.bind_some]
    rw [if_pos (by omega), if_pos (by omega), if_pos (by simp; omega), u_w64 (by omega) (by omega), Int.toNat_natCast, ← hg, u_set_fill (u_sites l) z66 z66 i (by omega)]
    simp
  · simp only [laws_toSiteS.l0]
    rw [if_neg (by omega), List.take_of_length_le (by omega)]; simp [hl]
theorem u_toZoneS (l : List S76) (hx : l.length ≤ 1048576) : Ev (fun k => laws_toZoneS.f k l) (u_zones l) := by
  unfold laws_toZoneS.f
  simp only [show (0 : Int) ≤ (l.length : Int) by omega, if_true, Int.toNat_natCast, show l.length ≤ 11728124029610 by omega]
  have hl : (u_zones l).length = l.length := by simp [u_zones]
  have h := u_evloop (fun k i => laws_toZoneS.l0 k l ((u_zones l).take i ++ List.replicate ((u_zones l).length - i) z72) (i : Int)) l.length (u_zones l) (fun i hi => ⟨0, fun k _ => ?_⟩) ⟨0, fun k _ => ?_⟩
  · simpa [hl] using h
  · have hg : (u_zones l).getD i z72 = ⟨(rd_T76 l i).f0, ⟨(rd_T76 l i).f1.f0, (rd_T76 l i).f1.f1⟩⟩ := by
      unfold u_zones rd_T76
      simp [List.getD_eq_getElem?_getD, List.getElem?_map, List.getElem?_eq_getElem hi]
    simp only [laws_toZoneS.l0, laws_toZone.f, laws_toArc.f, Option.bind_some]
    rw [if_pos (by omega), if_pos (by omega), if_pos (by simp; omega), u_w64 (by omega) (by omega), Int.toNat_natCast, ← hg, u_set_fill (u_zones l) z72 z72 i (by omega)]
    simp
  · simp only [laws_toZoneS.l0]
    rw [if_neg (by omega), List.take_of_length_le (by omega)]; simp [hl]
theorem u_eqSatS (x : List S53) (hx : x.length ≤ 1152921504606846976) : Ev (fun k => laws_eqSatS.f k x x) true := by
  unfold laws_eqSatS.f
  simp only [if_true]
  refine u_evloop (fun k i => laws_eqSatS.l0 k x x (i : Int)) x.length true (fun i hi => ⟨0, fun k _ => ?_⟩) ⟨0, fun k _ => ?_⟩
  · simp only [laws_eqSatS.l0, laws_eqSat.f, if_true, Option.bind_some]
    rw [if_pos (by omega), if_pos (by omega), if_pos (by omega), u_w64 (by omega) (by omega)]; simp
  · simp only [laws_eqSatS.l0]
    rw [if_neg (by omega)]
theorem u_eqSiteS (x : List S66) (hx : x.length ≤ 1152921504606846976) : Ev (fun k => laws_eqSiteS.f k x x) true := by
  unfold laws_eqSiteS.f
  simp only [if_true]
  refine u_evloop (fun k i => laws_eqSiteS.l0 k x x (i : Int)) x.length true (fun i hi => ⟨0, fun k _ => ?_⟩) ⟨0, fun k _ => ?_⟩
  · simp only [laws_eqSiteS.l0, laws_eqSite.f, if_true, Option.bind_some]
    rw [if_pos (by omega), if_pos (by omega), if_pos (by omega), u_w64 (by omega) (by omega)]; simp
  · simp only [laws_eqSiteS.l0]
    rw [if_neg (by omega)]
theorem u_eqZoneS (x : List S72) (hx : x.length ≤ 1152921504606846976) : Ev (fun k => laws_eqZoneS.f k x x) true := by
  unfold laws_eqZoneS.f
  simp only [if_true]
  refine u_evloop (fun k i => laws_eqZoneS.l0 k x x (i : Int)) x.length true (fun i hi => ⟨0, fun k _ => ?_⟩) ⟨0, fun k _ => ?_⟩
  · simp only [laws_eqZoneS.l0, laws_eqZone.f, laws_eqArc.f, if_true, Option.bind_some]
    rw [if_pos (by omega), if_pos (by omega), if_pos (by omega), u_w64 (by omega) (by omega)]; simp
  · simp only [laws_eqZoneS.l0]
    rw [if_neg (by omega)]
theorem u_toSky (a : Int) (x : List S51) (y : List S68) (b c d e f : Int) (z : List S76) (g : Int) (hx : x.length ≤ 1048576) (hy : y.length ≤ 1048576) (hz : z.length ≤ 1048576) :
    Ev (fun k => laws_toSky.f k a x y b c d e f z g) (a, u_sats x, u_sites y, b, c, d, e, f, u_zones z, g) := by
  unfold laws_toSky.f
  exact Ev.bind (u_toSatS x hx) (Ev.bind (u_toSiteS y hy) (Ev.bind (u_toZoneS z hz) (Ev.now _)))
theorem u_eqSky (a : Int) (x : List S53) (y : List S66) (b c d e f : Int) (z : List S72) (g : Int) (hx : x.length ≤ 1048576) (hy : y.length ≤ 1048576) (hz : z.length ≤ 1048576) :
    Ev (fun k => laws_eqSky.f k a x y b c d e f z g a x y b c d e f z g) true := by
  unfold laws_eqSky.f
  refine u_ev_pos rfl (Ev.bind (u_eqSatS x (by omega)) (u_ev_pos rfl (Ev.bind (u_eqSiteS y (by omega)) (u_ev_pos rfl (u_ev_pos rfl (u_ev_pos rfl (u_ev_pos rfl (u_ev_pos rfl (u_ev_pos rfl (Ev.bind (u_eqZoneS z (by omega)) (u_ev_pos rfl (u_ev_pos rfl (Ev.now true)))))))))))))
/-- A sky that is too large is not looked at; else its lists are short. -/
theorem u_szSky (a : Int) (x : List S51) (y : List S68) (b c d e f : Int) (z : List S76) (g : Int) (hx : x.length ≤ 9223372036854775807) (hy : y.length ≤ 9223372036854775807) (hz : z.length ≤ 9223372036854775807) :
    ∃ t, laws_szSky.f a x y b c d e f z g 1048576 = some t ∧ (t < 0 ∨ (x.length ≤ 1048576 ∧ y.length ≤ 1048576 ∧ z.length ≤ 1048576 ∧ x.length + y.length ≤ 1048576)) := by
  unfold laws_szSky.f laws_szSatS.f laws_szSiteS.f laws_szZoneS.f
  rw [u_w64 (x := 1048576 - (x.length : Int)) (by omega) (by omega)]
  by_cases h1 : 1048576 - (x.length : Int) < 0
  · simp only [h1, if_true, Option.bind_some]
    exact ⟨_, rfl, Or.inl (by omega)⟩
  simp only [h1, if_false, Option.bind_some]
  rw [u_w64 (x := 1048576 - (x.length : Int) - (y.length : Int)) (by omega) (by omega)]
  by_cases h2 : 1048576 - (x.length : Int) - (y.length : Int) < 0
  · simp only [h2, if_true, Option.bind_some]
    exact ⟨_, rfl, Or.inl (by omega)⟩
  simp only [h2, if_false, Option.bind_some]
  rw [u_w64 (x := 1048576 - (x.length : Int) - (y.length : Int) - (z.length : Int)) (by omega) (by omega)]
  by_cases h3 : 1048576 - (x.length : Int) - (y.length : Int) - (z.length : Int) < 0
  · simp only [h3, if_true, Option.bind_some]
    exact ⟨_, rfl, Or.inl (by omega)⟩
  · simp only [h3, if_false, Option.bind_some]
    exact ⟨_, rfl, Or.inr (by omega)⟩
def u_nodes (m n : Nat) : Int := wrap64 ((m : Int) + (n : Int))
theorem u_snodes (a : Int) (x : List S53) (y : List S66) (b c d e f : Int) (z : List S72) (g : Int) : spec_NodesOf.f a x y b c d e f z g = some (u_nodes x.length y.length) := by unfold spec_NodesOf.f u_nodes; rfl
theorem u_inodes (a : Int) (x : List S53) (y : List S66) (b c d e f : Int) (z : List S72) (g : Int) : impl_NodesOf.f a x y b c d e f z g = some (u_nodes x.length y.length) := by unfold impl_NodesOf.f u_nodes; rfl
theorem u_ev_some {α : Type} {o : Option α} {a : α} (h : o = some a) : Ev (fun _ => o) a := by subst h; exact Ev.now a
theorem u_ev_same {α : Type} {f g : Nat → Option α} {r : α} (v : Int) (h : Ev f r) : Ev (fun k => if v = v then f k else g k) r := u_ev_pos rfl h

theorem FnExactNodesOf : ∀ (a0_0 : Int) (l0_1 : List (S51)) (l0_2 : List (S68)) (a0_3 : Int) (a0_4 : Int) (a0_5 : Int) (a0_6 : Int) (a0_7 : Int) (l0_8 : List (S76)) (a0_9 : Int), (Lit.int .i64 a0_0).wf = true → l0_1.length ≤ 9223372036854775807 → l0_2.length ≤ 9223372036854775807 → (Lit.int .i64 a0_3).wf = true → (Lit.int .i64 a0_4).wf = true → (Lit.int .i64 a0_5).wf = true → (Lit.int .i64 a0_6).wf = true → (Lit.int .i64 a0_7).wf = true → l0_8.length ≤ 9223372036854775807 → (Lit.int .i64 a0_9).wf = true → ∃ k, laws_FnExactNodesOf.f k a0_0 l0_1 l0_2 a0_3 a0_4 a0_5 a0_6 a0_7 l0_8 a0_9 = some true := by
  intro a x y b c d e f z g _ hx hy _ _ _ _ _ hz _
  refine Ev.rounds ?_
  unfold laws_FnExactNodesOf.f
  obtain ⟨t, ht, hor⟩ := u_szSky a x y b c d e f z g hx hy hz
  rw [ht]
  simp only [Option.bind_some]
  refine u_ev_ite (fun _ => Ev.now true) fun hneg => ?_
  obtain ⟨h1, h2, h3, h4⟩ := hor.resolve_left hneg
  have hs := u_toSky a x y b c d e f z g h1 h2 h3
  have hq := u_eqSky a (u_sats x) (u_sites y) b c d e f (u_zones z) g (by simpa [u_sats] using h1) (by simpa [u_sites] using h2) (by simpa [u_zones] using h3)
  exact Ev.bind hs (Ev.bind (u_ev_some (u_snodes _ _ _ _ _ _ _ _ _ _)) (Ev.bind hs (Ev.bind (u_ev_some (u_inodes _ _ _ _ _ _ _ _ _ _)) (u_ev_same _ (Ev.bind hs (Ev.bind hq (u_ev_pos rfl (Ev.now true))))))))

end Go.Proofs.Ytfphbbjcocjmfaa.Pure
