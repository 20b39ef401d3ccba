/- FnExactAppendBytes returns true for all byte slices; no condition. -/
import Derived.Test.YtolepbdmbedloaaWSized
import Derived.Laws.Bits128
import Derived.Test.YtolepbdmbedloaaPFnExactAppendBytesx2
namespace Go.Proofs.Ytolepbdmbedloaa.PrintWords
/-- The name by which the printed row calls it. -/
theorem sized_ints {H : Type} {enc : TypeId × Value → H} {P : Program} {W : World} {base : Nat} {spare : Nat → Bool} {held : Bool} {t e : TypeId} {k : IntKind} {a : Option Addr} {len cap : Nat} {d : DataW H} {ps : List MemPlace} {ts : List TypeId} {ds : List (DataW H)} {j : Nat}
    (hsz : (DataW.weightsEach P ts ds).all (· ≤ reachBytes) = true) (ht : ts[j]? = some t) (hd : ds[j]? = some d) (hu : P.underlying t = some (.slice e)) (he : P.underlying e = some (.int k)) (hc : P.cellsOf e = 1) {B : Nat} (hB : P.bytesOf e = B)
    (h : DataW.Trod enc P W base spare held t (.slice a len cap) d ps) : len * B ≤ 140737488351232 := Go.Proofs.YtolepbdmbedloaaW.PrintWords.sized_ints hsz ht hd hu he hc hB h
end Go.Proofs.Ytolepbdmbedloaa.PrintWords
namespace Go.Proofs.Ytolepbdmbedloaa.Pure
open Go.RowKit Go.Proofs.Ytolepbdmbedloaa.PFnExactAppendBytes Go.Proofs.YtolepbdmbedloaaW.PrintWords Go.Proofs.YtolepbdmbedloaaW.PrintLast
set_option linter.unusedVariables false
set_option linter.unusedSimpArgs false

theorem u_evloop {ρ : Type} (g : Nat → Nat → Option ρ) (n : Nat) (r : ρ) (hs : ∀ i, i < n → ∃ K, ∀ k, K ≤ k → g (k + 1) i = g k (i + 1)) (he : ∃ K, ∀ k, K ≤ k → g (k + 1) n = some r) : Ev (fun k => g k 0) r := by
  have h : ∀ d i, i + d = n → Ev (fun k => g k i) r := by
    intro d
    induction d with
    | zero =>
      intro i hi
      obtain ⟨K, hK⟩ := he
      refine ⟨K + 1, fun k hk => ?_⟩
      obtain ⟨k, rfl⟩ : ∃ m, k = m + 1 := ⟨k - 1, by omega⟩
      obtain rfl : i = n := by omega
      exact hK k (by omega)
    | succ d ih =>
      intro i hi
      obtain ⟨K, hK⟩ := hs i (by omega)
      obtain ⟨L, hL⟩ := ih (i + 1) (by omega)
      refine ⟨K + L + 1, fun k hk => ?_⟩
      obtain ⟨k, rfl⟩ : ∃ m, k = m + 1 := ⟨k - 1, by omega⟩
      show g (k + 1) i = some r
      rw [hK k (by omega)]
      exact hL k (by omega)
  exact h n 0 (by omega)
theorem u_ev_ite {α : Type} {c : Prop} [Decidable c] {f g : Nat → Option α} {r : α} (h1 : c → Ev f r) (h2 : ¬ c → Ev g r) : Ev (fun k => if c then f k else g k) r := by
  by_cases h : c
  · simpa [h] using h1 h
  · simpa [h] using h2 h
theorem u_w64 {x : Int} (h1 : -9223372036854775808 ≤ x) (h2 : x ≤ 9223372036854775807) : wrap64 x = x := by unfold wrap64; omega
theorem u_rd (xs : List Int) (i : Nat) : rd xs (i : Int) = xs.getD i 0 := by simp [rd]
theorem u_set_fill {α : Type} (xs : List α) (z d : α) (i : Nat) (h : i < xs.length) : (xs.take i ++ List.replicate (xs.length - i) z).set i (xs.getD i d) = xs.take (i + 1) ++ List.replicate (xs.length - (i + 1)) z := by
  apply List.ext_getElem?
  intro j
  have hl : (xs.take i).length = i := by simp; omega
  rcases Nat.lt_trichotomy j i with h1 | h1 | h1
  · rw [List.getElem?_set_ne (by omega), List.getElem?_append_left (by omega), List.getElem?_append_left (by simp; omega)]
    simp [List.getElem?_take, h1, show j < i + 1 by omega]
  · subst h1
    rw [List.getElem?_set_self (by simp; omega), List.getElem?_append_left (by simp; omega)]
    simp [List.getElem?_take, List.getD_eq_getElem?_getD, List.getElem?_eq_getElem h]
  · rw [List.getElem?_set_ne (by omega), List.getElem?_append_right (by omega), List.getElem?_append_right (by simp; omega)]
    simp only [List.getElem?_replicate, hl, List.length_take]
    have e : min (i + 1) xs.length = i + 1 := by omega
    rw [e]
    by_cases h2 : j < xs.length
    · rw [if_pos (by omega), if_pos (by omega)]
    · rw [if_neg (by omega), if_neg (by omega)]
/-- What mark writes: the counters from k on. -/
def u_marks (f : Int → Int) (k : Int) (n : Nat) : List Int := (List.range n).map fun i : Nat => f (k + (i : Int))
theorem u_marks_len (f : Int → Int) (k : Int) (n : Nat) : (u_marks f k n).length = n := by simp [u_marks]
theorem u_marks_get (f : Int → Int) (k : Int) (n i : Nat) (h : i < n) : (u_marks f k n).getD i 0 = f (k + i) := by simp [u_marks, List.getD_eq_getElem?_getD, List.getElem?_map, List.getElem?_range h]
theorem u_marks_set (f : Int → Int) (k : Int) (xs : List Int) (i : Nat) (h : i < xs.length) : (u_marks f k i ++ xs.drop i).set i (f (k + i)) = u_marks f k (i + 1) ++ xs.drop (i + 1) := by
  have e : u_marks f k (i + 1) = u_marks f k i ++ [f (k + i)] := by simp [u_marks, List.range_succ]
  rw [e, List.set_append_right _ _ (by rw [u_marks_len]; omega), u_marks_len, Nat.sub_self, List.append_assoc]
  congr 1
  rw [List.drop_eq_getElem_cons h]
  rfl
theorem u_take_succ {α : Type} (xs : List α) (d : α) (i : Nat) (h : i < xs.length) : xs.take (i + 1) = xs.take i ++ [xs.getD i d] := by
  rw [List.take_succ_eq_append_getElem h]; simp [List.getD_eq_getElem?_getD, List.getElem?_eq_getElem h]
theorem u_or128 (y : Int) (h0 : 0 ≤ y) (h1 : y < 128) : Go.bits .or .i64 y 128 = y + 128 := by
  have hc : Go.bits .or .i64 y 128 = Go.bits .or .i64 128 y := by simp only [Go.bits, BitVec.or_comm]
  rw [hc, bits_join .i64 63 (by decide) (fun n a b => by rw [IntKind.wrap_i64]; omega) 7 128 y (by decide) (by decide) (by decide) h0 (by omega) (by omega)]
  omega
/-- The varint of a number, at most d + 1 bytes long. -/
def u_uv : Nat → Int → List Int
  | 0, n => [n]
  | d + 1, n => if 127 < n then (n % 128 + 128) :: u_uv d (n / 128) else [n]
def u_app (b : List Int) (n : Int) : List Int := if 0 ≤ n ∧ n ≤ 1000000000000 then b ++ u_uv 5 n else b
theorem u_uv_len (d : Nat) : ∀ n, 1 ≤ (u_uv d n).length ∧ (u_uv d n).length ≤ d + 1 := by
  induction d with
  | zero => intro n; simp [u_uv]
  | succ d ih =>
    intro n
    unfold u_uv
    split
    · have := ih (n / 128); simp; omega
    · simp
theorem u_uv_byte (d : Nat) : ∀ n, 0 ≤ n → n < 128 ^ (d + 1) → ∀ x ∈ u_uv d n, 0 ≤ x ∧ x ≤ 255 := by
  induction d with
  | zero => intro n h0 h1 x hx; simp [u_uv] at hx; subst hx; omega
  | succ d ih =>
    intro n h0 h1 x hx
    unfold u_uv at hx
    split at hx
    · rcases List.mem_cons.1 hx with rfl | hx
      · omega
      · refine ih (n / 128) (by omega) ?_ x hx
        rw [Int.pow_succ] at h1; omega
    · simp at hx; subst hx; omega
theorem u_app_len (b : List Int) (n : Int) : b.length ≤ (u_app b n).length ∧ (u_app b n).length ≤ b.length + 6 := by
  have := u_uv_len 5 n
  unfold u_app
  split <;> simp <;> omega
theorem u_sappuv_l (d : Nat) : ∀ (n : Int) (out : List Int), 0 ≤ n → n < 128 ^ (d + 1) → out.length + d < 140737488355000 → Ev (fun k => spec_AppendUvarint.l0 k n out) (out ++ u_uv d n) := by
  induction d with
  | zero =>
    intro n out h0 h1 hl
    refine Ev.step (f := fun _ => some (out ++ u_uv 0 n)) (fun k => ?_) (Ev.now _)
    simp only [spec_AppendUvarint.l0]
    rw [if_neg (by omega), if_pos (by omega)]
    simp only [u_uv]
    rw [Int.emod_eq_of_lt h0 (by omega)]
  | succ d ih =>
    intro n out h0 h1 hl
    by_cases hn : 127 < n
    · have e : u_uv (d + 1) n = (n % 128 + 128) :: u_uv d (n / 128) := by simp [u_uv, hn]
      have h := ih (n / 128) (out ++ [n % 128 + 128]) (by omega) (by rw [Int.pow_succ] at h1; omega) (by simp; omega)
      rw [e]
      refine Ev.step (f := fun k => spec_AppendUvarint.l0 k (n / 128) (out ++ [n % 128 + 128])) (fun k => ?_) (by simpa using h)
      simp only [spec_AppendUvarint.l0]
      rw [if_pos (by omega), if_pos (by omega), i64_and127, u_or128 _ (by omega) (by omega), Int.emod_eq_of_lt (by omega) (by omega)]
    · have e : u_uv (d + 1) n = [n] := by simp [u_uv, hn]
      rw [e]
      refine Ev.step (f := fun _ => some (out ++ [n])) (fun k => ?_) (Ev.now _)
      simp only [spec_AppendUvarint.l0]
      rw [if_neg (by omega), if_pos (by omega), Int.emod_eq_of_lt h0 (by omega)]
theorem u_sappuv (b : List Int) (n : Int) (hb : b.length ≤ 140000000000000) : Ev (fun k => spec_AppendUvarint.f k b n) (u_app b n) := by
  unfold spec_AppendUvarint.f u_app spec_l1In.f
  simp only [Option.bind_some, List.length_nil, Nat.zero_add, List.nil_append]
  refine u_ev_ite (fun _ => ?_) (fun h => absurd (by omega) h)
  by_cases h1 : 0 ≤ n
  · by_cases h2 : n ≤ 1000000000000
    · simp only [ge_iff_le, h1, h2, if_true, decide_true, Option.bind_some, and_self]
      exact u_sappuv_l 5 n b h1 (by omega) (by omega)
    · simp only [ge_iff_le, h1, h2, if_true, decide_false, Option.bind_some, and_false, if_false, Bool.false_eq_true]
      exact Ev.now _
  · simp only [ge_iff_le, h1, if_false, Option.bind_some, false_and, Bool.false_eq_true]
    exact Ev.now _
theorem u_evsucc {α : Type} {g : Nat → Option α} {r : α} (h : Ev (fun k => g (k + 1)) r) : Ev g r := by
  obtain ⟨K, hK⟩ := h
  refine ⟨K + 1, fun k hk => ?_⟩
  obtain ⟨k, rfl⟩ : ∃ m, k = m + 1 := ⟨k - 1, by omega⟩
  exact hK k (by omega)
theorem u_ev_pos {α : Type} {c : Prop} [Decidable c] {f g : Nat → Option α} {r : α} (hc : c) (h : Ev f r) : Ev (fun k => if c then f k else g k) r := by simpa [hc] using h
theorem u_ev_neg {α : Type} {c : Prop} [Decidable c] {f g : Nat → Option α} {r : α} (hc : ¬ c) (h : Ev g r) : Ev (fun k => if c then f k else g k) r := by simpa [hc] using h
theorem u_sab (x y : List Int) (hx : x.length ≤ 70000000000000) (hy : y.length ≤ 70000000000000) : Ev (fun k => spec_AppendBytes.f k x y) (u_app x y.length ++ y) := by
  unfold spec_AppendBytes.f
  have hl := u_app_len x y.length
  exact Ev.bind (u_sappuv x y.length (by omega)) (u_ev_pos (by omega) (Ev.now _))
theorem u_iappuv_l (d : Nat) : ∀ (n : Int) (out : List Int), 0 ≤ n → n < 128 ^ (d + 1) → out.length + d < 140737488355000 → Ev (fun k => impl_AppendUvarint.l0 k n out) (out ++ u_uv d n) := by
  induction d with
  | zero =>
    intro n out h0 h1 hl
    refine Ev.step (f := fun _ => some (out ++ u_uv 0 n)) (fun k => ?_) (Ev.now _)
    simp only [impl_AppendUvarint.l0]
    rw [if_neg (by omega), if_pos (by omega)]
    simp only [u_uv]
    rw [Int.emod_eq_of_lt h0 (by omega)]
  | succ d ih =>
    intro n out h0 h1 hl
    by_cases hn : 127 < n
    · have e : u_uv (d + 1) n = (n % 128 + 128) :: u_uv d (n / 128) := by simp [u_uv, hn]
      have h := ih (n / 128) (out ++ [n % 128 + 128]) (by omega) (by rw [Int.pow_succ] at h1; omega) (by simp; omega)
      rw [e]
      refine Ev.step (f := fun k => impl_AppendUvarint.l0 k (n / 128) (out ++ [n % 128 + 128])) (fun k => ?_) (by simpa using h)
      simp only [impl_AppendUvarint.l0]
      rw [if_pos (by omega), if_pos (by omega), i64_and127, Int.emod_eq_of_lt (b := 256) (by omega) (by omega), u8_or128_right _ (by omega) (by omega)]
    · have e : u_uv (d + 1) n = [n] := by simp [u_uv, hn]
      rw [e]
      refine Ev.step (f := fun _ => some (out ++ [n])) (fun k => ?_) (Ev.now _)
      simp only [impl_AppendUvarint.l0]
      rw [if_neg (by omega), if_pos (by omega), Int.emod_eq_of_lt h0 (by omega)]
theorem u_iappuv (b : List Int) (n : Int) (hb : b.length ≤ 140000000000000) : Ev (fun k => impl_AppendUvarint.f k b n) (u_app b n) := by
  unfold impl_AppendUvarint.f u_app impl_InRange.f
  simp only [Option.bind_some, List.length_nil, Nat.zero_add, List.nil_append]
  refine u_ev_ite (fun _ => ?_) (fun h => absurd (by omega) h)
  by_cases h1 : 0 ≤ n
  · by_cases h2 : n ≤ 1000000000000
    · simp only [h1, h2, if_true, decide_true, Option.bind_some, and_self]
      exact u_iappuv_l 5 n b h1 (by omega) (by omega)
    · simp only [h1, h2, if_true, decide_false, Option.bind_some, and_false, if_false, Bool.false_eq_true]
      exact Ev.now _
  · simp only [h1, if_false, Option.bind_some, false_and, Bool.false_eq_true]
    exact Ev.now _
theorem u_iab (x y : List Int) (hx : x.length ≤ 70000000000000) (hy : y.length ≤ 70000000000000) : Ev (fun k => impl_AppendBytes.f k x y) (u_app x y.length ++ y) := by
  unfold impl_AppendBytes.f
  have hl := u_app_len x y.length
  exact Ev.bind (u_iappuv x y.length (by omega)) (u_ev_pos (by omega) (Ev.now _))
theorem u_toByteS (x : List Int) (hx : x.length ≤ 1048576) : Ev (fun k => laws_toByteS.f k x) x := by
  unfold laws_toByteS.f
  simp only [show (0 : Int) ≤ (x.length : Int) by omega, if_true, Int.toNat_natCast, show x.length ≤ 281474976710656 by omega]
  have h := u_evloop (fun k i => laws_toByteS.l0 k x (x.take i ++ List.replicate (x.length - i) 0) (i : Int)) x.length x (fun i hi => ⟨0, fun k _ => ?_⟩) ⟨0, fun k _ => ?_⟩
  · simpa using h
  · simp only [laws_toByteS.l0]
    rw [if_pos (by omega), if_pos (by omega), if_pos (by simp; omega), u_w64 (by omega) (by omega), u_rd, Int.toNat_natCast, u_set_fill x 0 0 i hi]
    simp
  · simp only [laws_toByteS.l0]
    rw [if_neg (by omega)]; simp
theorem u_eqByteS (x : List Int) (hx : x.length ≤ 1152921504606846976) : Ev (fun k => laws_eqByteS.f k x x) true := by
  unfold laws_eqByteS.f
  simp only [if_true]
  refine u_evloop (fun k i => laws_eqByteS.l0 k x x (i : Int)) x.length true (fun i hi => ⟨0, fun k _ => ?_⟩) ⟨0, fun k _ => ?_⟩
  · simp only [laws_eqByteS.l0]
    rw [if_pos (by omega), if_pos (by omega), if_pos (by omega), if_pos trivial, u_w64 (by omega) (by omega)]; simp
  · simp only [laws_eqByteS.l0]
    rw [if_neg (by omega)]
theorem u_markByteS (x : List Int) (m : Int) (h0 : 0 ≤ m) (hx : m + x.length ≤ 4611686018427387904) : Ev (fun k => laws_markByteS.f k x m) (m + x.length, u_marks (· % 256) m x.length) := by
  unfold laws_markByteS.f
  have h := u_evloop (fun k i => laws_markByteS.l0 k (u_marks (· % 256) m i ++ x.drop i) (m + i) (i : Int)) x.length (m + x.length, u_marks (· % 256) m x.length) (fun i hi => ⟨0, fun k _ => ?_⟩) ⟨0, fun k _ => ?_⟩
  · simpa [u_marks] using h
  · simp only [laws_markByteS.l0]
    rw [if_pos (by simp [u_marks_len]; omega), if_pos (by omega), u_w64 (by omega) (by omega), u_w64 (by omega) (by omega), Int.toNat_natCast]
    have e := u_marks_set (· % 256) m x i hi
    rw [e, Int.add_assoc]; simp
  · simp only [laws_markByteS.l0]
    rw [if_neg (by simp [u_marks_len])]; simp
theorem u_heldByteS (n : Nat) (m : Int) (h0 : 0 ≤ m) (hx : m + n ≤ 4611686018427387904) : Ev (fun k => laws_heldByteS.f k (u_marks (· % 256) m n) m) (m + n) := by
  unfold laws_heldByteS.f
  have h := u_evloop (fun k i => laws_heldByteS.l0 k (u_marks (· % 256) m n) (m + i) (i : Int)) n (m + n) (fun i hi => ⟨0, fun k _ => ?_⟩) ⟨0, fun k _ => ?_⟩
  · simpa using h
  · simp only [laws_heldByteS.l0]
    rw [if_pos (by rw [u_marks_len]; omega), if_pos (by omega), u_rd, u_marks_get _ _ _ _ hi, if_pos rfl, u_w64 (by omega) (by omega), u_w64 (by omega) (by omega), Int.add_assoc]; simp
  · simp only [laws_heldByteS.l0]
    rw [if_neg (by rw [u_marks_len]; omega)]

theorem FnExactAppendBytes : laws_FnExactAppendBytes.Pure := by
  intro x y hx _ _ hy _ _
  refine Ev.rounds ?_
  unfold laws_FnExactAppendBytes.f
  refine u_ev_ite (fun _ => Ev.now true) fun h1 => u_ev_ite (fun _ => Ev.now true) fun h2 => ?_
  have hx1 := u_toByteS x (by omega)
  have hy1 := u_toByteS y (by omega)
  have hs := u_sab x y (by omega) (by omega)
  have hi := u_iab x y (by omega) (by omega)
  have hl := u_app_len x y.length
  have hl2 : (u_app x y.length ++ y).length = (u_app x y.length).length + y.length := by simp
  generalize u_app x y.length ++ y = r at hs hi hl2
  have heq := u_eqByteS r (by omega)
  have hex := u_eqByteS x (by omega)
  have hey := u_eqByteS y (by omega)
  have hmx := u_markByteS x 1 (by omega) (by omega)
  have hmy := u_markByteS y (1 + x.length) (by omega) (by omega)
  have hm := u_markByteS r 1 (by omega) (by omega)
  have hh := u_heldByteS r.length 1 (by omega) (by omega)
  refine Ev.bind hx1 (Ev.bind hy1 (Ev.bind hs (Ev.bind hx1 (Ev.bind hy1 (Ev.bind hi (Ev.bind heq (u_ev_pos (by trivial) ?_)))))))
  refine Ev.bind hx1 (Ev.bind hex (u_ev_pos (by trivial) (Ev.bind hy1 (Ev.bind hey (u_ev_pos (by trivial) ?_)))))
  refine Ev.bind hmx (Ev.bind hmy (u_ev_neg ?_ (Ev.bind heq ?_)))
  · first | omega | (dsimp only; omega)
  refine u_evsucc ?_
  simp only [laws_FnExactAppendBytes.j0, Bool.not_true, Bool.false_eq_true, if_false]
  refine Ev.bind hm (Ev.bind hh (u_ev_neg ?_ (u_ev_pos ?_ (Ev.bind hx1 (Ev.bind hy1 (Ev.bind hi (Ev.bind heq (u_ev_pos (by trivial) (Ev.bind hh (u_ev_neg ?_ (u_ev_pos ?_ (Ev.now true)))))))))))) <;> first | omega | (dsimp only; omega)

end Go.Proofs.Ytolepbdmbedloaa.Pure
