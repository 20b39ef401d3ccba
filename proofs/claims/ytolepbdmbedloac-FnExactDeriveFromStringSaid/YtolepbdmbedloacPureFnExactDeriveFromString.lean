/- FnExactDeriveFromString returns true for every salt and label; no condition. -/
import Derived.Laws.Bits128
import Derived.Test.YtolepbdmbedloacHFnExactDeriveFromStringx1
namespace Go.Proofs.Ytolepbdmbedloac.Pure
open Go.RowKit Go.Proofs.Ytolepbdmbedloac.HFnExactDeriveFromString Go.Proofs.YtolepbdmbedloacW.PrintWords Go.Proofs.YtolepbdmbedloacW.PrintLast
set_option linter.unusedVariables false
set_option linter.unusedSimpArgs false

theorem u_evloop {ρ : Type} (g : Nat → Nat → Option ρ) (n : Nat) (r : ρ) (hs : ∀ i, i < n → ∃ K, ∀ k, K ≤ k → g (k + 1) i = g k (i + 1)) (he : ∃ K, ∀ k, K ≤ k → g (k + 1) n = some r) : Ev (fun k => g k 0) r := by
  have h : ∀ d i, i + d = n → Ev (fun k => g k i) r := by
    intro d
    induction d with
    | zero =>
      intro i hi
      obtain ⟨K, hK⟩ := he
      refine ⟨K + 1, fun k hk => ?_⟩
      obtain ⟨k, rfl⟩ : ∃ m, k = m + 1 := ⟨k - 1, by omega⟩
      obtain rfl : i = n := by omega
      exact hK k (by omega)
    | succ d ih =>
      intro i hi
      obtain ⟨K, hK⟩ := hs i (by omega)
      obtain ⟨L, hL⟩ := ih (i + 1) (by omega)
      refine ⟨K + L + 1, fun k hk => ?_⟩
      obtain ⟨k, rfl⟩ : ∃ m, k = m + 1 := ⟨k - 1, by omega⟩
      show g (k + 1) i = some r
      rw [hK k (by omega)]
      exact hL k (by omega)
  exact h n 0 (by omega)
theorem u_ev_ite {α : Type} {c : Prop} [Decidable c] {f g : Nat → Option α} {r : α} (h1 : c → Ev f r) (h2 : ¬ c → Ev g r) : Ev (fun k => if c then f k else g k) r := by
  by_cases h : c
  · simpa [h] using h1 h
  · simpa [h] using h2 h
theorem u_w64 {x : Int} (h1 : -9223372036854775808 ≤ x) (h2 : x ≤ 9223372036854775807) : wrap64 x = x := by unfold wrap64; omega
theorem u_rd (xs : List Int) (i : Nat) : rd xs (i : Int) = xs.getD i 0 := by simp [rd]
theorem u_set_fill {α : Type} (xs : List α) (z d : α) (i : Nat) (h : i < xs.length) : (xs.take i ++ List.replicate (xs.length - i) z).set i (xs.getD i d) = xs.take (i + 1) ++ List.replicate (xs.length - (i + 1)) z := by
  apply List.ext_getElem?
  intro j
  have hl : (xs.take i).length = i := by simp; omega
  rcases Nat.lt_trichotomy j i with h1 | h1 | h1
  · rw [List.getElem?_set_ne (by omega), List.getElem?_append_left (by omega), List.getElem?_append_left (by simp; omega)]
    simp [List.getElem?_take, h1, show j < i + 1 by omega]
  · subst h1
    rw [List.getElem?_set_self (by simp; omega), List.getElem?_append_left (by simp; omega)]
    simp [List.getElem?_take, List.getD_eq_getElem?_getD, List.getElem?_eq_getElem h]
  · rw [List.getElem?_set_ne (by omega), List.getElem?_append_right (by omega), List.getElem?_append_right (by simp; omega)]
    simp only [List.getElem?_replicate, hl, List.length_take]
    have e : min (i + 1) xs.length = i + 1 := by omega
    rw [e]
    by_cases h2 : j < xs.length
    · rw [if_pos (by omega), if_pos (by omega)]
    · rw [if_neg (by omega), if_neg (by omega)]
/-- What mark writes: the counters from k on. -/
def u_marks (f : Int → Int) (k : Int) (n : Nat) : List Int := (List.range n).map fun i : Nat => f (k + (i : Int))
theorem u_marks_len (f : Int → Int) (k : Int) (n : Nat) : (u_marks f k n).length = n := by simp [u_marks]
theorem u_marks_get (f : Int → Int) (k : Int) (n i : Nat) (h : i < n) : (u_marks f k n).getD i 0 = f (k + i) := by simp [u_marks, List.getD_eq_getElem?_getD, List.getElem?_map, List.getElem?_range h]
theorem u_marks_set (f : Int → Int) (k : Int) (xs : List Int) (i : Nat) (h : i < xs.length) : (u_marks f k i ++ xs.drop i).set i (f (k + i)) = u_marks f k (i + 1) ++ xs.drop (i + 1) := by
  have e : u_marks f k (i + 1) = u_marks f k i ++ [f (k + i)] := by simp [u_marks, List.range_succ]
  rw [e, List.set_append_right _ _ (by rw [u_marks_len]; omega), u_marks_len, Nat.sub_self, List.append_assoc]
  congr 1
  rw [List.drop_eq_getElem_cons h]
  rfl
theorem u_take_succ {α : Type} (xs : List α) (d : α) (i : Nat) (h : i < xs.length) : xs.take (i + 1) = xs.take i ++ [xs.getD i d] := by
  rw [List.take_succ_eq_append_getElem h]; simp [List.getD_eq_getElem?_getD, List.getElem?_eq_getElem h]
theorem u_tmod_add (p : Int) {q : Int} (hq : 0 < q) : (p.tmod q + q).tmod q = p % q := by
  have h1 := Int.tmod_lt_of_pos p hq
  have h2 : -q < p.tmod q := by
    rcases Int.le_total 0 p with h | h
    · have := Int.tmod_nonneg q h; omega
    · have h3 : (-p).tmod q = -(p.tmod q) := Int.neg_tmod _ _
      have h4 := Int.tmod_lt_of_pos (-p) hq
      omega
  rw [Int.tmod_eq_emod_of_nonneg (by omega), Int.add_emod_right]
  have := Int.tmod_eq_emod (a := p) (b := q)
  rw [this]
  split
  · simp
  · rw [Int.sub_emod]
    have : ((q.natAbs : Int)) % q = 0 := by
      have : (q.natAbs : Int) = q := by omega
      rw [this]; exact Int.emod_self
    rw [this]; simp
theorem u_tmod_fix (p : Int) {q : Int} (hq : 0 < q) : (if p.tmod q < 0 then p.tmod q + q else p.tmod q) = p % q := by
  have h1 := Int.tmod_lt_of_pos p hq
  have h2 : -q < p.tmod q := by
    rcases Int.le_total 0 p with h | h
    · have := Int.tmod_nonneg q h; omega
    · have h3 : (-p).tmod q = -(p.tmod q) := Int.neg_tmod _ _
      have h4 := Int.tmod_lt_of_pos (-p) hq
      omega
  have h3 := u_tmod_add p hq
  split
  · rw [Int.tmod_eq_emod_of_nonneg (by omega)] at h3
    rw [← h3, Int.emod_eq_of_lt (by omega) (by omega)]
  · rw [Int.tmod_eq_emod_of_nonneg (by omega), Int.add_emod_right, Int.emod_eq_of_lt (by omega) (by omega)] at h3
    exact h3
theorem u_tmod_bd (p : Int) {q : Int} (hq : 0 < q) : -q < p.tmod q ∧ p.tmod q < q := by
  have h1 := Int.tmod_lt_of_pos p hq
  refine ⟨?_, h1⟩
  rcases Int.le_total 0 p with h | h
  · have := Int.tmod_nonneg q h; omega
  · have h3 : (-p).tmod q = -(p.tmod q) := Int.neg_tmod _ _
    have h4 := Int.tmod_lt_of_pos (-p) hq
    omega
def u_step (d v : Int) : Int := (d * 1000003 + v % 2147483647 + 13) % 2147483647
def u_hashed (x : List Int) : Int := x.foldl u_step 11
theorem u_step_bd (d v : Int) : 0 ≤ u_step d v ∧ u_step d v < 2147483647 := by unfold u_step; omega
theorem u_fold_bd (x : List Int) : ∀ d, 0 ≤ d → d < 2147483647 → 0 ≤ x.foldl u_step d ∧ x.foldl u_step d < 2147483647 := by
  induction x with
  | nil => intro d h0 h1; exact ⟨h0, h1⟩
  | cons v x ih => intro d _ _; exact ih _ (u_step_bd d v).1 (u_step_bd d v).2
theorem u_step_go (d v : Int) (h0 : 0 ≤ d) (h1 : d < 2147483647) : Int.tmod (wrap64 ((wrap64 ((wrap64 (d * 1000003)) + (v % 2147483647))) + 13)) 2147483647 = u_step d v := by
  rw [u_w64 (x := d * 1000003) (by omega) (by omega), u_w64 (x := d * 1000003 + v % 2147483647) (by omega) (by omega), u_w64 (by omega) (by omega), Int.tmod_eq_emod_of_nonneg (by omega)]
  rfl
theorem u_fold_take (x : List Int) (d : Int) (i : Nat) (h : i < x.length) : (x.take (i + 1)).foldl u_step d = u_step ((x.take i).foldl u_step d) (x.getD i 0) := by
  rw [u_take_succ x 0 i h, List.foldl_append]; rfl
theorem u_smod (a : Int) {q : Int} (h1 : 1 ≤ q) (h2 : q ≤ 1000000000000) : spec_Mod.f a q = some (a % q) := by
  unfold spec_Mod.f spec_l1In.f
  have hb := u_tmod_bd a (q := q) (by omega)
  simp only [ge_iff_le, h1, if_true, h2, decide_true, Option.bind_some, show ¬ q = 0 by omega, if_false]
  rw [u_w64 (by omega) (by omega), u_tmod_add a (by omega)]
theorem u_smod0 (a : Int) {q : Int} (h : q < 1 ∨ 1000000000000 < q) : spec_Mod.f a q = some 0 := by
  unfold spec_Mod.f spec_l1In.f
  by_cases h1 : 1 ≤ q
  · simp [h1, show ¬ q ≤ 1000000000000 by omega]
  · simp [h1]
theorem u_shash (x : List Int) (hx : x.length ≤ 1099511627776) : Ev (fun k => spec_Hash.f k x) (u_hashed x) := by
  unfold spec_Hash.f
  have h := u_evloop (fun k i => spec_Hash.l0 k x ((x.take i).foldl u_step 11) (i : Int)) x.length (u_hashed x) (fun i hi => ⟨0, fun k _ => ?_⟩) ⟨0, fun k _ => ?_⟩
  · simpa using h
  · have hb := u_fold_bd (x.take i) 11 (by omega) (by omega)
    simp only [spec_Hash.l0]
    rw [if_pos (by omega), if_pos (by omega), u_smod _ (by omega) (by omega)]
    simp only [Option.bind_some]
    rw [u_step_go _ _ hb.1 hb.2, u_rd, ← u_fold_take x 11 i hi, u_w64 (by omega) (by omega)]; simp
  · simp only [spec_Hash.l0]
    rw [if_neg (by omega)]; simp [u_hashed]
theorem u_evsucc {α : Type} {g : Nat → Option α} {r : α} (h : Ev (fun k => g (k + 1)) r) : Ev g r := by
  obtain ⟨K, hK⟩ := h
  refine ⟨K + 1, fun k hk => ?_⟩
  obtain ⟨k, rfl⟩ : ∃ m, k = m + 1 := ⟨k - 1, by omega⟩
  exact hK k (by omega)
theorem u_ev_pos {α : Type} {c : Prop} [Decidable c] {f g : Nat → Option α} {r : α} (hc : c) (h : Ev f r) : Ev (fun k => if c then f k else g k) r := by simpa [hc] using h
theorem u_ev_neg {α : Type} {c : Prop} [Decidable c] {f g : Nat → Option α} {r : α} (hc : ¬ c) (h : Ev g r) : Ev (fun k => if c then f k else g k) r := by simpa [hc] using h
theorem u_skhash (a : Int) (l : List Int) (hx : l.length ≤ 1099511627000) : Ev (fun k => spec_KeyedHash.f k a l) (u_hashed (a :: l ++ [a])) := by
  unfold spec_KeyedHash.f
  simp only [Option.bind_some]
  refine u_ev_pos (by simp; omega) (u_ev_pos (by simp; omega) ?_)
  exact Ev.bind (u_shash (a :: l ++ [a]) (by simp; omega)) (Ev.now _)
theorem u_imod (a : Int) {q : Int} (h1 : 1 ≤ q) (h2 : q ≤ 1000000000000) : impl_Mod.f a q = some (a % q) := by
  unfold impl_Mod.f impl_InRange.f
  have hb := u_tmod_bd a (q := q) (by omega)
  simp only [h1, if_true, h2, decide_true, Option.bind_some, show ¬ q = 0 by omega, if_false]
  rw [u_w64 (by omega) (by omega), ← u_tmod_fix a (q := q) (by omega)]
  split <;> rfl
theorem u_imod0 (a : Int) {q : Int} (h : q < 1 ∨ 1000000000000 < q) : impl_Mod.f a q = some 0 := by
  unfold impl_Mod.f impl_InRange.f
  by_cases h1 : 1 ≤ q
  · simp [h1, show ¬ q ≤ 1000000000000 by omega]
  · simp [h1]
theorem u_ifold (d v : Int) (h0 : 0 ≤ d) (h1 : d < 2147483647) : impl_fold.f d v = some (u_step d v) := by
  unfold impl_fold.f
  rw [u_imod _ (by omega) (by omega)]
  simp only [Option.bind_some]
  rw [u_step_go _ _ h0 h1]
theorem u_ikhash (a : Int) (x : List Int) (hx : x.length ≤ 1099511627776) : Ev (fun k => impl_KeyedHash.f k a x) (u_hashed (a :: x ++ [a])) := by
  unfold impl_KeyedHash.f
  rw [u_ifold _ _ (by omega) (by omega)]
  simp only [Option.bind_some]
  have h := u_evloop (fun k i => impl_KeyedHash.l0 k a ((x.take i).foldl u_step (u_step 11 a)) x x.length (i : Int)) x.length (u_hashed (a :: x ++ [a])) (fun i hi => ⟨0, fun k _ => ?_⟩) ⟨0, fun k _ => ?_⟩
  · simpa using h
  · have hb := u_fold_bd (x.take i) (u_step 11 a) (u_step_bd _ _).1 (u_step_bd _ _).2
    simp only [impl_KeyedHash.l0]
    rw [if_pos (by omega), if_pos (by omega), if_pos (by omega), u_ifold _ _ hb.1 hb.2]
    simp only [Option.bind_some]
    rw [u_rd, ← u_fold_take x (u_step 11 a) i hi, u_w64 (by omega) (by omega)]; simp
  · have hb := u_fold_bd x (u_step 11 a) (u_step_bd _ _).1 (u_step_bd _ _).2
    simp only [impl_KeyedHash.l0]
    rw [if_neg (by omega), List.take_of_length_le (by omega), u_ifold _ _ hb.1 hb.2]
    simp [u_hashed, List.foldl_append]
/-- Reading a varint: at most d bytes more, from byte i on; n: what has been read. -/
def u_rdv (x : List Int) (a : Int) : Nat → Nat → Int → Int × Int × Bool
  | 0, _, _ => (0, 0, false)
  | d + 1, i, n => if (x.length : Int) ≤ a + i then (0, 0, false) else
      if rd x (a + i) < 128 then (if (0 < i ∧ rd x (a + i) = 0) ∨ 1000000000000 < n + rd x (a + i) % 128 * 128 ^ i then (0, 0, false) else (n + rd x (a + i) % 128 * 128 ^ i, a + i + 1, true))
      else u_rdv x a d (i + 1) (n + rd x (a + i) % 128 * 128 ^ i)
def u_read (x : List Int) (a : Int) : Int × Int × Bool := if a < 0 then (0, 0, false) else u_rdv x a 6 0 0
theorem u_orshl (i : Nat) (hi : i < 6) (n c : Int) (h0 : 0 ≤ n) (h1 : n < 128 ^ i) (h2 : 0 ≤ c) (h3 : c < 128) : Go.bits .or .i64 n (shl .i64 c (7 * (i : Int))) = n + c * 128 ^ i := by
  have hp : (128 : Int) ^ i ≤ 128 ^ 5 := by
    rcases (show i = 0 ∨ i = 1 ∨ i = 2 ∨ i = 3 ∨ i = 4 ∨ i = 5 by omega) with rfl | rfl | rfl | rfl | rfl | rfl <;> decide
  have hs : shl .i64 c (7 * (i : Int)) = c * 128 ^ i := by
    unfold shl
    rcases (show i = 0 ∨ i = 1 ∨ i = 2 ∨ i = 3 ∨ i = 4 ∨ i = 5 by omega) with rfl | rfl | rfl | rfl | rfl | rfl <;> (simp [IntKind.bits]; rw [IntKind.wrap_i64]; omega)
  have hc : ∀ y : Int, Go.bits .or .i64 n y = Go.bits .or .i64 y n := fun y => by simp only [Go.bits, BitVec.or_comm]
  rw [hs, hc]
  have hm : (c * 128 ^ i) % 2 ^ (7 * i) = 0 := by
    rcases (show i = 0 ∨ i = 1 ∨ i = 2 ∨ i = 3 ∨ i = 4 ∨ i = 5 by omega) with rfl | rfl | rfl | rfl | rfl | rfl <;> (simp <;> omega)
  have hn : n < 2 ^ (7 * i) := by
    rcases (show i = 0 ∨ i = 1 ∨ i = 2 ∨ i = 3 ∨ i = 4 ∨ i = 5 by omega) with rfl | rfl | rfl | rfl | rfl | rfl <;> simpa using h1
  have hb : 0 ≤ c * 128 ^ i ∧ c * 128 ^ i < 2 ^ 63 := by
    rcases (show i = 0 ∨ i = 1 ∨ i = 2 ∨ i = 3 ∨ i = 4 ∨ i = 5 by omega) with rfl | rfl | rfl | rfl | rfl | rfl <;> (simp <;> omega)
  rw [bits_join .i64 63 (by decide) (fun n a b => by rw [IntKind.wrap_i64]; omega) (7 * i) _ n hb.1 hm hb.2 h0 hn (by omega)]
  omega
theorem u_pow_step (i : Nat) (hi : i < 6) (n c : Int) (h0 : 0 ≤ n) (h1 : n < 128 ^ i) (h2 : 0 ≤ c) (h3 : c < 128) : 0 ≤ n + c * 128 ^ i ∧ n + c * 128 ^ i < 128 ^ (i + 1) := by
  rcases (show i = 0 ∨ i = 1 ∨ i = 2 ∨ i = 3 ∨ i = 4 ∨ i = 5 by omega) with rfl | rfl | rfl | rfl | rfl | rfl <;> (simp at * <;> omega)
def u_bytes (x : List Int) : Prop := ∀ i : Int, 0 ≤ rd x i ∧ rd x i ≤ 255
theorem u_bytes_of (x : List Int) (h : ∀ y ∈ x, 0 ≤ y ∧ y ≤ 255) : u_bytes x := by
  intro i
  unfold rd
  rw [List.getD_eq_getElem?_getD]
  by_cases hi : i.toNat < x.length
  · rw [List.getElem?_eq_getElem hi]; exact h _ (List.getElem_mem hi)
  · rw [List.getElem?_eq_none (by omega)]; simp
theorem u_wf8 (x : List Int) (h : ∀ y ∈ x, (Lit.int .u8 y).wf = true) : ∀ y ∈ x, 0 ≤ y ∧ y ≤ 255 := by
  intro y hy
  have := h y hy
  simp [Lit.wf, IntKind.min, IntKind.max, IntKind.bits, IntKind.signed] at this
  exact this
theorem u_sbti (x : List Int) (hx : x.length ≤ 1099511627776) (hb : u_bytes x) : Ev (fun k => spec_BytesToInts.f k x) ((x.length : Int) :: x) := by
  unfold spec_BytesToInts.f
  have h := u_evloop (fun k i => spec_BytesToInts.l0 k x ((x.length : Int) :: x.take i) (i : Int)) x.length ((x.length : Int) :: x) (fun i hi => ⟨0, fun k _ => ?_⟩) ⟨0, fun k _ => ?_⟩
  · simpa using h
  · have hc := hb i
    simp only [spec_BytesToInts.l0]
    rw [if_pos (by omega), if_pos (by omega), if_pos (by simp; omega), u_w64 (by omega) (by omega), u_w64 (by omega) (by omega), u_rd, u_take_succ x 0 i hi]
    simp
  · simp only [spec_BytesToInts.l0]
    rw [if_neg (by omega)]; simp
theorem u_ibti (x : List Int) (hx : x.length ≤ 1099511627776) (hb : u_bytes x) : Ev (fun k => impl_BytesToInts.f k x) ((x.length : Int) :: x) := by
  unfold impl_BytesToInts.f
  have h := u_evloop (fun k i => impl_BytesToInts.l0 k ((x.length : Int) :: x.take i) x x.length (i : Int)) x.length ((x.length : Int) :: x) (fun i hi => ⟨0, fun k _ => ?_⟩) ⟨0, fun k _ => ?_⟩
  · simpa using h
  · have hc := hb i
    simp only [impl_BytesToInts.l0]
    rw [if_pos (by omega), if_pos (by omega), if_pos (by omega), if_pos (by simp; omega), u_w64 (by omega) (by omega), u_w64 (by omega) (by omega), u_rd, u_take_succ x 0 i hi]
    simp
  · simp only [impl_BytesToInts.l0]
    rw [if_neg (by omega)]; simp
theorem u_str_cons (c : Int) (L : List Int) : strOfNums [c] ++ strOfNums L = strOfNums (c :: L) := by
  apply ByteArray.ext
  rw [ByteArray.data_append]
  simp [strOfNums]
theorem u_str_size (L : List Int) : (strOfNums L).size = L.length := strOfNums_size L
theorem u_bytesOf_range (s : ByteArray) : ∀ x ∈ bytesOf s, 0 ≤ x ∧ x ≤ 255 := by
  intro x hx
  unfold bytesOf at hx
  obtain ⟨b, _, rfl⟩ := List.mem_map.1 hx
  have := b.toNat_lt
  omega
theorem u_str_eq (L : List Int) (s : ByteArray) (hL : ∀ x ∈ L, 0 ≤ x ∧ x ≤ 255) : (strOfNums L).toList = s.toList ↔ L = bytesOf s := by
  rw [ByteArray.toList_eq, ByteArray.toList_eq, strOfNums_data]
  unfold bytesOf
  constructor
  · intro h
    rw [← h, List.map_map]
    symm
    rw [List.map_congr_left (g := id)]
    · simp
    · intro x hx
      have := hL x hx
      simp only [Function.comp, id]
      rw [UInt8.toNat_ofNat']
      omega
  · intro h
    rw [h, List.map_map]
    conv => rhs; rw [← List.map_id s.data.toList]
    apply List.map_congr_left
    intro b _
    simp

theorem FnExactDeriveFromString : laws_FnExactDeriveFromString.Pure := by
  intro a s _ _
  refine Ev.rounds ?_
  unfold laws_FnExactDeriveFromString.f
  refine u_ev_ite (fun _ => Ev.now true) fun h1 => ?_
  have hb : u_bytes (bytesOf s) := u_bytes_of _ (u_bytesOf_range s)
  have hl : (bytesOf s).length = s.size := bytesOf_length s
  have h2 := u_fold_bd (a :: (((bytesOf s).length : Int) :: bytesOf s) ++ [a]) 11 (by omega) (by omega)
  have h3 : 0 ≤ u_hashed (a :: (((bytesOf s).length : Int) :: bytesOf s) ++ [a]) := h2.1
  have hk1 := u_skhash a (((bytesOf s).length : Int) :: bytesOf s) (by simp only [List.length_cons]; omega)
  have hk2 := u_ikhash a (((bytesOf s).length : Int) :: bytesOf s) (by simp only [List.length_cons]; omega)
  generalize u_hashed (a :: (((bytesOf s).length : Int) :: bytesOf s) ++ [a]) = h at h3 hk1 hk2
  have hS : Ev (fun k => spec_DeriveFromString.f k a s) (if h = 0 then 1 else h) := by
    unfold spec_DeriveFromString.f
    refine Ev.bind (u_sbti _ (by omega) hb) (Ev.bind hk1 ?_)
    refine ⟨0, fun k _ => ?_⟩
    simp only [spec_Max.f]
    by_cases h0 : h > 1
    · rw [if_pos h0, if_neg (by omega)]; rfl
    · rw [if_neg h0]
      by_cases h4 : h = 0
      · rw [if_pos h4]; rfl
      · rw [if_neg h4]; simp; omega
  have hI : Ev (fun k => impl_DeriveFromString.f k a s) (if h = 0 then 1 else h) := by
    unfold impl_DeriveFromString.f
    refine Ev.bind (u_ibti _ (by omega) hb) (Ev.bind hk2 ?_)
    refine ⟨0, fun k _ => ?_⟩
    by_cases h4 : h = 0
    · simp only [if_pos h4]
    · simp only [if_neg h4]
  exact Ev.bind hS (Ev.bind hI (u_ev_pos rfl (Ev.now true)))

end Go.Proofs.Ytolepbdmbedloac.Pure
