/- FnKeyedHash returns true for every byte slice; no condition. -/
import Derived.Laws.Bits128
import Derived.Test.YtolepbdmbedloacHFnKeyedHashx3
namespace Go.Proofs.Ytolepbdmbedloac.Pure
open Go.RowKit Go.Proofs.Ytolepbdmbedloac.PFnKeyedHash Go.Proofs.YtolepbdmbedloacW.PrintWords Go.Proofs.YtolepbdmbedloacW.PrintLast
set_option linter.unusedVariables false
set_option linter.unusedSimpArgs false

theorem u_evloop {ρ : Type} (g : Nat → Nat → Option ρ) (n : Nat) (r : ρ) (hs : ∀ i, i < n → ∃ K, ∀ k, K ≤ k → g (k + 1) i = g k (i + 1)) (he : ∃ K, ∀ k, K ≤ k → g (k + 1) n = some r) : Ev (fun k => g k 0) r := by
  have h : ∀ d i, i + d = n → Ev (fun k => g k i) r := by
    intro d
    induction d with
    | zero =>
      intro i hi
      obtain ⟨K, hK⟩ := he
      refine ⟨K + 1, fun k hk => ?_⟩
      obtain ⟨k, rfl⟩ : ∃ m, k = m + 1 := ⟨k - 1, by omega⟩
      obtain rfl : i = n := by omega
      exact hK k (by omega)
    | succ d ih =>
      intro i hi
      obtain ⟨K, hK⟩ := hs i (by omega)
      obtain ⟨L, hL⟩ := ih (i + 1) (by omega)
      refine ⟨K + L + 1, fun k hk => ?_⟩
      obtain ⟨k, rfl⟩ : ∃ m, k = m + 1 := ⟨k - 1, by omega⟩
      show g (k + 1) i = some r
      rw [hK k (by omega)]
      exact hL k (by omega)
  exact h n 0 (by omega)
theorem u_ev_ite {α : Type} {c : Prop} [Decidable c] {f g : Nat → Option α} {r : α} (h1 : c → Ev f r) (h2 : ¬ c → Ev g r) : Ev (fun k => if c then f k else g k) r := by
  by_cases h : c
  · simpa [h] using h1 h
  · simpa [h] using h2 h
theorem u_w64 {x : Int} (h1 : -9223372036854775808 ≤ x) (h2 : x ≤ 9223372036854775807) : wrap64 x = x := by unfold wrap64; omega
theorem u_rd (xs : List Int) (i : Nat) : rd xs (i : Int) = xs.getD i 0 := by simp [rd]
theorem u_set_fill {α : Type} (xs : List α) (z d : α) (i : Nat) (h : i < xs.length) : (xs.take i ++ List.replicate (xs.length - i) z).set i (xs.getD i d) = xs.take (i + 1) ++ List.replicate (xs.length - (i + 1)) z := by
  apply List.ext_getElem?
  intro j
  have hl : (xs.take i).length = i := by simp; omega
  rcases Nat.lt_trichotomy j i with h1 | h1 | h1
  · rw [List.getElem?_set_ne (by omega), List.getElem?_append_left (by omega), List.getElem?_append_left (by simp; omega)]
    simp [List.getElem?_take, h1, show j < i + 1 by omega]
  · subst h1
    rw [List.getElem?_set_self (by simp; omega), List.getElem?_append_left (by simp; omega)]
    simp [List.getElem?_take, List.getD_eq_getElem?_getD, List.getElem?_eq_getElem h]
  · rw [List.getElem?_set_ne (by omega), List.getElem?_append_right (by omega), List.getElem?_append_right (by simp; omega)]
    simp only [List.getElem?_replicate, hl, List.length_take]
    have e : min (i + 1) xs.length = i + 1 := by omega
    rw [e]
    by_cases h2 : j < xs.length
    · rw [if_pos (by omega), if_pos (by omega)]
    · rw [if_neg (by omega), if_neg (by omega)]
/-- What mark writes: the counters from k on. -/
def u_marks (f : Int → Int) (k : Int) (n : Nat) : List Int := (List.range n).map fun i : Nat => f (k + (i : Int))
theorem u_marks_len (f : Int → Int) (k : Int) (n : Nat) : (u_marks f k n).length = n := by simp [u_marks]
theorem u_marks_get (f : Int → Int) (k : Int) (n i : Nat) (h : i < n) : (u_marks f k n).getD i 0 = f (k + i) := by simp [u_marks, List.getD_eq_getElem?_getD, List.getElem?_map, List.getElem?_range h]
theorem u_marks_set (f : Int → Int) (k : Int) (xs : List Int) (i : Nat) (h : i < xs.length) : (u_marks f k i ++ xs.drop i).set i (f (k + i)) = u_marks f k (i + 1) ++ xs.drop (i + 1) := by
  have e : u_marks f k (i + 1) = u_marks f k i ++ [f (k + i)] := by simp [u_marks, List.range_succ]
  rw [e, List.set_append_right _ _ (by rw [u_marks_len]; omega), u_marks_len, Nat.sub_self, List.append_assoc]
  congr 1
  rw [List.drop_eq_getElem_cons h]
  rfl
theorem u_take_succ {α : Type} (xs : List α) (d : α) (i : Nat) (h : i < xs.length) : xs.take (i + 1) = xs.take i ++ [xs.getD i d] := by
  rw [List.take_succ_eq_append_getElem h]; simp [List.getD_eq_getElem?_getD, List.getElem?_eq_getElem h]
theorem u_tmod_add (p : Int) {q : Int} (hq : 0 < q) : (p.tmod q + q).tmod q = p % q := by
  have h1 := Int.tmod_lt_of_pos p hq
  have h2 : -q < p.tmod q := by
    rcases Int.le_total 0 p with h | h
    · have := Int.tmod_nonneg q h; omega
    · have h3 : (-p).tmod q = -(p.tmod q) := Int.neg_tmod _ _
      have h4 := Int.tmod_lt_of_pos (-p) hq
      omega
  rw [Int.tmod_eq_emod_of_nonneg (by omega), Int.add_emod_right]
  have := Int.tmod_eq_emod (a := p) (b := q)
  rw [this]
  split
  · simp
  · rw [Int.sub_emod]
    have : ((q.natAbs : Int)) % q = 0 := by
      have : (q.natAbs : Int) = q := by omega
      rw [this]; exact Int.emod_self
    rw [this]; simp
theorem u_tmod_fix (p : Int) {q : Int} (hq : 0 < q) : (if p.tmod q < 0 then p.tmod q + q else p.tmod q) = p % q := by
  have h1 := Int.tmod_lt_of_pos p hq
  have h2 : -q < p.tmod q := by
    rcases Int.le_total 0 p with h | h
    · have := Int.tmod_nonneg q h; omega
    · have h3 : (-p).tmod q = -(p.tmod q) := Int.neg_tmod _ _
      have h4 := Int.tmod_lt_of_pos (-p) hq
      omega
  have h3 := u_tmod_add p hq
  split
  · rw [Int.tmod_eq_emod_of_nonneg (by omega)] at h3
    rw [← h3, Int.emod_eq_of_lt (by omega) (by omega)]
  · rw [Int.tmod_eq_emod_of_nonneg (by omega), Int.add_emod_right, Int.emod_eq_of_lt (by omega) (by omega)] at h3
    exact h3
theorem u_tmod_bd (p : Int) {q : Int} (hq : 0 < q) : -q < p.tmod q ∧ p.tmod q < q := by
  have h1 := Int.tmod_lt_of_pos p hq
  refine ⟨?_, h1⟩
  rcases Int.le_total 0 p with h | h
  · have := Int.tmod_nonneg q h; omega
  · have h3 : (-p).tmod q = -(p.tmod q) := Int.neg_tmod _ _
    have h4 := Int.tmod_lt_of_pos (-p) hq
    omega
def u_step (d v : Int) : Int := (d * 1000003 + v % 2147483647 + 13) % 2147483647
def u_hashed (x : List Int) : Int := x.foldl u_step 11
theorem u_step_bd (d v : Int) : 0 ≤ u_step d v ∧ u_step d v < 2147483647 := by unfold u_step; omega
theorem u_fold_bd (x : List Int) : ∀ d, 0 ≤ d → d < 2147483647 → 0 ≤ x.foldl u_step d ∧ x.foldl u_step d < 2147483647 := by
  induction x with
  | nil => intro d h0 h1; exact ⟨h0, h1⟩
  | cons v x ih => intro d _ _; exact ih _ (u_step_bd d v).1 (u_step_bd d v).2
theorem u_step_go (d v : Int) (h0 : 0 ≤ d) (h1 : d < 2147483647) : Int.tmod (wrap64 ((wrap64 ((wrap64 (d * 1000003)) + (v % 2147483647))) + 13)) 2147483647 = u_step d v := by
  rw [u_w64 (x := d * 1000003) (by omega) (by omega), u_w64 (x := d * 1000003 + v % 2147483647) (by omega) (by omega), u_w64 (by omega) (by omega), Int.tmod_eq_emod_of_nonneg (by omega)]
  rfl
theorem u_fold_take (x : List Int) (d : Int) (i : Nat) (h : i < x.length) : (x.take (i + 1)).foldl u_step d = u_step ((x.take i).foldl u_step d) (x.getD i 0) := by
  rw [u_take_succ x 0 i h, List.foldl_append]; rfl
theorem u_imod (a : Int) {q : Int} (h1 : 1 ≤ q) (h2 : q ≤ 1000000000000) : impl_Mod.f a q = some (a % q) := by
  unfold impl_Mod.f impl_InRange.f
  have hb := u_tmod_bd a (q := q) (by omega)
  simp only [h1, if_true, h2, decide_true, Option.bind_some, show ¬ q = 0 by omega, if_false]
  rw [u_w64 (by omega) (by omega), ← u_tmod_fix a (q := q) (by omega)]
  split <;> rfl
theorem u_imod0 (a : Int) {q : Int} (h : q < 1 ∨ 1000000000000 < q) : impl_Mod.f a q = some 0 := by
  unfold impl_Mod.f impl_InRange.f
  by_cases h1 : 1 ≤ q
  · simp [h1, show ¬ q ≤ 1000000000000 by omega]
  · simp [h1]
theorem u_ifold (d v : Int) (h0 : 0 ≤ d) (h1 : d < 2147483647) : impl_fold.f d v = some (u_step d v) := by
  unfold impl_fold.f
  rw [u_imod _ (by omega) (by omega)]
  simp only [Option.bind_some]
  rw [u_step_go _ _ h0 h1]
theorem u_ikhash (a : Int) (x : List Int) (hx : x.length ≤ 1099511627776) : Ev (fun k => impl_KeyedHash.f k a x) (u_hashed (a :: x ++ [a])) := by
  unfold impl_KeyedHash.f
  rw [u_ifold _ _ (by omega) (by omega)]
  simp only [Option.bind_some]
  have h := u_evloop (fun k i => impl_KeyedHash.l0 k a ((x.take i).foldl u_step (u_step 11 a)) x x.length (i : Int)) x.length (u_hashed (a :: x ++ [a])) (fun i hi => ⟨0, fun k _ => ?_⟩) ⟨0, fun k _ => ?_⟩
  · simpa using h
  · have hb := u_fold_bd (x.take i) (u_step 11 a) (u_step_bd _ _).1 (u_step_bd _ _).2
    simp only [impl_KeyedHash.l0]
    rw [if_pos (by omega), if_pos (by omega), if_pos (by omega), u_ifold _ _ hb.1 hb.2]
    simp only [Option.bind_some]
    rw [u_rd, ← u_fold_take x (u_step 11 a) i hi, u_w64 (by omega) (by omega)]; simp
  · have hb := u_fold_bd x (u_step 11 a) (u_step_bd _ _).1 (u_step_bd _ _).2
    simp only [impl_KeyedHash.l0]
    rw [if_neg (by omega), List.take_of_length_le (by omega), u_ifold _ _ hb.1 hb.2]
    simp [u_hashed, List.foldl_append]
theorem u_ihash (x : List Int) (hx : x.length ≤ 1099511627776) : Ev (fun k => impl_Hash.f k x) (u_hashed x) := by
  unfold impl_Hash.f
  have h := u_evloop (fun k i => impl_Hash.l0 k ((x.take i).foldl u_step 11) x x.length (i : Int)) x.length (u_hashed x) (fun i hi => ⟨0, fun k _ => ?_⟩) ⟨0, fun k _ => ?_⟩
  · simpa using h
  · have hb := u_fold_bd (x.take i) 11 (by omega) (by omega)
    simp only [impl_Hash.l0]
    rw [if_pos (by omega), if_pos (by omega), if_pos (by omega), u_ifold _ _ hb.1 hb.2]
    simp only [Option.bind_some]
    rw [u_rd, ← u_fold_take x 11 i hi, u_w64 (by omega) (by omega)]; simp
  · simp only [impl_Hash.l0]
    rw [if_neg (by omega)]; simp [u_hashed]
/-- Reading a varint: at most d bytes more, from byte i on; n: what has been read. -/
def u_rdv (x : List Int) (a : Int) : Nat → Nat → Int → Int × Int × Bool
  | 0, _, _ => (0, 0, false)
  | d + 1, i, n => if (x.length : Int) ≤ a + i then (0, 0, false) else
      if rd x (a + i) < 128 then (if (0 < i ∧ rd x (a + i) = 0) ∨ 1000000000000 < n + rd x (a + i) % 128 * 128 ^ i then (0, 0, false) else (n + rd x (a + i) % 128 * 128 ^ i, a + i + 1, true))
      else u_rdv x a d (i + 1) (n + rd x (a + i) % 128 * 128 ^ i)
def u_read (x : List Int) (a : Int) : Int × Int × Bool := if a < 0 then (0, 0, false) else u_rdv x a 6 0 0
theorem u_orshl (i : Nat) (hi : i < 6) (n c : Int) (h0 : 0 ≤ n) (h1 : n < 128 ^ i) (h2 : 0 ≤ c) (h3 : c < 128) : Go.bits .or .i64 n (shl .i64 c (7 * (i : Int))) = n + c * 128 ^ i := by
  have hp : (128 : Int) ^ i ≤ 128 ^ 5 := by
    rcases (show i = 0 ∨ i = 1 ∨ i = 2 ∨ i = 3 ∨ i = 4 ∨ i = 5 by omega) with rfl | rfl | rfl | rfl | rfl | rfl <;> decide
  have hs : shl .i64 c (7 * (i : Int)) = c * 128 ^ i := by
    unfold shl
    rcases (show i = 0 ∨ i = 1 ∨ i = 2 ∨ i = 3 ∨ i = 4 ∨ i = 5 by omega) with rfl | rfl | rfl | rfl | rfl | rfl <;> (simp [IntKind.bits]; rw [IntKind.wrap_i64]; omega)
  have hc : ∀ y : Int, Go.bits .or .i64 n y = Go.bits .or .i64 y n := fun y => by simp only [Go.bits, BitVec.or_comm]
  rw [hs, hc]
  have hm : (c * 128 ^ i) % 2 ^ (7 * i) = 0 := by
    rcases (show i = 0 ∨ i = 1 ∨ i = 2 ∨ i = 3 ∨ i = 4 ∨ i = 5 by omega) with rfl | rfl | rfl | rfl | rfl | rfl <;> (simp <;> omega)
  have hn : n < 2 ^ (7 * i) := by
    rcases (show i = 0 ∨ i = 1 ∨ i = 2 ∨ i = 3 ∨ i = 4 ∨ i = 5 by omega) with rfl | rfl | rfl | rfl | rfl | rfl <;> simpa using h1
  have hb : 0 ≤ c * 128 ^ i ∧ c * 128 ^ i < 2 ^ 63 := by
    rcases (show i = 0 ∨ i = 1 ∨ i = 2 ∨ i = 3 ∨ i = 4 ∨ i = 5 by omega) with rfl | rfl | rfl | rfl | rfl | rfl <;> (simp <;> omega)
  rw [bits_join .i64 63 (by decide) (fun n a b => by rw [IntKind.wrap_i64]; omega) (7 * i) _ n hb.1 hm hb.2 h0 hn (by omega)]
  omega
theorem u_pow_step (i : Nat) (hi : i < 6) (n c : Int) (h0 : 0 ≤ n) (h1 : n < 128 ^ i) (h2 : 0 ≤ c) (h3 : c < 128) : 0 ≤ n + c * 128 ^ i ∧ n + c * 128 ^ i < 128 ^ (i + 1) := by
  rcases (show i = 0 ∨ i = 1 ∨ i = 2 ∨ i = 3 ∨ i = 4 ∨ i = 5 by omega) with rfl | rfl | rfl | rfl | rfl | rfl <;> (simp at * <;> omega)
def u_bytes (x : List Int) : Prop := ∀ i : Int, 0 ≤ rd x i ∧ rd x i ≤ 255
theorem u_bytes_of (x : List Int) (h : ∀ y ∈ x, 0 ≤ y ∧ y ≤ 255) : u_bytes x := by
  intro i
  unfold rd
  rw [List.getD_eq_getElem?_getD]
  by_cases hi : i.toNat < x.length
  · rw [List.getElem?_eq_getElem hi]; exact h _ (List.getElem_mem hi)
  · rw [List.getElem?_eq_none (by omega)]; simp
theorem u_wf8 (x : List Int) (h : ∀ y ∈ x, (Lit.int .u8 y).wf = true) : ∀ y ∈ x, 0 ≤ y ∧ y ≤ 255 := by
  intro y hy
  have := h y hy
  simp [Lit.wf, IntKind.min, IntKind.max, IntKind.bits, IntKind.signed] at this
  exact this
theorem u_ibti (x : List Int) (hx : x.length ≤ 1099511627776) (hb : u_bytes x) : Ev (fun k => impl_BytesToInts.f k x) ((x.length : Int) :: x) := by
  unfold impl_BytesToInts.f
  have h := u_evloop (fun k i => impl_BytesToInts.l0 k ((x.length : Int) :: x.take i) x x.length (i : Int)) x.length ((x.length : Int) :: x) (fun i hi => ⟨0, fun k _ => ?_⟩) ⟨0, fun k _ => ?_⟩
  · simpa using h
  · have hc := hb i
    simp only [impl_BytesToInts.l0]
    rw [if_pos (by omega), if_pos (by omega), if_pos (by omega), if_pos (by simp; omega), u_w64 (by omega) (by omega), u_w64 (by omega) (by omega), u_rd, u_take_succ x 0 i hi]
    simp
  · simp only [impl_BytesToInts.l0]
    rw [if_neg (by omega)]; simp
theorem u_str_cons (c : Int) (L : List Int) : strOfNums [c] ++ strOfNums L = strOfNums (c :: L) := by
  apply ByteArray.ext
  rw [ByteArray.data_append]
  simp [strOfNums]
theorem u_str_size (L : List Int) : (strOfNums L).size = L.length := strOfNums_size L
theorem u_bytesOf_range (s : ByteArray) : ∀ x ∈ bytesOf s, 0 ≤ x ∧ x ≤ 255 := by
  intro x hx
  unfold bytesOf at hx
  obtain ⟨b, _, rfl⟩ := List.mem_map.1 hx
  have := b.toNat_lt
  omega
theorem u_str_eq (L : List Int) (s : ByteArray) (hL : ∀ x ∈ L, 0 ≤ x ∧ x ≤ 255) : (strOfNums L).toList = s.toList ↔ L = bytesOf s := by
  rw [ByteArray.toList_eq, ByteArray.toList_eq, strOfNums_data]
  unfold bytesOf
  constructor
  · intro h
    rw [← h, List.map_map]
    symm
    rw [List.map_congr_left (g := id)]
    · simp
    · intro x hx
      have := hL x hx
      simp only [Function.comp, id]
      rw [UInt8.toNat_ofNat']
      omega
  · intro h
    rw [h, List.map_map]
    conv => rhs; rw [← List.map_id s.data.toList]
    apply List.map_congr_left
    intro b _
    simp
theorem u_evsucc {α : Type} {g : Nat → Option α} {r : α} (h : Ev (fun k => g (k + 1)) r) : Ev g r := by
  obtain ⟨K, hK⟩ := h
  refine ⟨K + 1, fun k hk => ?_⟩
  obtain ⟨k, rfl⟩ : ∃ m, k = m + 1 := ⟨k - 1, by omega⟩
  exact hK k (by omega)
theorem u_ev_pos {α : Type} {c : Prop} [Decidable c] {f g : Nat → Option α} {r : α} (hc : c) (h : Ev f r) : Ev (fun k => if c then f k else g k) r := by simpa [hc] using h
theorem u_ev_neg {α : Type} {c : Prop} [Decidable c] {f g : Nat → Option α} {r : α} (hc : ¬ c) (h : Ev g r) : Ev (fun k => if c then f k else g k) r := by simpa [hc] using h
theorem u_and255 (n : Int) : Go.bits .and .i64 n 255 = n % 256 := by
  have h : (BitVec.ofInt 64 255).toNat = 2 ^ 8 - 1 := by decide
  have key : (BitVec.ofInt 64 n &&& BitVec.ofInt 64 255).toNat = (n % ((2 ^ 64 : Nat) : Int)).toNat % 2 ^ 8 := by
    rw [BitVec.toNat_and, BitVec.toNat_ofInt, h, Nat.and_two_pow_sub_one_eq_mod]
  show IntKind.i64.wrap ((BitVec.ofInt 64 n &&& BitVec.ofInt 64 255).toNat : Nat) = n % 256
  rw [key, IntKind.wrap_i64]
  omega
/-- A draw answers, its cursor stays in place, and what it draws is as p says. -/
def u_dr {α : Type} (o : Option (α × Int × Int)) (p : α → Prop) : Prop := ∃ r i h, o = some (r, i, h) ∧ 0 ≤ i ∧ p r
theorem u_drew {α β : Type} {o : Option (α × Int × Int)} {p : α → Prop} {f : α × Int × Int → Option (β × Int × Int)} {q : β → Prop} (h : u_dr o p) (k : ∀ r i h, 0 ≤ i → p r → u_dr (f (r, i, h)) q) : u_dr (o.bind f) q := by
  obtain ⟨r, i, h, rfl, h0, hp⟩ := h
  exact k r i h h0 hp
theorem u_done {α : Type} {r : α} {i h : Int} {p : α → Prop} (h0 : 0 ≤ i) (hp : p r) : u_dr (some (r, i, h)) p := ⟨r, i, h, rfl, h0, hp⟩
theorem u_new (b : List Int) (hb : b.length ≤ 1048576) : ∃ h, Ev (fun k => spec_l1New.f k b) (b, 0, h) := by
  unfold spec_l1New.f
  have hx : ∀ (d : Nat) (h : Int) (i : Nat), i + d = b.length → ∃ r, Ev (fun k => spec_l1New.l0 k b h i) (b, 0, r) := by
    intro d
    induction d with
    | zero =>
      intro h i hi
      refine ⟨h, u_evsucc ?_⟩
      simp only [spec_l1New.l0]
      exact u_ev_neg (by omega) (Ev.now _)
    | succ d ih =>
      intro h i hi
      by_cases h4 : (i : Int) < 4000
      · obtain ⟨r, hr⟩ := ih (Go.bits .and .i64 (wrap64 ((wrap64 ((wrap64 (h * 137)) + (wrap64 (rd b i)))) + 11)) 1073741823) (i + 1) (by omega)
        refine ⟨r, u_evsucc ?_⟩
        simp only [spec_l1New.l0]
        refine u_ev_pos (by omega) (u_ev_pos h4 (u_ev_pos (by omega) ?_))
        rw [u_w64 (x := (i : Int) + 1) (by omega) (by omega)]
        exact hr
      · refine ⟨h, u_evsucc ?_⟩
        simp only [spec_l1New.l0]
        exact u_ev_pos (by omega) (u_ev_neg h4 (Ev.now _))
  exact hx b.length _ 0 (by omega)
theorem u_byte (b : List Int) (i h : Int) (hb : b.length ≤ 1048576) (hi : 0 ≤ i) : u_dr (spec_l1Byte.f b i h) (fun r => 0 ≤ r ∧ r ≤ 255) := by
  unfold spec_l1Byte.f
  by_cases hl : i < (b.length : Int)
  · rw [if_pos hl, if_pos hi, u_and255, u_and255, u_w64 (x := i + 1) (by omega) (by omega)]
    exact u_done (by omega) (by omega)
  · rw [if_neg hl, u_and255]
    exact u_done hi (by omega)
theorem u_below (b : List Int) (i h n : Int) (hb : b.length ≤ 1048576) (hi : 0 ≤ i) : u_dr (spec_l1Below.f b i h n) (fun r => 0 ≤ r ∧ (r < n ∨ n ≤ 0 ∧ r = 0)) := by
  unfold spec_l1Below.f
  split
  · exact u_done hi (by omega)
  · rename_i hn
    split
    · refine u_drew (u_byte b i h hb hi) fun r i h hi hr => ?_
      rw [if_neg (by omega)]
      dsimp only
      have := Int.tmod_lt_of_pos r (show 0 < n by omega)
      have := Int.tmod_nonneg n hr.1
      exact u_done hi (by omega)
    · refine u_drew (u_byte b i h hb hi) fun r i h hi hr => u_drew (u_byte b i h hb hi) fun r2 i h hi hr2 => u_drew (u_byte b i h hb hi) fun r3 i h hi hr3 => ?_
      rw [if_neg (by omega)]
      dsimp only
      rw [u_w64 (x := r * 65536) (by omega) (by omega), u_w64 (x := r2 * 256) (by omega) (by omega), u_w64 (x := r * 65536 + r2 * 256) (by omega) (by omega), u_w64 (x := r * 65536 + r2 * 256 + r3) (by omega) (by omega)]
      have := Int.tmod_lt_of_pos (r * 65536 + r2 * 256 + r3) (show 0 < n by omega)
      have := Int.tmod_nonneg n (show 0 ≤ r * 65536 + r2 * 256 + r3 by omega)
      exact u_done hi (by omega)
theorem u_once (b : List Int) (i h n : Int) (hb : b.length ≤ 1048576) (hi : 0 ≤ i) : u_dr (spec_l1Once.f b i h n) (fun _ => True) := by
  unfold spec_l1Once.f
  exact u_drew (u_below b i h n hb hi) fun r i h hi hr => u_done hi trivial
theorem u_pick (b : List Int) (i h : Int) (l : List Int) (hb : b.length ≤ 1048576) (hi : 0 ≤ i) (hl : l ≠ []) : u_dr (spec_l1Int.f b i h l) (fun r => r ∈ l) := by
  unfold spec_l1Int.f
  refine u_drew (u_below b i h _ hb hi) fun r i h hi hr => ?_
  have hp := List.length_pos_iff.2 hl
  rw [if_pos hr.1, if_pos (by omega)]
  refine u_done hi ?_
  unfold rd
  rw [List.getD_eq_getElem?_getD, List.getElem?_eq_getElem (by omega)]
  exact List.getElem_mem _
theorem u_word3 (b : List Int) (i h : Int) (hb : b.length ≤ 1048576) (hi : 0 ≤ i) : u_dr (spec_l3Word.f b i h) (fun r => -1 ≤ r ∧ r ≤ 2147483648) := by
  unfold spec_l3Word.f
  refine u_drew (u_once b i h 10 hb hi) fun r i h hi hr => ?_
  cases r with
  | true =>
    simp only [if_true]
    refine u_drew (u_pick b i h _ hb hi (by simp)) fun r i h hi hr => u_done hi ?_
    simp only [List.mem_cons, List.not_mem_nil, or_false] at hr; omega
  | false =>
    simp only [Bool.false_eq_true, if_false]
    refine u_drew (u_once b i h 4 hb hi) fun r i h hi hr => ?_
    cases r with
    | true =>
      simp only [if_true]
      refine u_drew (u_pick b i h _ hb hi (by simp)) fun r i h hi hr => u_done hi ?_
      simp only [List.mem_cons, List.not_mem_nil, or_false] at hr; omega
    | false =>
      simp only [Bool.false_eq_true, if_false]
      refine u_drew (u_below b i h 1000000 hb hi) fun r i h hi hr => u_drew (u_below b i h 2000 hb hi) fun r2 i h hi hr2 => ?_
      have h1 : r * r2 ≤ 999999 * r2 := Int.mul_le_mul_of_nonneg_right (by omega) hr2.1
      have h2 : 0 ≤ r * r2 := Int.mul_nonneg hr.1 hr2.1
      dsimp only
      rw [u_w64 (by omega) (by omega)]
      exact u_done hi (by omega)
theorem u_big {α : Type} {f g : Nat → Option α} {x : List Int} {r : α} (h1 : Ev f r) (h2 : x.length ≤ 1048576 → Ev g r) : Ev (fun k => (laws_big.f x).bind fun t => if t = true then f k else g k) r := by
  unfold laws_big.f
  simp only [Option.bind_some]
  by_cases h : (x.length : Int) > 1048576
  · simpa [h] using h1
  · simpa [h] using h2 (by omega)
theorem u_smod (a : Int) {q : Int} (h1 : 1 ≤ q) (h2 : q ≤ 1000000000000) : spec_Mod.f a q = some (a % q) := by
  unfold spec_Mod.f spec_l1In.f
  have hb := u_tmod_bd a (q := q) (by omega)
  simp only [ge_iff_le, h1, if_true, h2, decide_true, Option.bind_some, show ¬ q = 0 by omega, if_false]
  rw [u_w64 (by omega) (by omega), u_tmod_add a (by omega)]
theorem u_smod0 (a : Int) {q : Int} (h : q < 1 ∨ 1000000000000 < q) : spec_Mod.f a q = some 0 := by
  unfold spec_Mod.f spec_l1In.f
  by_cases h1 : 1 ≤ q
  · simp [h1, show ¬ q ≤ 1000000000000 by omega]
  · simp [h1]
theorem u_at (l : List Int) (i : Nat) (hb : l.length ≤ 1048576) (hx : u_bytes l) (hi : i ≤ 8) : ∃ t, laws_at.f l (i : Int) = some t ∧ 0 ≤ t ∧ t ≤ 255 := by
  unfold laws_at.f
  by_cases h : (i : Int) < l.length
  · rw [if_pos h, if_pos (by omega)]
    have := hx i
    exact ⟨_, rfl, by rw [u_w64 (by omega) (by omega)]; exact this.1, by rw [u_w64 (by omega) (by omega)]; exact this.2⟩
  · rw [if_neg h, u_w64 (x := (i : Int) * 31) (by omega) (by omega), u_w64 (x := (l.length : Int) * 7) (by omega) (by omega), u_w64 (by omega) (by omega), Int.tmod_eq_emod_of_nonneg (by omega)]
    exact ⟨_, rfl, by omega, by omega⟩
theorem u_words3_l (b : List Int) (hb : b.length ≤ 1048576) (d : Nat) : ∀ (i h : Int) (out : List Int), out.length + d ≤ 8 → 0 ≤ i → (∀ x ∈ out, -1 ≤ x ∧ x ≤ 2147483648) →
    ∃ r i' h', Ev (fun k => spec_l3Words.l0 k out (d : Int) b i h) (r, i', h') ∧ 0 ≤ i' ∧ (∀ x ∈ r, -1 ≤ x ∧ x ≤ 2147483648) ∧ r.length ≤ 8 := by
  induction d with
  | zero =>
    intro i h out hl hi hx
    refine ⟨out, i, h, u_evsucc ?_, hi, hx, by omega⟩
    simp only [spec_l3Words.l0]
    exact u_ev_neg (by omega) (Ev.now _)
  | succ d ih =>
    intro i h out hl hi hx
    obtain ⟨r, i1, h1, e, hi1, hr⟩ := u_word3 b i h hb hi
    obtain ⟨r', i', h', he, hi', hx', hl'⟩ := ih i1 h1 (out ++ [r]) (by simp; omega) hi1 (by
      intro x hm
      rcases List.mem_append.1 hm with hm | hm
      · exact hx x hm
      · simp at hm; omega)
    refine ⟨r', i', h', u_evsucc ?_, hi', hx', hl'⟩
    simp only [spec_l3Words.l0, e, Option.bind_some]
    refine u_ev_pos (by omega) (u_ev_pos (by omega) ?_)
    rw [u_w64 (x := ((d + 1 : Nat) : Int) - 1) (by omega) (by omega), show ((d + 1 : Nat) : Int) - 1 = (d : Int) from by omega]
    exact he
theorem u_words3 (b : List Int) (i h : Int) (hb : b.length ≤ 1048576) (hi : 0 ≤ i) : ∃ r i' h', Ev (fun k => spec_l3Words.f k b i h) (r, i', h') ∧ 0 ≤ i' ∧ (∀ x ∈ r, -1 ≤ x ∧ x ≤ 2147483648) ∧ r.length ≤ 8 := by
  unfold spec_l3Words.f
  obtain ⟨n, i1, h1, e, hi1, hn⟩ := u_below b i h 5 hb hi
  obtain ⟨r', i', h', he, h0, hx, hl⟩ := u_words3_l b hb n.toNat i1 h1 [] (by simp; omega) hi1 (by simp)
  refine ⟨r', i', h', ?_, h0, hx, hl⟩
  simp only [e, Option.bind_some]
  rw [show ((n.toNat : Nat) : Int) = n from by omega] at he
  exact he
theorem u_str1 (b : List Int) (i h : Int) (l : List ByteArray) (hb : b.length ≤ 1048576) (hi : 0 ≤ i) (hl : l ≠ []) : u_dr (spec_l1Str.f b i h l) (fun r => r ∈ l) := by
  unfold spec_l1Str.f
  refine u_drew (u_below b i h _ hb hi) fun r i h hi hr => ?_
  have hp := List.length_pos_iff.2 hl
  rw [if_pos hr.1, if_pos (by omega)]
  refine u_done hi ?_
  unfold rdOf
  rw [List.getD_eq_getElem?_getD, List.getElem?_eq_getElem (by omega)]
  exact List.getElem_mem _
theorem u_step_inj (d e v : Int) (h0 : 0 ≤ d) (h1 : d < 2147483647) (h2 : 0 ≤ e) (h3 : e < 2147483647) (h : u_step d v = u_step e v) : d = e := by
  unfold u_step at h
  generalize v % 2147483647 = m at h
  have h4 := Int.emod_eq_emod_iff_emod_sub_eq_zero.1 h
  obtain ⟨k, hk⟩ := Int.dvd_of_emod_eq_zero h4
  have h5 : (d - e) * 1000003 = 2147483647 * k := by rw [← hk, Int.sub_mul]; clear hk h4 h; omega
  clear hk h4 h
  have hx1 : d - e < 2147483647 := by clear h5; omega
  have hx2 : -2147483647 < d - e := by clear h5; omega
  suffices hs : d - e = 0 by clear h5; omega
  clear h0 h1 h2 h3
  generalize d - e = x at h5 hx1 hx2 ⊢
  have e1 : (1000003 * 1523789695 : Int) = 2147483647 * 709572 + 1 := by decide
  have e2 : x * (1000003 * 1523789695) = 2147483647 * (k * 1523789695) := by rw [← Int.mul_assoc, h5, Int.mul_assoc]
  rw [e1, Int.mul_add, Int.mul_one, Int.mul_left_comm] at e2
  generalize x * 709572 = y at e2
  generalize k * 1523789695 = z at e2
  have e3 : x = 2147483647 * (z - y) := by rw [Int.mul_sub]; clear h5 hx1 hx2; omega
  clear h5 e2
  generalize z - y = t at e3
  omega
theorem u_fold_inj (x : List Int) : ∀ d e, 0 ≤ d → d < 2147483647 → 0 ≤ e → e < 2147483647 → x.foldl u_step d = x.foldl u_step e → d = e := by
  induction x with
  | nil => intro d e _ _ _ _ h; exact h
  | cons v x ih =>
    intro d e h0 h1 h2 h3 h
    have := ih _ _ (u_step_bd d v).1 (u_step_bd d v).2 (u_step_bd e v).1 (u_step_bd e v).2 h
    exact u_step_inj d e v h0 h1 h2 h3 this
theorem u_step_ne (d v t : Int) (h0 : 0 ≤ t) (h1 : t ≤ 255) (h : u_step d ((v + 1 + t) % 2147483647) = u_step d v) : False := by
  unfold u_step at h
  omega
theorem u_fold_set (x : List Int) : ∀ (i : Nat) (d t : Int), i < x.length → 0 ≤ d → d < 2147483647 → 0 ≤ t → t ≤ 255 → ∀ y, (x.set i ((x.getD i 0 + 1 + t) % 2147483647) ++ y).foldl u_step d ≠ (x ++ y).foldl u_step d := by
  induction x with
  | nil => intro i d t hi; simp at hi
  | cons v x ih =>
    intro i d t hi h0 h1 h2 h3 y h
    cases i with
    | zero =>
      simp only [List.set_cons_zero, List.getD_cons_zero, List.cons_append, List.foldl_cons] at h
      exact u_step_ne d v t h2 h3 (u_fold_inj (x ++ y) _ _ (u_step_bd _ _).1 (u_step_bd _ _).2 (u_step_bd _ _).1 (u_step_bd _ _).2 h)
    | succ i =>
      simp only [List.set_cons_succ, List.getD_cons_succ, List.cons_append, List.foldl_cons] at h
      exact ih i _ t (by simpa using hi) (u_step_bd _ _).1 (u_step_bd _ _).2 h2 h3 y h
theorem u_derive (a : Int) (s : ByteArray) (hs : s.size ≤ 1048576) : ∃ t, Ev (fun k => impl_DeriveFromString.f k a s) t ∧ 1 ≤ t ∧ t ≤ 2147483646 := by
  have hb : u_bytes (bytesOf s) := u_bytes_of _ (u_bytesOf_range s)
  have hl : (bytesOf s).length = s.size := bytesOf_length s
  have h2 : 0 ≤ u_hashed (a :: (((bytesOf s).length : Int) :: bytesOf s) ++ [a]) ∧ u_hashed (a :: (((bytesOf s).length : Int) :: bytesOf s) ++ [a]) < 2147483647 := u_fold_bd (a :: (((bytesOf s).length : Int) :: bytesOf s) ++ [a]) 11 (by omega) (by omega)
  have hk2 := u_ikhash a (((bytesOf s).length : Int) :: bytesOf s) (by simp only [List.length_cons]; omega)
  generalize u_hashed (a :: (((bytesOf s).length : Int) :: bytesOf s) ++ [a]) = h at h2 hk2
  refine ⟨if h = 0 then 1 else h, ?_, by split <;> omega, by split <;> omega⟩
  unfold impl_DeriveFromString.f
  refine u_ev_pos hs ?_
  refine Ev.bind (u_ibti _ (by omega) hb) (Ev.bind hk2 ?_)
  refine ⟨0, fun k _ => ?_⟩
  by_cases h4 : h = 0
  · simp only [if_pos h4]
  · simp only [if_neg h4]
theorem u_dderive (l : List Int) (hb : l.length ≤ 1048576) : ∃ a s, Ev (fun k => spec_DrawDeriveFromString.f k l) (a, s) ∧ s.size ≤ 1048576 := by
  obtain ⟨h0, hn⟩ := u_new l hb
  obtain ⟨a, i1, h1, e1, hi1, ha⟩ := u_word3 l 0 h0 hb (by omega)
  obtain ⟨s, i2, h2, e2, hi2, hs⟩ := u_str1 l i1 h1 [(⟨#[]⟩ : ByteArray), (⟨#[97]⟩ : ByteArray), (⟨#[98]⟩ : ByteArray), (⟨#[97, 98]⟩ : ByteArray), (⟨#[110, 101, 119, 115]⟩ : ByteArray), (⟨#[120]⟩ : ByteArray)] hb hi1 (by simp)
  refine ⟨a, s, ?_, ?_⟩
  · unfold spec_DrawDeriveFromString.f
    refine Ev.bind hn ?_
    simp only [e1, e2, Option.bind_some]
    exact Ev.now _
  · simp only [List.mem_cons, List.not_mem_nil, or_false] at hs
    rcases hs with rfl | rfl | rfl | rfl | rfl | rfl <;> decide
theorem u_valid (t : Int) (h1 : 1 ≤ t) (h2 : t ≤ 2147483646) : impl_IsValidKey.f t = some true := by
  unfold impl_IsValidKey.f impl_InRange.f
  rw [if_pos h1]
  simp [h2]

theorem FnKeyedHash : laws_FnKeyedHash.Pure := by
  intro l _ _ hw
  refine Ev.rounds ?_
  unfold laws_FnKeyedHash.f
  refine u_big (Ev.now true) fun hb => ?_
  have hby := u_bytes_of l (u_wf8 l hw)
  obtain ⟨h0, hn⟩ := u_new l hb
  obtain ⟨a, i1, h1, e1, hi1, ha⟩ := u_word3 l 0 h0 hb (by omega)
  obtain ⟨x, i2, h2, e2, hi2, hx, hl⟩ := u_words3 l i1 h1 hb hi1
  have hdraw : Ev (fun k => spec_DrawKeyedHash.f k l) (a, x) := by
    unfold spec_DrawKeyedHash.f
    refine Ev.bind hn ?_
    simp only [e1, Option.bind_some]
    exact Ev.bind e2 (Ev.now _)
  have hH : 0 ≤ u_hashed (a :: x ++ [a]) ∧ u_hashed (a :: x ++ [a]) < 2147483647 := u_fold_bd (a :: x ++ [a]) 11 (by omega) (by omega)
  have hk := u_ikhash a x (by omega)
  have hh : Ev (fun k => impl_Hash.f k (([a] ++ x) ++ [a])) (u_hashed (a :: x ++ [a])) := u_ihash (a :: x ++ [a]) (by simp; omega)
  obtain ⟨w, s, hd, hs⟩ := u_dderive l hb
  obtain ⟨t, ht, ht1, ht2⟩ := u_derive w s hs
  have hlast : Ev (fun k => (spec_DrawDeriveFromString.f k l).bind fun bt243 => ((impl_DeriveFromString.f k bt243.1 bt243.2).bind fun t245 => ((impl_IsValidKey.f t245).bind fun t246 => (some t246)))) true := by
    refine Ev.bind hd (Ev.bind ht ?_)
    simp only [u_valid t ht1 ht2, Option.bind_some]
    exact Ev.now true
  refine Ev.bind hdraw (Ev.bind hk (u_ev_neg (by omega) (u_ev_neg (by omega) ?_)))
  simp only [Option.bind_some]
  refine u_ev_pos (by simp; omega) (u_ev_pos (by simp; omega) (Ev.bind hh ?_))
  refine u_evsucc ?_
  rw [show (u_hashed (a :: x ++ [a]) != u_hashed (a :: x ++ [a])) = false from by simp]
  simp only [laws_FnKeyedHash.j0, Bool.false_eq_true, if_false]
  refine u_ev_ite (fun hp => ?_) (fun _ => hlast)
  simp only [List.nil_append, Option.bind_some, List.length_nil]
  refine u_ev_pos (by omega) ?_
  obtain ⟨t0, f0, t00, t01⟩ := u_at l 0 hb hby (by omega)
  obtain ⟨t1, f1, t10, t11⟩ := u_at l 1 hb hby (by omega)
  have f0' : laws_at.f l 0 = some t0 := f0
  have f1' : laws_at.f l 1 = some t1 := f1
  simp only [f0', f1', Option.bind_some]
  rw [Int.tmod_eq_emod_of_nonneg t00]
  have g0 : 0 ≤ t0 % (x.length : Int) := Int.emod_nonneg _ (by omega)
  have g1 : t0 % (x.length : Int) < x.length := Int.emod_lt_of_pos _ hp
  generalize t0 % (x.length : Int) = i at g0 g1
  refine u_ev_neg (by omega) (u_ev_pos g0 (u_ev_pos g1 ?_))
  have hv : rd x i = x.getD i.toNat 0 := rfl
  have hvb := hx (x.getD i.toNat 0) (by rw [List.getD_eq_getElem?_getD, List.getElem?_eq_getElem (by omega)]; exact List.getElem_mem _)
  rw [hv, u_w64 (x := x.getD i.toNat 0 + 1) (by omega) (by omega), u_w64 (by omega) (by omega), u_smod _ (by omega) (by omega)]
  simp only [Option.bind_some]
  have hk2 := u_ikhash a (x.set i.toNat ((x.getD i.toNat 0 + 1 + t1) % 2147483647)) (by simp; omega)
  have hne : u_hashed (a :: x.set i.toNat ((x.getD i.toNat 0 + 1 + t1) % 2147483647) ++ [a]) ≠ u_hashed (a :: x ++ [a]) := by
    have h3 := u_fold_set x i.toNat (u_step 11 a) t1 (by omega) (u_step_bd _ _).1 (u_step_bd _ _).2 t10 t11 [a]
    exact h3
  exact Ev.bind hk2 (u_ev_neg hne hlast)

end Go.Proofs.Ytolepbdmbedloac.Pure
