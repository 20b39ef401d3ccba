/- FnCipher returns true for every byte slice; no condition. -/
import Derived.Test.YtolepbdmbedloacWSized
import Derived.Laws.Bits128
import Derived.Test.YtolepbdmbedloacHFnCipherx2
namespace Go.Proofs.Ytolepbdmbedloac.PrintWords
/-- The name by which the printed row calls it. -/
theorem sized_ints {H : Type} {enc : TypeId × Value → H} {P : Program} {W : World} {base : Nat} {spare : Nat → Bool} {held : Bool} {t e : TypeId} {k : IntKind} {a : Option Addr} {len cap : Nat} {d : DataW H} {ps : List MemPlace} {ts : List TypeId} {ds : List (DataW H)} {j : Nat}
    (hsz : (DataW.weightsEach P ts ds).all (· ≤ reachBytes) = true) (ht : ts[j]? = some t) (hd : ds[j]? = some d) (hu : P.underlying t = some (.slice e)) (he : P.underlying e = some (.int k)) (hc : P.cellsOf e = 1) {B : Nat} (hB : P.bytesOf e = B)
    (h : DataW.Trod enc P W base spare held t (.slice a len cap) d ps) : len * B ≤ 140737488351232 := Go.Proofs.YtolepbdmbedloacW.PrintWords.sized_ints hsz ht hd hu he hc hB h
end Go.Proofs.Ytolepbdmbedloac.PrintWords
namespace Go.Proofs.Ytolepbdmbedloac.Pure
open Go.RowKit Go.Proofs.Ytolepbdmbedloac.PFnCipher Go.Proofs.YtolepbdmbedloacW.PrintWords Go.Proofs.YtolepbdmbedloacW.PrintLast
set_option linter.unusedVariables false
set_option linter.unusedSimpArgs false

theorem u_evloop {ρ : Type} (g : Nat → Nat → Option ρ) (n : Nat) (r : ρ) (hs : ∀ i, i < n → ∃ K, ∀ k, K ≤ k → g (k + 1) i = g k (i + 1)) (he : ∃ K, ∀ k, K ≤ k → g (k + 1) n = some r) : Ev (fun k => g k 0) r := by
  have h : ∀ d i, i + d = n → Ev (fun k => g k i) r := by
    intro d
    induction d with
    | zero =>
      intro i hi
      obtain ⟨K, hK⟩ := he
      refine ⟨K + 1, fun k hk => ?_⟩
      obtain ⟨k, rfl⟩ : ∃ m, k = m + 1 := ⟨k - 1, by omega⟩
      obtain rfl : i = n := by omega
      exact hK k (by omega)
    | succ d ih =>
      intro i hi
      obtain ⟨K, hK⟩ := hs i (by omega)
      obtain ⟨L, hL⟩ := ih (i + 1) (by omega)
      refine ⟨K + L + 1, fun k hk => ?_⟩
      obtain ⟨k, rfl⟩ : ∃ m, k = m + 1 := ⟨k - 1, by omega⟩
      show g (k + 1) i = some r
      rw [hK k (by omega)]
      exact hL k (by omega)
  exact h n 0 (by omega)
theorem u_ev_ite {α : Type} {c : Prop} [Decidable c] {f g : Nat → Option α} {r : α} (h1 : c → Ev f r) (h2 : ¬ c → Ev g r) : Ev (fun k => if c then f k else g k) r := by
  by_cases h : c
  · simpa [h] using h1 h
  · simpa [h] using h2 h
theorem u_w64 {x : Int} (h1 : -9223372036854775808 ≤ x) (h2 : x ≤ 9223372036854775807) : wrap64 x = x := by unfold wrap64; omega
theorem u_rd (xs : List Int) (i : Nat) : rd xs (i : Int) = xs.getD i 0 := by simp [rd]
theorem u_set_fill {α : Type} (xs : List α) (z d : α) (i : Nat) (h : i < xs.length) : (xs.take i ++ List.replicate (xs.length - i) z).set i (xs.getD i d) = xs.take (i + 1) ++ List.replicate (xs.length - (i + 1)) z := by
  apply List.ext_getElem?
  intro j
  have hl : (xs.take i).length = i := by simp; omega
  rcases Nat.lt_trichotomy j i with h1 | h1 | h1
  · rw [List.getElem?_set_ne (by omega), List.getElem?_append_left (by omega), List.getElem?_append_left (by simp; omega)]
    simp [List.getElem?_take, h1, show j < i + 1 by omega]
  · subst h1
    rw [List.getElem?_set_self (by simp; omega), List.getElem?_append_left (by simp; omega)]
    simp [List.getElem?_take, List.getD_eq_getElem?_getD, List.getElem?_eq_getElem h]
  · rw [List.getElem?_set_ne (by omega), List.getElem?_append_right (by omega), List.getElem?_append_right (by simp; omega)]
    simp only [List.getElem?_replicate, hl, List.length_take]
    have e : min (i + 1) xs.length = i + 1 := by omega
    rw [e]
    by_cases h2 : j < xs.length
    · rw [if_pos (by omega), if_pos (by omega)]
    · rw [if_neg (by omega), if_neg (by omega)]
/-- What mark writes: the counters from k on. -/
def u_marks (f : Int → Int) (k : Int) (n : Nat) : List Int := (List.range n).map fun i : Nat => f (k + (i : Int))
theorem u_marks_len (f : Int → Int) (k : Int) (n : Nat) : (u_marks f k n).length = n := by simp [u_marks]
theorem u_marks_get (f : Int → Int) (k : Int) (n i : Nat) (h : i < n) : (u_marks f k n).getD i 0 = f (k + i) := by simp [u_marks, List.getD_eq_getElem?_getD, List.getElem?_map, List.getElem?_range h]
theorem u_marks_set (f : Int → Int) (k : Int) (xs : List Int) (i : Nat) (h : i < xs.length) : (u_marks f k i ++ xs.drop i).set i (f (k + i)) = u_marks f k (i + 1) ++ xs.drop (i + 1) := by
  have e : u_marks f k (i + 1) = u_marks f k i ++ [f (k + i)] := by simp [u_marks, List.range_succ]
  rw [e, List.set_append_right _ _ (by rw [u_marks_len]; omega), u_marks_len, Nat.sub_self, List.append_assoc]
  congr 1
  rw [List.drop_eq_getElem_cons h]
  rfl
theorem u_take_succ {α : Type} (xs : List α) (d : α) (i : Nat) (h : i < xs.length) : xs.take (i + 1) = xs.take i ++ [xs.getD i d] := by
  rw [List.take_succ_eq_append_getElem h]; simp [List.getD_eq_getElem?_getD, List.getElem?_eq_getElem h]
theorem u_tmod_add (p : Int) {q : Int} (hq : 0 < q) : (p.tmod q + q).tmod q = p % q := by
  have h1 := Int.tmod_lt_of_pos p hq
  have h2 : -q < p.tmod q := by
    rcases Int.le_total 0 p with h | h
    · have := Int.tmod_nonneg q h; omega
    · have h3 : (-p).tmod q = -(p.tmod q) := Int.neg_tmod _ _
      have h4 := Int.tmod_lt_of_pos (-p) hq
      omega
  rw [Int.tmod_eq_emod_of_nonneg (by omega), Int.add_emod_right]
  have := Int.tmod_eq_emod (a := p) (b := q)
  rw [this]
  split
  · simp
  · rw [Int.sub_emod]
    have : ((q.natAbs : Int)) % q = 0 := by
      have : (q.natAbs : Int) = q := by omega
      rw [this]; exact Int.emod_self
    rw [this]; simp
theorem u_tmod_fix (p : Int) {q : Int} (hq : 0 < q) : (if p.tmod q < 0 then p.tmod q + q else p.tmod q) = p % q := by
  have h1 := Int.tmod_lt_of_pos p hq
  have h2 : -q < p.tmod q := by
    rcases Int.le_total 0 p with h | h
    · have := Int.tmod_nonneg q h; omega
    · have h3 : (-p).tmod q = -(p.tmod q) := Int.neg_tmod _ _
      have h4 := Int.tmod_lt_of_pos (-p) hq
      omega
  have h3 := u_tmod_add p hq
  split
  · rw [Int.tmod_eq_emod_of_nonneg (by omega)] at h3
    rw [← h3, Int.emod_eq_of_lt (by omega) (by omega)]
  · rw [Int.tmod_eq_emod_of_nonneg (by omega), Int.add_emod_right, Int.emod_eq_of_lt (by omega) (by omega)] at h3
    exact h3
theorem u_tmod_bd (p : Int) {q : Int} (hq : 0 < q) : -q < p.tmod q ∧ p.tmod q < q := by
  have h1 := Int.tmod_lt_of_pos p hq
  refine ⟨?_, h1⟩
  rcases Int.le_total 0 p with h | h
  · have := Int.tmod_nonneg q h; omega
  · have h3 : (-p).tmod q = -(p.tmod q) := Int.neg_tmod _ _
    have h4 := Int.tmod_lt_of_pos (-p) hq
    omega
def u_step (d v : Int) : Int := (d * 1000003 + v % 2147483647 + 13) % 2147483647
def u_hashed (x : List Int) : Int := x.foldl u_step 11
theorem u_step_bd (d v : Int) : 0 ≤ u_step d v ∧ u_step d v < 2147483647 := by unfold u_step; omega
theorem u_fold_bd (x : List Int) : ∀ d, 0 ≤ d → d < 2147483647 → 0 ≤ x.foldl u_step d ∧ x.foldl u_step d < 2147483647 := by
  induction x with
  | nil => intro d h0 h1; exact ⟨h0, h1⟩
  | cons v x ih => intro d _ _; exact ih _ (u_step_bd d v).1 (u_step_bd d v).2
theorem u_step_go (d v : Int) (h0 : 0 ≤ d) (h1 : d < 2147483647) : Int.tmod (wrap64 ((wrap64 ((wrap64 (d * 1000003)) + (v % 2147483647))) + 13)) 2147483647 = u_step d v := by
  rw [u_w64 (x := d * 1000003) (by omega) (by omega), u_w64 (x := d * 1000003 + v % 2147483647) (by omega) (by omega), u_w64 (by omega) (by omega), Int.tmod_eq_emod_of_nonneg (by omega)]
  rfl
theorem u_fold_take (x : List Int) (d : Int) (i : Nat) (h : i < x.length) : (x.take (i + 1)).foldl u_step d = u_step ((x.take i).foldl u_step d) (x.getD i 0) := by
  rw [u_take_succ x 0 i h, List.foldl_append]; rfl
/-- Reading a varint: at most d bytes more, from byte i on; n: what has been read. -/
def u_rdv (x : List Int) (a : Int) : Nat → Nat → Int → Int × Int × Bool
  | 0, _, _ => (0, 0, false)
  | d + 1, i, n => if (x.length : Int) ≤ a + i then (0, 0, false) else
      if rd x (a + i) < 128 then (if (0 < i ∧ rd x (a + i) = 0) ∨ 1000000000000 < n + rd x (a + i) % 128 * 128 ^ i then (0, 0, false) else (n + rd x (a + i) % 128 * 128 ^ i, a + i + 1, true))
      else u_rdv x a d (i + 1) (n + rd x (a + i) % 128 * 128 ^ i)
def u_read (x : List Int) (a : Int) : Int × Int × Bool := if a < 0 then (0, 0, false) else u_rdv x a 6 0 0
theorem u_orshl (i : Nat) (hi : i < 6) (n c : Int) (h0 : 0 ≤ n) (h1 : n < 128 ^ i) (h2 : 0 ≤ c) (h3 : c < 128) : Go.bits .or .i64 n (shl .i64 c (7 * (i : Int))) = n + c * 128 ^ i := by
  have hp : (128 : Int) ^ i ≤ 128 ^ 5 := by
    rcases (show i = 0 ∨ i = 1 ∨ i = 2 ∨ i = 3 ∨ i = 4 ∨ i = 5 by omega) with rfl | rfl | rfl | rfl | rfl | rfl <;> decide
  have hs : shl .i64 c (7 * (i : Int)) = c * 128 ^ i := by
    unfold shl
    rcases (show i = 0 ∨ i = 1 ∨ i = 2 ∨ i = 3 ∨ i = 4 ∨ i = 5 by omega) with rfl | rfl | rfl | rfl | rfl | rfl <;> (simp [IntKind.bits]; rw [IntKind.wrap_i64]; omega)
  have hc : ∀ y : Int, Go.bits .or .i64 n y = Go.bits .or .i64 y n := fun y => by simp only [Go.bits, BitVec.or_comm]
  rw [hs, hc]
  have hm : (c * 128 ^ i) % 2 ^ (7 * i) = 0 := by
    rcases (show i = 0 ∨ i = 1 ∨ i = 2 ∨ i = 3 ∨ i = 4 ∨ i = 5 by omega) with rfl | rfl | rfl | rfl | rfl | rfl <;> (simp <;> omega)
  have hn : n < 2 ^ (7 * i) := by
    rcases (show i = 0 ∨ i = 1 ∨ i = 2 ∨ i = 3 ∨ i = 4 ∨ i = 5 by omega) with rfl | rfl | rfl | rfl | rfl | rfl <;> simpa using h1
  have hb : 0 ≤ c * 128 ^ i ∧ c * 128 ^ i < 2 ^ 63 := by
    rcases (show i = 0 ∨ i = 1 ∨ i = 2 ∨ i = 3 ∨ i = 4 ∨ i = 5 by omega) with rfl | rfl | rfl | rfl | rfl | rfl <;> (simp <;> omega)
  rw [bits_join .i64 63 (by decide) (fun n a b => by rw [IntKind.wrap_i64]; omega) (7 * i) _ n hb.1 hm hb.2 h0 hn (by omega)]
  omega
theorem u_pow_step (i : Nat) (hi : i < 6) (n c : Int) (h0 : 0 ≤ n) (h1 : n < 128 ^ i) (h2 : 0 ≤ c) (h3 : c < 128) : 0 ≤ n + c * 128 ^ i ∧ n + c * 128 ^ i < 128 ^ (i + 1) := by
  rcases (show i = 0 ∨ i = 1 ∨ i = 2 ∨ i = 3 ∨ i = 4 ∨ i = 5 by omega) with rfl | rfl | rfl | rfl | rfl | rfl <;> (simp at * <;> omega)
def u_bytes (x : List Int) : Prop := ∀ i : Int, 0 ≤ rd x i ∧ rd x i ≤ 255
theorem u_bytes_of (x : List Int) (h : ∀ y ∈ x, 0 ≤ y ∧ y ≤ 255) : u_bytes x := by
  intro i
  unfold rd
  rw [List.getD_eq_getElem?_getD]
  by_cases hi : i.toNat < x.length
  · rw [List.getElem?_eq_getElem hi]; exact h _ (List.getElem_mem hi)
  · rw [List.getElem?_eq_none (by omega)]; simp
theorem u_wf8 (x : List Int) (h : ∀ y ∈ x, (Lit.int .u8 y).wf = true) : ∀ y ∈ x, 0 ≤ y ∧ y ≤ 255 := by
  intro y hy
  have := h y hy
  simp [Lit.wf, IntKind.min, IntKind.max, IntKind.bits, IntKind.signed] at this
  exact this
/-- What a cipher writes: byte i of the text and i tell byte i. -/
def u_cr (f : Int → Int → Int) (x : List Int) (i : Nat) : List Int := (List.range i).map fun j : Nat => f (j : Int) (x.getD j 0)
def u_kh (a j : Int) : Int := u_hashed (a :: [j] ++ [a])
def u_eb (a : Int) (j b : Int) : Int := (b + u_kh a j) % 256
def u_db (a : Int) (j b : Int) : Int := (b - u_kh a j) % 256
theorem u_cr_succ (f : Int → Int → Int) (x : List Int) (i : Nat) : u_cr f x (i + 1) = u_cr f x i ++ [f i (x.getD i 0)] := by simp [u_cr, List.range_succ]
theorem u_cr_length (f : Int → Int → Int) (x : List Int) (i : Nat) : (u_cr f x i).length = i := by simp [u_cr]
theorem u_cr_len (f : Int → Int → Int) (x : List Int) : (u_cr f x x.length).length = x.length := u_cr_length f x x.length
theorem u_cr_get (f : Int → Int → Int) (x : List Int) (n i : Nat) (h : i < n) : (u_cr f x n).getD i 0 = f i (x.getD i 0) := by simp [u_cr, List.getD_eq_getElem?_getD, List.getElem?_map, List.getElem?_range h]
theorem u_kh_bd (a j : Int) : 0 ≤ u_kh a j ∧ u_kh a j < 2147483647 := u_fold_bd _ 11 (by omega) (by omega)
theorem u_imod (a : Int) {q : Int} (h1 : 1 ≤ q) (h2 : q ≤ 1000000000000) : impl_Mod.f a q = some (a % q) := by
  unfold impl_Mod.f impl_InRange.f
  have hb := u_tmod_bd a (q := q) (by omega)
  simp only [h1, if_true, h2, decide_true, Option.bind_some, show ¬ q = 0 by omega, if_false]
  rw [u_w64 (by omega) (by omega), ← u_tmod_fix a (q := q) (by omega)]
  split <;> rfl
theorem u_imod0 (a : Int) {q : Int} (h : q < 1 ∨ 1000000000000 < q) : impl_Mod.f a q = some 0 := by
  unfold impl_Mod.f impl_InRange.f
  by_cases h1 : 1 ≤ q
  · simp [h1, show ¬ q ≤ 1000000000000 by omega]
  · simp [h1]
theorem u_ifold (d v : Int) (h0 : 0 ≤ d) (h1 : d < 2147483647) : impl_fold.f d v = some (u_step d v) := by
  unfold impl_fold.f
  rw [u_imod _ (by omega) (by omega)]
  simp only [Option.bind_some]
  rw [u_step_go _ _ h0 h1]
theorem u_ikhash (a : Int) (x : List Int) (hx : x.length ≤ 1099511627776) : Ev (fun k => impl_KeyedHash.f k a x) (u_hashed (a :: x ++ [a])) := by
  unfold impl_KeyedHash.f
  rw [u_ifold _ _ (by omega) (by omega)]
  simp only [Option.bind_some]
  have h := u_evloop (fun k i => impl_KeyedHash.l0 k a ((x.take i).foldl u_step (u_step 11 a)) x x.length (i : Int)) x.length (u_hashed (a :: x ++ [a])) (fun i hi => ⟨0, fun k _ => ?_⟩) ⟨0, fun k _ => ?_⟩
  · simpa using h
  · have hb := u_fold_bd (x.take i) (u_step 11 a) (u_step_bd _ _).1 (u_step_bd _ _).2
    simp only [impl_KeyedHash.l0]
    rw [if_pos (by omega), if_pos (by omega), if_pos (by omega), u_ifold _ _ hb.1 hb.2]
    simp only [Option.bind_some]
    rw [u_rd, ← u_fold_take x (u_step 11 a) i hi, u_w64 (by omega) (by omega)]; simp
  · have hb := u_fold_bd x (u_step 11 a) (u_step_bd _ _).1 (u_step_bd _ _).2
    simp only [impl_KeyedHash.l0]
    rw [if_neg (by omega), List.take_of_length_le (by omega), u_ifold _ _ hb.1 hb.2]
    simp [u_hashed, List.foldl_append]
theorem u_iencr (a : Int) (x : List Int) (hx : x.length ≤ 1099511627776) (hb : u_bytes x) : Ev (fun k => impl_Encrypt.f k a x) (u_cr (u_eb a) x x.length) := by
  unfold impl_Encrypt.f
  have h := u_evloop (fun k i => impl_Encrypt.l0 k a (u_cr (u_eb a) x i) x x.length (i : Int)) x.length (u_cr (u_eb a) x x.length) (fun i hi => ?_) ⟨0, fun k _ => ?_⟩
  · exact h
  · obtain ⟨K, hK⟩ := u_ikhash a [(i : Int)] (by simp)
    refine ⟨K, fun k hk => ?_⟩
    have e : impl_KeyedHash.f k a [(i : Int)] = some (u_kh a i) := hK k hk
    simp only [impl_Encrypt.l0]
    rw [if_pos (by omega), if_pos (by omega), if_pos (by omega), e]
    simp only [Option.bind_some]
    rw [if_pos (by rw [u_cr_length]; omega), u_w64 (by omega) (by omega), u_cr_succ, ← u_rd]
    have e2 : (rd x i + u_kh a i % 256) % 256 = u_eb a i (rd x i) := by unfold u_eb; omega
    rw [e2]; simp
  · simp only [impl_Encrypt.l0]
    rw [if_neg (by omega)]
theorem u_idecr (a : Int) (x : List Int) (hx : x.length ≤ 1099511627776) (hb : u_bytes x) : Ev (fun k => impl_Decrypt.f k a x) (u_cr (u_db a) x x.length) := by
  unfold impl_Decrypt.f
  have h := u_evloop (fun k i => impl_Decrypt.l0 k a (u_cr (u_db a) x i) x x.length (i : Int)) x.length (u_cr (u_db a) x x.length) (fun i hi => ?_) ⟨0, fun k _ => ?_⟩
  · exact h
  · obtain ⟨K, hK⟩ := u_ikhash a [(i : Int)] (by simp)
    refine ⟨K, fun k hk => ?_⟩
    have e : impl_KeyedHash.f k a [(i : Int)] = some (u_kh a i) := hK k hk
    simp only [impl_Decrypt.l0]
    rw [if_pos (by omega), if_pos (by omega), if_pos (by omega), e]
    simp only [Option.bind_some]
    rw [if_pos (by rw [u_cr_length]; omega), u_w64 (by omega) (by omega), u_cr_succ, ← u_rd]
    have e2 : (rd x i - u_kh a i % 256) % 256 = u_db a i (rd x i) := by unfold u_db; omega
    rw [e2]; simp
  · simp only [impl_Decrypt.l0]
    rw [if_neg (by omega)]
theorem u_evsucc {α : Type} {g : Nat → Option α} {r : α} (h : Ev (fun k => g (k + 1)) r) : Ev g r := by
  obtain ⟨K, hK⟩ := h
  refine ⟨K + 1, fun k hk => ?_⟩
  obtain ⟨k, rfl⟩ : ∃ m, k = m + 1 := ⟨k - 1, by omega⟩
  exact hK k (by omega)
theorem u_ev_pos {α : Type} {c : Prop} [Decidable c] {f g : Nat → Option α} {r : α} (hc : c) (h : Ev f r) : Ev (fun k => if c then f k else g k) r := by simpa [hc] using h
theorem u_ev_neg {α : Type} {c : Prop} [Decidable c] {f g : Nat → Option α} {r : α} (hc : ¬ c) (h : Ev g r) : Ev (fun k => if c then f k else g k) r := by simpa [hc] using h
theorem u_and255 (n : Int) : Go.bits .and .i64 n 255 = n % 256 := by
  have h : (BitVec.ofInt 64 255).toNat = 2 ^ 8 - 1 := by decide
  have key : (BitVec.ofInt 64 n &&& BitVec.ofInt 64 255).toNat = (n % ((2 ^ 64 : Nat) : Int)).toNat % 2 ^ 8 := by
    rw [BitVec.toNat_and, BitVec.toNat_ofInt, h, Nat.and_two_pow_sub_one_eq_mod]
  show IntKind.i64.wrap ((BitVec.ofInt 64 n &&& BitVec.ofInt 64 255).toNat : Nat) = n % 256
  rw [key, IntKind.wrap_i64]
  omega
/-- A draw answers, its cursor stays in place, and what it draws is as p says. -/
def u_dr {α : Type} (o : Option (α × Int × Int)) (p : α → Prop) : Prop := ∃ r i h, o = some (r, i, h) ∧ 0 ≤ i ∧ p r
theorem u_drew {α β : Type} {o : Option (α × Int × Int)} {p : α → Prop} {f : α × Int × Int → Option (β × Int × Int)} {q : β → Prop} (h : u_dr o p) (k : ∀ r i h, 0 ≤ i → p r → u_dr (f (r, i, h)) q) : u_dr (o.bind f) q := by
  obtain ⟨r, i, h, rfl, h0, hp⟩ := h
  exact k r i h h0 hp
theorem u_done {α : Type} {r : α} {i h : Int} {p : α → Prop} (h0 : 0 ≤ i) (hp : p r) : u_dr (some (r, i, h)) p := ⟨r, i, h, rfl, h0, hp⟩
theorem u_new (b : List Int) (hb : b.length ≤ 1048576) : ∃ h, Ev (fun k => spec_l1New.f k b) (b, 0, h) := by
  unfold spec_l1New.f
  have hx : ∀ (d : Nat) (h : Int) (i : Nat), i + d = b.length → ∃ r, Ev (fun k => spec_l1New.l0 k b h i) (b, 0, r) := by
    intro d
    induction d with
    | zero =>
      intro h i hi
      refine ⟨h, u_evsucc ?_⟩
      simp only [spec_l1New.l0]
      exact u_ev_neg (by omega) (Ev.now _)
    | succ d ih =>
      intro h i hi
      by_cases h4 : (i : Int) < 4000
      · obtain ⟨r, hr⟩ := ih (Go.bits .and .i64 (wrap64 ((wrap64 ((wrap64 (h * 137)) + (wrap64 (rd b i)))) + 11)) 1073741823) (i + 1) (by omega)
        refine ⟨r, u_evsucc ?_⟩
        simp only [spec_l1New.l0]
        refine u_ev_pos (by omega) (u_ev_pos h4 (u_ev_pos (by omega) ?_))
        rw [u_w64 (x := (i : Int) + 1) (by omega) (by omega)]
        exact hr
      · refine ⟨h, u_evsucc ?_⟩
        simp only [spec_l1New.l0]
        exact u_ev_pos (by omega) (u_ev_neg h4 (Ev.now _))
  exact hx b.length _ 0 (by omega)
theorem u_byte (b : List Int) (i h : Int) (hb : b.length ≤ 1048576) (hi : 0 ≤ i) : u_dr (spec_l1Byte.f b i h) (fun r => 0 ≤ r ∧ r ≤ 255) := by
  unfold spec_l1Byte.f
  by_cases hl : i < (b.length : Int)
  · rw [if_pos hl, if_pos hi, u_and255, u_and255, u_w64 (x := i + 1) (by omega) (by omega)]
    exact u_done (by omega) (by omega)
  · rw [if_neg hl, u_and255]
    exact u_done hi (by omega)
theorem u_below (b : List Int) (i h n : Int) (hb : b.length ≤ 1048576) (hi : 0 ≤ i) : u_dr (spec_l1Below.f b i h n) (fun r => 0 ≤ r ∧ (r < n ∨ n ≤ 0 ∧ r = 0)) := by
  unfold spec_l1Below.f
  split
  · exact u_done hi (by omega)
  · rename_i hn
    split
    · refine u_drew (u_byte b i h hb hi) fun r i h hi hr => ?_
      rw [if_neg (by omega)]
      dsimp only
      have := Int.tmod_lt_of_pos r (show 0 < n by omega)
      have := Int.tmod_nonneg n hr.1
      exact u_done hi (by omega)
    · refine u_drew (u_byte b i h hb hi) fun r i h hi hr => u_drew (u_byte b i h hb hi) fun r2 i h hi hr2 => u_drew (u_byte b i h hb hi) fun r3 i h hi hr3 => ?_
      rw [if_neg (by omega)]
      dsimp only
      rw [u_w64 (x := r * 65536) (by omega) (by omega), u_w64 (x := r2 * 256) (by omega) (by omega), u_w64 (x := r * 65536 + r2 * 256) (by omega) (by omega), u_w64 (x := r * 65536 + r2 * 256 + r3) (by omega) (by omega)]
      have := Int.tmod_lt_of_pos (r * 65536 + r2 * 256 + r3) (show 0 < n by omega)
      have := Int.tmod_nonneg n (show 0 ≤ r * 65536 + r2 * 256 + r3 by omega)
      exact u_done hi (by omega)
theorem u_once (b : List Int) (i h n : Int) (hb : b.length ≤ 1048576) (hi : 0 ≤ i) : u_dr (spec_l1Once.f b i h n) (fun _ => True) := by
  unfold spec_l1Once.f
  exact u_drew (u_below b i h n hb hi) fun r i h hi hr => u_done hi trivial
theorem u_pick (b : List Int) (i h : Int) (l : List Int) (hb : b.length ≤ 1048576) (hi : 0 ≤ i) (hl : l ≠ []) : u_dr (spec_l1Int.f b i h l) (fun r => r ∈ l) := by
  unfold spec_l1Int.f
  refine u_drew (u_below b i h _ hb hi) fun r i h hi hr => ?_
  have hp := List.length_pos_iff.2 hl
  rw [if_pos hr.1, if_pos (by omega)]
  refine u_done hi ?_
  unfold rd
  rw [List.getD_eq_getElem?_getD, List.getElem?_eq_getElem (by omega)]
  exact List.getElem_mem _
theorem u_word3 (b : List Int) (i h : Int) (hb : b.length ≤ 1048576) (hi : 0 ≤ i) : u_dr (spec_l3Word.f b i h) (fun r => -1 ≤ r ∧ r ≤ 2147483648) := by
  unfold spec_l3Word.f
  refine u_drew (u_once b i h 10 hb hi) fun r i h hi hr => ?_
  cases r with
  | true =>
    simp only [if_true]
    refine u_drew (u_pick b i h _ hb hi (by simp)) fun r i h hi hr => u_done hi ?_
    simp only [List.mem_cons, List.not_mem_nil, or_false] at hr; omega
  | false =>
    simp only [Bool.false_eq_true, if_false]
    refine u_drew (u_once b i h 4 hb hi) fun r i h hi hr => ?_
    cases r with
    | true =>
      simp only [if_true]
      refine u_drew (u_pick b i h _ hb hi (by simp)) fun r i h hi hr => u_done hi ?_
      simp only [List.mem_cons, List.not_mem_nil, or_false] at hr; omega
    | false =>
      simp only [Bool.false_eq_true, if_false]
      refine u_drew (u_below b i h 1000000 hb hi) fun r i h hi hr => u_drew (u_below b i h 2000 hb hi) fun r2 i h hi hr2 => ?_
      have h1 : r * r2 ≤ 999999 * r2 := Int.mul_le_mul_of_nonneg_right (by omega) hr2.1
      have h2 : 0 ≤ r * r2 := Int.mul_nonneg hr.1 hr2.1
      dsimp only
      rw [u_w64 (by omega) (by omega)]
      exact u_done hi (by omega)
theorem u_bytesd_l (b : List Int) (hb : b.length ≤ 1048576) (n : Int) (hn : n ≤ 1048576) (d : Nat) : ∀ (j i h : Int) (out : List Int), 0 ≤ j → j + d = n ∨ (d = 0 ∧ n ≤ j) → out.length ≤ j → j ≤ 1048576 → 0 ≤ i → (∀ x ∈ out, 0 ≤ x ∧ x ≤ 255) →
    ∃ r i' h', Ev (fun k => spec_l1Bytes.l0 k n out j b i h) (r, i', h') ∧ 0 ≤ i' ∧ (∀ x ∈ r, 0 ≤ x ∧ x ≤ 255) ∧ r.length = out.length + d := by
  induction d with
  | zero =>
    intro j i h out h0 hd hl hj hi hx
    refine ⟨out, i, h, u_evsucc ?_, hi, hx, by omega⟩
    simp only [spec_l1Bytes.l0]
    exact u_ev_neg (by omega) (Ev.now _)
  | succ d ih =>
    intro j i h out h0 hd hl hj hi hx
    obtain ⟨r, i1, h1, e, hi1, hr⟩ := u_byte b i h hb hi
    obtain ⟨r', i', h', he, hi', hx', hl'⟩ := ih (j + 1) i1 h1 (out ++ [r % 256]) (by omega) (by omega) (by simp; omega) (by omega) hi1 (by
      intro x hm
      rcases List.mem_append.1 hm with hm | hm
      · exact hx x hm
      · simp at hm; omega)
    refine ⟨r', i', h', u_evsucc ?_, hi', hx', by simp at hl'; omega⟩
    simp only [spec_l1Bytes.l0, e, Option.bind_some]
    refine u_ev_pos (by omega) (u_ev_pos (by omega) ?_)
    rw [u_w64 (x := j + 1) (by omega) (by omega)]
    exact he
theorem u_bytesd (b : List Int) (i h n : Int) (hb : b.length ≤ 1048576) (hn : n ≤ 1048576) (hi : 0 ≤ i) : ∃ r i' h', Ev (fun k => spec_l1Bytes.f k b i h n) (r, i', h') ∧ 0 ≤ i' ∧ (∀ x ∈ r, 0 ≤ x ∧ x ≤ 255) ∧ r.length = n.toNat := by
  unfold spec_l1Bytes.f
  obtain ⟨r, i', h', he, h0, hx, hl⟩ := u_bytesd_l b hb n hn n.toNat 0 i h [] (by omega) (by omega) (by simp) (by omega) hi (by simp)
  exact ⟨r, i', h', he, h0, hx, by simpa using hl⟩
theorem u_sameBytes (x : List Int) (hx : x.length ≤ 1152921504606846976) : Ev (fun k => laws_sameBytes.f k x x) true := by
  unfold laws_sameBytes.f
  simp only [if_true]
  refine u_evloop (fun k i => laws_sameBytes.l0 k x x (i : Int)) x.length true (fun i hi => ⟨0, fun k _ => ?_⟩) ⟨0, fun k _ => ?_⟩
  · simp only [laws_sameBytes.l0]
    rw [if_pos (by omega), if_pos (by omega), if_pos (by omega), if_pos trivial, u_w64 (by omega) (by omega)]; simp
  · simp only [laws_sameBytes.l0]
    rw [if_neg (by omega)]
theorem u_big {α : Type} {f g : Nat → Option α} {x : List Int} {r : α} (h1 : Ev f r) (h2 : x.length ≤ 1048576 → Ev g r) : Ev (fun k => (laws_big.f x).bind fun t => if t = true then f k else g k) r := by
  unfold laws_big.f
  simp only [Option.bind_some]
  by_cases h : (x.length : Int) > 1048576
  · simpa [h] using h1
  · simpa [h] using h2 (by omega)
theorem u_cr_byte (f : Int → Int → Int) (hf : ∀ j b, 0 ≤ f j b ∧ f j b ≤ 255) (x : List Int) (n : Nat) : ∀ y ∈ u_cr f x n, 0 ≤ y ∧ y ≤ 255 := by
  intro y hy
  unfold u_cr at hy
  obtain ⟨j, _, rfl⟩ := List.mem_map.1 hy
  exact hf _ _
theorem u_cr_back (f g : Int → Int → Int) (x : List Int) (h : ∀ j b, 0 ≤ b → b ≤ 255 → g j (f j b) = b) (hx : ∀ y ∈ x, 0 ≤ y ∧ y ≤ 255) : u_cr g (u_cr f x x.length) x.length = x := by
  apply List.ext_getElem
  · rw [u_cr_length]
  · intro i h1 h2
    have e : (u_cr g (u_cr f x x.length) x.length).getD i 0 = x.getD i 0 := by
      rw [u_cr_get _ _ _ _ h2, u_cr_get _ _ _ _ h2]
      have := hx _ (List.getElem_mem h2)
      rw [h _ _ (by simpa [List.getD_eq_getElem?_getD, List.getElem?_eq_getElem h2] using this.1) (by simpa [List.getD_eq_getElem?_getD, List.getElem?_eq_getElem h2] using this.2)]
    simpa [List.getD_eq_getElem?_getD, List.getElem?_eq_getElem h1, List.getElem?_eq_getElem h2] using e

theorem FnCipher : laws_FnCipher.Pure := by
  intro l _ _ hw
  refine Ev.rounds ?_
  unfold laws_FnCipher.f
  refine u_big (Ev.now true) fun hb => ?_
  obtain ⟨h0, hn⟩ := u_new l hb
  obtain ⟨a, i1, h1, e1, hi1, ha⟩ := u_word3 l 0 h0 hb (by omega)
  obtain ⟨n, i2, h2, e2, hi2, hn2⟩ := u_below l i1 h1 8 hb hi1
  obtain ⟨x, i3, h3, e3, hi3, hx, hl⟩ := u_bytesd l i2 h2 n hb (by omega) hi2
  have hdraw : Ev (fun k => spec_DrawEncrypt.f k l) (a, x) := by
    unfold spec_DrawEncrypt.f
    refine Ev.bind hn ?_
    simp only [e1, e2, Option.bind_some]
    exact Ev.bind e3 (Ev.now _)
  have hbx := u_bytes_of x hx
  have he := u_iencr a x (by omega) hbx
  have hd := u_idecr a x (by omega) hbx
  have le := u_cr_len (u_eb a) x
  have ld := u_cr_len (u_db a) x
  have be := u_bytes_of _ (u_cr_byte (u_eb a) (fun j b => by unfold u_eb; omega) x x.length)
  have bd := u_bytes_of _ (u_cr_byte (u_db a) (fun j b => by unfold u_db; omega) x x.length)
  have hde := u_idecr a (u_cr (u_eb a) x x.length) (by omega) be
  have hed := u_iencr a (u_cr (u_db a) x x.length) (by omega) bd
  rw [le, u_cr_back (u_eb a) (u_db a) x (fun j b h1 h2 => by unfold u_eb u_db; omega) hx] at hde
  rw [ld, u_cr_back (u_db a) (u_eb a) x (fun j b h1 h2 => by unfold u_eb u_db; omega) hx] at hed
  have hs := u_sameBytes x (by omega)
  refine Ev.bind hdraw (Ev.bind he (Ev.bind hde (Ev.bind hs (u_ev_pos (by trivial) (Ev.bind hd (Ev.bind hed (Ev.bind hs (u_ev_pos (by trivial) (Ev.bind he ?_)))))))))
  rw [le]
  simp only [beq_self_eq_true]
  exact Ev.now true

end Go.Proofs.Ytolepbdmbedloac.Pure
