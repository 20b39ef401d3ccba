/- FnExactParseInt returns true for every string; no condition. -/
import Derived.Test.YtolepbdmbedloaaPFnExactParseIntx1
namespace Go.Proofs.Ytolepbdmbedloaa.Pure
open Go.RowKit Go.Proofs.Ytolepbdmbedloaa.PFnExactParseInt Go.Proofs.YtolepbdmbedloaaW.PrintWords Go.Proofs.YtolepbdmbedloaaW.PrintLast
set_option linter.unusedVariables false
set_option linter.unusedSimpArgs false

theorem u_evloop {ρ : Type} (g : Nat → Nat → Option ρ) (n : Nat) (r : ρ) (hs : ∀ i, i < n → ∃ K, ∀ k, K ≤ k → g (k + 1) i = g k (i + 1)) (he : ∃ K, ∀ k, K ≤ k → g (k + 1) n = some r) : Ev (fun k => g k 0) r := by
  have h : ∀ d i, i + d = n → Ev (fun k => g k i) r := by
    intro d
    induction d with
    | zero =>
      intro i hi
      obtain ⟨K, hK⟩ := he
      refine ⟨K + 1, fun k hk => ?_⟩
      obtain ⟨k, rfl⟩ : ∃ m, k = m + 1 := ⟨k - 1, by omega⟩
      obtain rfl : i = n := by omega
      exact hK k (by omega)
    | succ d ih =>
      intro i hi
      obtain ⟨K, hK⟩ := hs i (by omega)
      obtain ⟨L, hL⟩ := ih (i + 1) (by omega)
      refine ⟨K + L + 1, fun k hk => ?_⟩
      obtain ⟨k, rfl⟩ : ∃ m, k = m + 1 := ⟨k - 1, by omega⟩
      show g (k + 1) i = some r
      rw [hK k (by omega)]
      exact hL k (by omega)
  exact h n 0 (by omega)
theorem u_ev_ite {α : Type} {c : Prop} [Decidable c] {f g : Nat → Option α} {r : α} (h1 : c → Ev f r) (h2 : ¬ c → Ev g r) : Ev (fun k => if c then f k else g k) r := by
  by_cases h : c
  · simpa [h] using h1 h
  · simpa [h] using h2 h
theorem u_w64 {x : Int} (h1 : -9223372036854775808 ≤ x) (h2 : x ≤ 9223372036854775807) : wrap64 x = x := by unfold wrap64; omega
theorem u_rd (xs : List Int) (i : Nat) : rd xs (i : Int) = xs.getD i 0 := by simp [rd]
theorem u_set_fill {α : Type} (xs : List α) (z d : α) (i : Nat) (h : i < xs.length) : (xs.take i ++ List.replicate (xs.length - i) z).set i (xs.getD i d) = xs.take (i + 1) ++ List.replicate (xs.length - (i + 1)) z := by
  apply List.ext_getElem?
  intro j
  have hl : (xs.take i).length = i := by simp; omega
  rcases Nat.lt_trichotomy j i with h1 | h1 | h1
  · rw [List.getElem?_set_ne (by omega), List.getElem?_append_left (by omega), List.getElem?_append_left (by simp; omega)]
    simp [List.getElem?_take, h1, show j < i + 1 by omega]
  · subst h1
    rw [List.getElem?_set_self (by simp; omega), List.getElem?_append_left (by simp; omega)]
    simp [List.getElem?_take, List.getD_eq_getElem?_getD, List.getElem?_eq_getElem h]
  · rw [List.getElem?_set_ne (by omega), List.getElem?_append_right (by omega), List.getElem?_append_right (by simp; omega)]
    simp only [List.getElem?_replicate, hl, List.length_take]
    have e : min (i + 1) xs.length = i + 1 := by omega
    rw [e]
    by_cases h2 : j < xs.length
    · rw [if_pos (by omega), if_pos (by omega)]
    · rw [if_neg (by omega), if_neg (by omega)]
/-- What mark writes: the counters from k on. -/
def u_marks (f : Int → Int) (k : Int) (n : Nat) : List Int := (List.range n).map fun i : Nat => f (k + (i : Int))
theorem u_marks_len (f : Int → Int) (k : Int) (n : Nat) : (u_marks f k n).length = n := by simp [u_marks]
theorem u_marks_get (f : Int → Int) (k : Int) (n i : Nat) (h : i < n) : (u_marks f k n).getD i 0 = f (k + i) := by simp [u_marks, List.getD_eq_getElem?_getD, List.getElem?_map, List.getElem?_range h]
theorem u_marks_set (f : Int → Int) (k : Int) (xs : List Int) (i : Nat) (h : i < xs.length) : (u_marks f k i ++ xs.drop i).set i (f (k + i)) = u_marks f k (i + 1) ++ xs.drop (i + 1) := by
  have e : u_marks f k (i + 1) = u_marks f k i ++ [f (k + i)] := by simp [u_marks, List.range_succ]
  rw [e, List.set_append_right _ _ (by rw [u_marks_len]; omega), u_marks_len, Nat.sub_self, List.append_assoc]
  congr 1
  rw [List.drop_eq_getElem_cons h]
  rfl
theorem u_take_succ {α : Type} (xs : List α) (d : α) (i : Nat) (h : i < xs.length) : xs.take (i + 1) = xs.take i ++ [xs.getD i d] := by
  rw [List.take_succ_eq_append_getElem h]; simp [List.getD_eq_getElem?_getD, List.getElem?_eq_getElem h]
theorem u_str_cons (c : Int) (L : List Int) : strOfNums [c] ++ strOfNums L = strOfNums (c :: L) := by
  apply ByteArray.ext
  rw [ByteArray.data_append]
  simp [strOfNums]
theorem u_str_size (L : List Int) : (strOfNums L).size = L.length := strOfNums_size L
theorem u_bytesOf_range (s : ByteArray) : ∀ x ∈ bytesOf s, 0 ≤ x ∧ x ≤ 255 := by
  intro x hx
  unfold bytesOf at hx
  obtain ⟨b, _, rfl⟩ := List.mem_map.1 hx
  have := b.toNat_lt
  omega
theorem u_str_eq (L : List Int) (s : ByteArray) (hL : ∀ x ∈ L, 0 ≤ x ∧ x ≤ 255) : (strOfNums L).toList = s.toList ↔ L = bytesOf s := by
  rw [ByteArray.toList_eq, ByteArray.toList_eq, strOfNums_data]
  unfold bytesOf
  constructor
  · intro h
    rw [← h, List.map_map]
    symm
    rw [List.map_congr_left (g := id)]
    · simp
    · intro x hx
      have := hL x hx
      simp only [Function.comp, id]
      rw [UInt8.toNat_ofNat']
      omega
  · intro h
    rw [h, List.map_map]
    conv => rhs; rw [← List.map_id s.data.toList]
    apply List.map_congr_left
    intro b _
    simp
/-- The decimal digits of a number that is not negative, as bytes; none for 0. -/
def u_dg : Nat → Int → List Int
  | 0, _ => []
  | d + 1, n => if n = 0 then [] else u_dg d (n / 10) ++ [48 + n % 10]
def u_fmt (n : Int) : List Int := if n = 0 then [48] else u_dg 20 n
theorem u_dg_range (d : Nat) : ∀ n, 0 ≤ n → ∀ x ∈ u_dg d n, 48 ≤ x ∧ x ≤ 57 := by
  induction d with
  | zero => intro n _ x hx; simp [u_dg] at hx
  | succ d ih =>
    intro n h0 x hx
    unfold u_dg at hx
    split at hx
    · simp at hx
    · rcases List.mem_append.1 hx with h | h
      · exact ih (n / 10) (by omega) x h
      · simp at h; subst h; omega
theorem u_dg_len (d : Nat) : ∀ n, (u_dg d n).length ≤ d := by
  induction d with
  | zero => intro n; simp [u_dg]
  | succ d ih =>
    intro n; unfold u_dg; split
    · simp
    · have := ih (n / 10); simp; omega
theorem u_fmt_range (n : Int) (h : 0 ≤ n) : ∀ x ∈ u_fmt n, 48 ≤ x ∧ x ≤ 57 := by
  intro x hx
  unfold u_fmt at hx
  split at hx
  · simp at hx; omega
  · exact u_dg_range 20 n h x hx
theorem u_dg_more (d : Nat) : ∀ n, 0 ≤ n → n < 10 ^ d → u_dg (d + 1) n = u_dg d n := by
  induction d with
  | zero => intro n h0 h1; obtain rfl : n = 0 := by simp at h1; omega
            simp [u_dg]
  | succ d ih =>
    intro n h0 h1
    have e := ih (n / 10) (by omega) (by rw [Int.pow_succ] at h1; omega)
    have a : u_dg (d + 1 + 1) n = if n = 0 then [] else u_dg (d + 1) (n / 10) ++ [48 + n % 10] := rfl
    have b : u_dg (d + 1) n = if n = 0 then [] else u_dg d (n / 10) ++ [48 + n % 10] := rfl
    rw [a, b, e]
theorem u_dg_up (d e : Nat) (hde : d ≤ e) : ∀ n, 0 ≤ n → n < 10 ^ d → u_dg e n = u_dg d n := by
  induction e with
  | zero => intro n _ _; obtain rfl : d = 0 := by omega
            rfl
  | succ e ih =>
    intro n h0 h1
    by_cases h : d = e + 1
    · rw [h]
    · have hlt : n < 10 ^ e := by
        have : (10 : Int) ^ d ≤ 10 ^ e := by
          have := Nat.pow_le_pow_right (n := 10) (by omega) (show d ≤ e by omega)
          exact_mod_cast this
        omega
      rw [u_dg_more e n h0 hlt]; exact ih (by omega) n h0 h1
theorem u_dg_head (d : Nat) : ∀ n, 0 < n → n < 10 ^ d → u_dg d n ≠ [] ∧ (u_dg d n).getD 0 0 ≠ 48 := by
  induction d with
  | zero => intro n h0 h1; simp at h1; omega
  | succ d ih =>
    intro n h0 h1
    unfold u_dg
    rw [if_neg (by omega)]
    refine ⟨by simp, ?_⟩
    by_cases h : n / 10 = 0
    · rw [h]
      have e : u_dg d 0 = [] := by cases d <;> simp [u_dg]
      rw [e]; simp; omega
    · have hh := ih (n / 10) (by omega) (by rw [Int.pow_succ] at h1; omega)
      have hp : 0 < (u_dg d (n / 10)).length := List.length_pos_iff.2 hh.1
      rw [List.getD_eq_getElem?_getD, List.getElem?_append_left hp, ← List.getD_eq_getElem?_getD]
      exact hh.2
def u_val (L : List Int) : Int := L.foldl (fun v b => 10 * v + (b - 48)) 0
theorem u_val_snoc (L : List Int) (c : Int) : u_val (L ++ [c]) = 10 * u_val L + (c - 48) := by simp [u_val, List.foldl_append]
theorem u_val_bd (n : Nat) : ∀ L : List Int, L.length = n → (∀ x ∈ L, 48 ≤ x ∧ x ≤ 57) → 0 ≤ u_val L ∧ u_val L < 10 ^ n := by
  induction n with
  | zero => intro L hl _; obtain rfl := List.eq_nil_of_length_eq_zero hl; simp [u_val]
  | succ n ih =>
    intro L hl hd
    have hne : L ≠ [] := by intro h; rw [h] at hl; simp at hl
    have e := List.dropLast_concat_getLast hne
    have h1 := ih L.dropLast (by simp; omega) (fun x hx => hd x ((List.dropLast_sublist L).subset hx))
    have h2 := hd _ (List.getLast_mem hne)
    rw [← e, u_val_snoc, Int.pow_succ]
    omega
theorem u_fmt_val (n : Nat) : ∀ L : List Int, L.length = n + 1 → (∀ x ∈ L, 48 ≤ x ∧ x ≤ 57) → L.getD 0 0 ≠ 48 → 0 < u_val L ∧ u_dg (n + 1) (u_val L) = L := by
  induction n with
  | zero =>
    intro L hl hd hh
    match L, hl with
    | [c], _ =>
      have := hd c (by simp)
      simp at hh
      refine ⟨by simp [u_val]; omega, ?_⟩
      have e : u_val [c] = c - 48 := by simp [u_val]
      rw [e, u_dg, if_neg (by omega)]
      simp [u_dg]; omega
  | succ n ih =>
    intro L hl hd hh
    have hne : L ≠ [] := by intro h; rw [h] at hl; simp at hl
    have e := List.dropLast_concat_getLast hne
    have hlen : L.dropLast.length = n + 1 := by simp; omega
    have hd2 : ∀ x ∈ L.dropLast, 48 ≤ x ∧ x ≤ 57 := fun x hx => hd x ((List.dropLast_sublist L).subset hx)
    have hh2 : L.dropLast.getD 0 0 ≠ 48 := by
      rw [← e] at hh
      rw [List.getD_eq_getElem?_getD, List.getElem?_append_left (by omega), ← List.getD_eq_getElem?_getD] at hh
      exact hh
    obtain ⟨h1, h2⟩ := ih L.dropLast hlen hd2 hh2
    have h3 := hd _ (List.getLast_mem hne)
    generalize L.getLast hne = c at e h3
    generalize L.dropLast = M at *
    subst e
    rw [u_val_snoc]
    refine ⟨by omega, ?_⟩
    rw [u_dg, if_neg (by omega)]
    have e1 : (10 * u_val M + (c - 48)) / 10 = u_val M := by omega
    have e2 : 48 + (10 * u_val M + (c - 48)) % 10 = c := by omega
    rw [e1, e2, h2]
theorem u_fmt_iff (L : List Int) (h1 : 1 ≤ L.length) (h2 : L.length ≤ 19) (hd : ∀ x ∈ L, 48 ≤ x ∧ x ≤ 57) : u_fmt (u_val L) = L ↔ ¬ (1 < L.length ∧ L.getD 0 0 = 48) := by
  have hb := u_val_bd L.length L rfl hd
  constructor
  · rintro h ⟨h3, h4⟩
    unfold u_fmt at h
    split at h
    · rw [← h] at h3; simp at h3
    · have hlt : u_val L < 10 ^ 20 := by
        have : (10 : Int) ^ L.length ≤ 10 ^ 20 := by
          have := Nat.pow_le_pow_right (n := 10) (by omega) (show L.length ≤ 20 by omega)
          exact_mod_cast this
        omega
      have := (u_dg_head 20 (u_val L) (by omega) hlt).2
      rw [h] at this; exact this h4
  · intro h
    by_cases h4 : L.getD 0 0 = 48
    · have h3 : L.length = 1 := by
        by_cases hc : 1 < L.length
        · exact absurd ⟨hc, h4⟩ h
        · omega
      match L, h3 with
      | [c], _ => simp at h4; subst h4; simp [u_val, u_fmt]
    · obtain ⟨n, hn⟩ : ∃ n, L.length = n + 1 := ⟨L.length - 1, by omega⟩
      have := u_fmt_val n L hn hd h4
      unfold u_fmt
      rw [if_neg (by omega)]
      rw [← hn] at this
      rw [u_dg_up L.length 20 (by omega) _ hb.1 hb.2]; exact this.2
theorem u_first_bad (p : Nat → Prop) [DecidablePred p] (n : Nat) : (∀ i, i < n → p i) ∨ ∃ m, m < n ∧ ¬ p m ∧ ∀ i, i < m → p i := by
  by_cases hex : ∃ m, m < n ∧ ¬ p m
  · right
    obtain ⟨d, hd⟩ := hex
    induction d using Nat.strongRecOn with
    | ind d ih =>
      by_cases h : ∃ m, m < d ∧ (m < n ∧ ¬ p m)
      · obtain ⟨m, hm, hp⟩ := h; exact ih m hm hp
      · refine ⟨d, hd.1, hd.2, fun i hi => ?_⟩
        by_cases e : p i
        · exact e
        · exact absurd ⟨i, hi, by omega, e⟩ h
  · left
    intro i hi
    by_cases e : p i
    · exact e
    · exact absurd ⟨i, hi, e⟩ hex
/-- What ParseInt tells of the bytes of a string. -/
def u_parse (B : List Int) : Int × Bool := if 1 ≤ B.length ∧ B.length ≤ 13 ∧ (∀ x ∈ B, 48 ≤ x ∧ x ≤ 57) ∧ ¬ (1 < B.length ∧ B.getD 0 0 = 48) ∧ u_val B ≤ 1000000000000 then (u_val B, true) else (0, false)
theorem u_val_take (B : List Int) (i : Nat) (h : i < B.length) : u_val (B.take (i + 1)) = 10 * u_val (B.take i) + (B.getD i 0 - 48) := by
  rw [u_take_succ B 0 i h, u_val_snoc]
theorem u_val_take_bd (B : List Int) (i : Nat) (h : i ≤ B.length) (hl : B.length ≤ 13) (hp : ∀ j, j < i → 48 ≤ B.getD j 0 ∧ B.getD j 0 ≤ 57) : 0 ≤ u_val (B.take i) ∧ u_val (B.take i) < 10000000000000 := by
  have := u_val_bd i (B.take i) (by simp; omega) (by
    intro x hx
    obtain ⟨j, hj, rfl⟩ := List.getElem_of_mem hx
    have hj2 : j < i := by simp at hj; omega
    have := hp j hj2
    rw [List.getD_eq_getElem?_getD, List.getElem?_eq_getElem (by omega)] at this
    simpa using this)
  have h2 : (10 : Int) ^ i ≤ 10 ^ 13 := by
    have := Nat.pow_le_pow_right (n := 10) (by omega) (show i ≤ 13 by omega)
    exact_mod_cast this
  omega
theorem u_digits_mem (B : List Int) : (∀ x ∈ B, 48 ≤ x ∧ x ≤ 57) ↔ ∀ i, i < B.length → 48 ≤ B.getD i 0 ∧ B.getD i 0 ≤ 57 := by
  constructor
  · intro h i hi
    rw [List.getD_eq_getElem?_getD, List.getElem?_eq_getElem hi]; exact h _ (List.getElem_mem hi)
  · intro h x hx
    obtain ⟨j, hj, rfl⟩ := List.getElem_of_mem hx
    have := h j hj
    rw [List.getD_eq_getElem?_getD, List.getElem?_eq_getElem hj] at this; exact this
theorem u_bt (s : ByteArray) (i : Nat) : bt s (i : Int) = (bytesOf s).getD i 0 := by rw [← rd_bytesOf, u_rd]
theorem u_b_range (s : ByteArray) (i : Nat) : 0 ≤ (bytesOf s).getD i 0 ∧ (bytesOf s).getD i 0 ≤ 255 := by rw [← u_bt]; exact bt_range s i
theorem u_evsucc {α : Type} {g : Nat → Option α} {r : α} (h : Ev (fun k => g (k + 1)) r) : Ev g r := by
  obtain ⟨K, hK⟩ := h
  refine ⟨K + 1, fun k hk => ?_⟩
  obtain ⟨k, rfl⟩ : ∃ m, k = m + 1 := ⟨k - 1, by omega⟩
  exact hK k (by omega)
theorem u_ev_pos {α : Type} {c : Prop} [Decidable c] {f g : Nat → Option α} {r : α} (hc : c) (h : Ev f r) : Ev (fun k => if c then f k else g k) r := by simpa [hc] using h
theorem u_ev_neg {α : Type} {c : Prop} [Decidable c] {f g : Nat → Option α} {r : α} (hc : ¬ c) (h : Ev g r) : Ev (fun k => if c then f k else g k) r := by simpa [hc] using h
theorem u_sfmt_l (n0 : Int) (hn : 0 ≤ n0) (d : Nat) : ∀ (x : Int) (L : List Int), 0 ≤ x → x < 10 ^ d → x ≤ 9223372036854775807 → L.length + d ≤ 1000 → Ev (fun k => spec_FormatInt.l0 k n0 (strOfNums L) x) (strOfNums (u_dg d x ++ L)) := by
  induction d with
  | zero =>
    intro x L h0 h1 h2 hl
    obtain rfl : x = 0 := by simp at h1; omega
    refine u_evsucc ?_
    simp only [spec_FormatInt.l0]
    refine u_ev_pos (by trivial) (u_ev_neg (by omega) ?_)
    simpa [u_dg] using Ev.now (strOfNums L)
  | succ d ih =>
    intro x L h0 h1 h2 hl
    refine u_evsucc ?_
    simp only [spec_FormatInt.l0]
    by_cases hx : x = 0
    · refine u_ev_pos hx (u_ev_neg (by omega) ?_)
      simpa [u_dg, hx] using Ev.now (strOfNums L)
    · refine u_ev_neg hx ?_
      rw [Int.tmod_eq_emod_of_nonneg h0, Int.tdiv_eq_ediv_of_nonneg h0]
      refine u_ev_neg (by omega) ?_
      simp only [Option.bind_some]
      rw [u_w64 (x := 48 + x % 10) (by omega) (by omega), Int.emod_eq_of_lt (a := 48 + x % 10) (by omega) (by omega), u_w64 (x := x / 10) (by omega) (by omega)]
      refine u_ev_pos (by rw [u_str_size, u_str_size]; simp; omega) ?_
      rw [u_str_cons]
      have h := ih (x / 10) ((48 + x % 10) :: L) (by omega) (by rw [Int.pow_succ] at h1; omega) (by omega) (by simp; omega)
      have e : u_dg (d + 1) x ++ L = u_dg d (x / 10) ++ (48 + x % 10) :: L := by rw [u_dg, if_neg hx]; simp
      rw [e]; exact h
theorem u_sfmt_pos (n : Int) (h0 : 0 ≤ n) (h1 : n ≤ 9223372036854775807) : Ev (fun k => spec_FormatInt.f k n) (strOfNums (u_fmt n)) := by
  unfold spec_FormatInt.f u_fmt
  by_cases h : n = 0
  · simp only [h, if_true]
    have e : (⟨#[48]⟩ : ByteArray) = strOfNums [48] := rfl
    rw [e]; exact Ev.now _
  · simp only [h, if_false]
    have e : (⟨#[]⟩ : ByteArray) = strOfNums [] := rfl
    rw [e]
    have := u_sfmt_l n h0 20 n [] h0 (by omega) h1 (by simp)
    simpa using this
theorem u_sparse (s : ByteArray) (hs : s.size ≤ 140737488355328) : Ev (fun k => spec_ParseInt.f k s) (u_parse (bytesOf s)) := by
  unfold spec_ParseInt.f spec_l1In.f
  have hl := bytesOf_length s
  by_cases h1 : 1 ≤ s.size
  case neg =>
    have e : u_parse (bytesOf s) = (0, false) := by unfold u_parse; rw [if_neg (by omega)]
    rw [e]
    simp only [ge_iff_le, show ¬ (1 : Int) ≤ (s.size : Int) by omega, if_false, Option.bind_some, Bool.false_eq_true]
    exact Ev.now _
  by_cases h2 : s.size ≤ 13
  case neg =>
    have e : u_parse (bytesOf s) = (0, false) := by unfold u_parse; rw [if_neg (by omega)]
    rw [e]
    simp only [ge_iff_le, show (1 : Int) ≤ (s.size : Int) by omega, show ¬ (s.size : Int) ≤ 13 by omega, if_true, Option.bind_some, decide_false, Bool.false_eq_true, if_false]
    exact Ev.now _
  simp only [ge_iff_le, show (1 : Int) ≤ (s.size : Int) by omega, show (s.size : Int) ≤ 13 by omega, if_true, Option.bind_some, decide_true]
  have step : ∀ i : Nat, i < s.size → (∀ j, j < i → 48 ≤ (bytesOf s).getD j 0 ∧ (bytesOf s).getD j 0 ≤ 57) → (48 ≤ (bytesOf s).getD i 0 ∧ (bytesOf s).getD i 0 ≤ 57) → ∀ k, spec_ParseInt.l0 (k + 1) s (u_val ((bytesOf s).take i)) i = spec_ParseInt.l0 k s (u_val ((bytesOf s).take (i + 1))) ((i + 1 : Nat) : Int) := by
    intro i hi hp hd k
    have hb := u_val_take_bd (bytesOf s) i (by omega) (by omega) hp
    simp only [spec_ParseInt.l0, spec_l1In.f]
    rw [if_pos (by omega), if_pos (by omega), u_bt, u_w64 (x := (bytesOf s).getD i 0) (by omega) (by omega), if_pos (by omega)]
    simp only [hd.2, decide_true, Option.bind_some, if_true]
    rw [Int.emod_eq_of_lt (a := (bytesOf s).getD i 0 - 48) (by omega) (by omega), u_w64 (x := 10 * _) (by omega) (by omega), u_w64 (x := 10 * _ + _) (by omega) (by omega), u_w64 (by omega) (by omega), u_val_take _ _ (by omega)]
    simp
  rcases u_first_bad (fun i => 48 ≤ (bytesOf s).getD i 0 ∧ (bytesOf s).getD i 0 ≤ 57) s.size with hall | ⟨m, hm, hbad, hp⟩
  · have hd := (u_digits_mem (bytesOf s)).2 (by rw [hl]; exact hall)
    have hb := u_val_take_bd (bytesOf s) s.size (by omega) (by omega) hall
    rw [List.take_of_length_le (by omega)] at hb
    obtain ⟨K, hK⟩ := u_sfmt_pos (u_val (bytesOf s)) hb.1 (by omega)
    have h := u_evloop (fun k i => spec_ParseInt.l0 k s (u_val ((bytesOf s).take i)) (i : Int)) s.size (u_parse (bytesOf s)) (fun i hi => ⟨0, fun k _ => step i hi (fun j hj => hall j (by omega)) (hall i hi) k⟩) ⟨K, fun k hk => ?_⟩
    · simpa [u_val] using h
    · have e : spec_FormatInt.f k (u_val (bytesOf s)) = some (strOfNums (u_fmt (u_val (bytesOf s)))) := hK k hk
      have hfr := u_fmt_range (u_val (bytesOf s)) hb.1
      simp only [spec_ParseInt.l0]
      rw [if_neg (by omega), List.take_of_length_le (by omega), e]
      simp only [Option.bind_some]
      have hiff := u_fmt_iff (bytesOf s) (by omega) (by omega) hd
      by_cases hv : u_val (bytesOf s) > 1000000000000
      · rw [if_pos hv]
        have e : u_parse (bytesOf s) = (0, false) := by unfold u_parse; rw [if_neg (by omega)]
        rw [e]
      · rw [if_neg hv]
        by_cases hz : 1 < (bytesOf s).length ∧ (bytesOf s).getD 0 0 = 48
        · rw [if_neg (fun hc => (hiff.1 ((u_str_eq _ s (fun x hx => by have := hfr x hx; omega)).1 hc)) hz)]
          have e : u_parse (bytesOf s) = (0, false) := by unfold u_parse; rw [if_neg (fun hc => hc.2.2.2.1 hz)]
          rw [e]
        · rw [if_pos ((u_str_eq _ s (fun x hx => by have := hfr x hx; omega)).2 (hiff.2 hz))]
          have e : u_parse (bytesOf s) = (u_val (bytesOf s), true) := by unfold u_parse; rw [if_pos ⟨by omega, by omega, hd, hz, by omega⟩]
          rw [e]
  · have e : u_parse (bytesOf s) = (0, false) := by
      unfold u_parse; rw [if_neg (fun hc => hbad ((u_digits_mem _).1 hc.2.2.1 m (by omega)))]
    rw [e]
    have h := u_evloop (fun k i => spec_ParseInt.l0 k s (u_val ((bytesOf s).take i)) (i : Int)) m (0, false) (fun i hi => ⟨0, fun k _ => step i (by omega) (fun j hj => hp j (by omega)) (hp i hi) k⟩) ⟨0, fun k hk => ?_⟩
    · simpa [u_val] using h
    · have hr := u_b_range s m
      simp only [spec_ParseInt.l0, spec_l1In.f]
      rw [if_pos (by omega), if_pos (by omega), u_bt, u_w64 (x := (bytesOf s).getD m 0) (by omega) (by omega)]
      by_cases h48 : (bytesOf s).getD m 0 ≥ 48
      · rw [if_pos h48]
        simp only [show ¬ (bytesOf s).getD m 0 ≤ 57 from fun h => hbad ⟨h48, h⟩, decide_false, Option.bind_some, Bool.false_eq_true, if_false]
      · rw [if_neg h48]
        simp only [Option.bind_some, Bool.false_eq_true, if_false]
theorem u_iparse (s : ByteArray) (hs : s.size ≤ 140737488355328) : Ev (fun k => impl_ParseInt.f k s) (u_parse (bytesOf s)) := by
  unfold impl_ParseInt.f
  have hl := bytesOf_length s
  have hfalse : Ev (fun k => impl_ParseInt.j0 k s true) (0, false) := by
    refine u_evsucc ?_
    simp only [impl_ParseInt.j0, if_true]
    exact Ev.now _
  refine u_ev_ite (fun h0 => ?_) (fun h0 => u_ev_ite (fun h1 => ?_) (fun h1 => ?_))
  · have e : u_parse (bytesOf s) = (0, false) := by unfold u_parse; rw [if_neg (by omega)]
    rw [e]; exact hfalse
  · have e : u_parse (bytesOf s) = (0, false) := by unfold u_parse; rw [if_neg (by omega)]
    rw [e]; exact hfalse
  have step : ∀ i : Nat, i < s.size → (∀ j, j < i → 48 ≤ (bytesOf s).getD j 0 ∧ (bytesOf s).getD j 0 ≤ 57) → (48 ≤ (bytesOf s).getD i 0 ∧ (bytesOf s).getD i 0 ≤ 57) → ∀ k, impl_ParseInt.l0 (k + 1) s (u_val ((bytesOf s).take i)) s.size i = impl_ParseInt.l0 k s (u_val ((bytesOf s).take (i + 1))) s.size ((i + 1 : Nat) : Int) := by
    intro i hi hp hd k
    have hb := u_val_take_bd (bytesOf s) i (by omega) (by omega) hp
    simp only [impl_ParseInt.l0]
    rw [if_pos (by omega), if_pos (by omega), if_pos (by omega), u_bt, if_neg (by omega), if_neg (by omega), Int.emod_eq_of_lt (a := (bytesOf s).getD i 0 - 48) (by omega) (by omega), u_w64 (x := 10 * _) (by omega) (by omega), u_w64 (x := 10 * _ + _) (by omega) (by omega), u_w64 (by omega) (by omega), u_val_take _ _ (by omega)]
    simp
  have main : ¬ (1 < (bytesOf s).length ∧ (bytesOf s).getD 0 0 = 48) → Ev (fun k => impl_ParseInt.l0 k s 0 s.size 0) (u_parse (bytesOf s)) := by
    intro hz
    rcases u_first_bad (fun i => 48 ≤ (bytesOf s).getD i 0 ∧ (bytesOf s).getD i 0 ≤ 57) s.size with hall | ⟨m, hm, hbad, hp⟩
    · have hd := (u_digits_mem (bytesOf s)).2 (by rw [hl]; exact hall)
      have h := u_evloop (fun k i => impl_ParseInt.l0 k s (u_val ((bytesOf s).take i)) s.size (i : Int)) s.size (u_parse (bytesOf s)) (fun i hi => ⟨0, fun k _ => step i hi (fun j hj => hall j (by omega)) (hall i hi) k⟩) ⟨0, fun k hk => ?_⟩
      · simpa [u_val] using h
      · simp only [impl_ParseInt.l0]
        rw [if_neg (by omega), List.take_of_length_le (by omega)]
        by_cases hv : u_val (bytesOf s) > 1000000000000
        · rw [if_pos hv]
          have e : u_parse (bytesOf s) = (0, false) := by unfold u_parse; rw [if_neg (by omega)]
          rw [e]
        · rw [if_neg hv]
          have e : u_parse (bytesOf s) = (u_val (bytesOf s), true) := by unfold u_parse; rw [if_pos ⟨by omega, by omega, hd, hz, by omega⟩]
          rw [e]
    · have e : u_parse (bytesOf s) = (0, false) := by
        unfold u_parse; rw [if_neg (fun hc => hbad ((u_digits_mem _).1 hc.2.2.1 m (by omega)))]
      rw [e]
      have h := u_evloop (fun k i => impl_ParseInt.l0 k s (u_val ((bytesOf s).take i)) s.size (i : Int)) m (0, false) (fun i hi => ⟨0, fun k _ => step i (by omega) (fun j hj => hp j (by omega)) (hp i hi) k⟩) ⟨0, fun k hk => ?_⟩
      · simpa [u_val] using h
      · have hr := u_b_range s m
        simp only [impl_ParseInt.l0]
        rw [if_pos (by omega), if_pos (by omega), if_pos (by omega), u_bt]
        by_cases h48 : (bytesOf s).getD m 0 < 48
        · rw [if_pos h48]
        · rw [if_neg h48, if_pos (by omega)]
  have hfirst : bt s 0 = (bytesOf s).getD 0 0 := u_bt s 0
  refine u_ev_ite (fun h2 => u_ev_pos (by omega) ?_) (fun h2 => ?_)
  · by_cases hz : (bytesOf s).getD 0 0 = 48
    · have e : u_parse (bytesOf s) = (0, false) := by unfold u_parse; rw [if_neg (fun hc => hc.2.2.2.1 ⟨by omega, hz⟩)]
      rw [e]
      simp only [hfirst, hz, beq_self_eq_true]
      exact hfalse
    · have e0 : (bt s 0 == 48) = false := by rw [hfirst]; exact beq_eq_false_iff_ne.2 hz
      rw [e0]
      refine u_evsucc ?_
      simp only [impl_ParseInt.j0, Bool.false_eq_true, if_false]
      exact main (fun h => hz h.2)
  · refine u_evsucc ?_
    simp only [impl_ParseInt.j0, Bool.false_eq_true, if_false]
    exact main (fun h => by omega)

theorem FnExactParseInt : laws_FnExactParseInt.Pure := by
  intro s hs
  refine Ev.rounds ?_
  unfold laws_FnExactParseInt.f
  refine u_ev_ite (fun _ => Ev.now true) fun h1 => ?_
  refine Ev.bind (u_sparse s (by omega)) (Ev.bind (u_iparse s (by omega)) ?_)
  simp only [if_true, bne_self_eq_false, Bool.false_eq_true, if_false]
  exact Ev.now true

end Go.Proofs.Ytolepbdmbedloaa.Pure
