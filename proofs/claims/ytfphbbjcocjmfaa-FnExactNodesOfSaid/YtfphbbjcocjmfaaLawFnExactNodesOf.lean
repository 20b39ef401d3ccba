/- FnExactNodesOf returns true for every input, and each argument reads behind the call as it read before; no condition. -/
import Derived.Test.YtfphbbjcocjmfaaRows
import Derived.Test.YtfphbbjcocjmfaaPFnExactNodesOfx4
import Derived.Test.YtfphbbjcocjmfaaPureFnExactNodesOf
import Derived.WalkKit
import Derived.ProofKit
import Derived.OpenShut
import Derived.ShutString
import Derived.ChangeOld
import Derived.Below
import Derived.SizedLaws
import Derived.Lib.SmallJoins
import Derived.Deep.Slices
namespace Go.Proofs.Ytfphbbjcocjmfaa.fnExactNodesOf
open Go.ChangeShapes Go.WideShapes Go.ChangeAt Go.RowKit Go.Joins Go.Proofs.Ytfphbbjcocjmfaa.PFnExactNodesOf
open Go.ChangeMaps (open_string shut_string)
set_option linter.unusedVariables false
theorem own : ownKnob Try.prog.godebug = none := by kernel_rfl
theorem laidOut : laidOutB Try.prog = true := by kernel_rfl
theorem cells3 : Try.prog.cellsOf 3 = 1 := by kernel_rfl
theorem cells33 : Try.prog.cellsOf 33 = 1 := by kernel_rfl
theorem cells34 : Try.prog.cellsOf 34 = 1 := by kernel_rfl
theorem cells35 : Try.prog.cellsOf 35 = 1 := by kernel_rfl
theorem cells37 : Try.prog.cellsOf 37 = 10 := by kernel_rfl
theorem cells51 : Try.prog.cellsOf 51 = 4 := by kernel_rfl
theorem cells68 : Try.prog.cellsOf 68 = 3 := by kernel_rfl
theorem cells74 : Try.prog.cellsOf 74 = 2 := by kernel_rfl
theorem cells76 : Try.prog.cellsOf 76 = 3 := by kernel_rfl
/-- What is read of a struct's field. -/
theorem fld {α : Type} {xs : List α} {y : Option α} {k : Nat} (i : Nat) (hk : xs.length = k) (hi : i < k) (h : y = xs[i]?) : ∃ z, y = some z := ⟨xs[i]'(by omega), by rw [h]; exact List.getElem?_eq_getElem _⟩
section
variable {H : Type} {enc : TypeId × Value → H} {w : World} {base : Nat} {spare : Nat → Bool} {held : Bool}
theorem el51 {n : Nat} {cs : List Value} {y : DataW H × List MemPlace} (h : DataW.trod enc Try.prog w base spare held n 51 cs = some y) : ∃ x : S51, k51.K w x cs := by
  obtain ⟨xs, m, _, _, hl, hlen, hF⟩ := DataW.trod_struct Try.underlying51 h
  rw [cells51] at hl
  match cs, hl with
  | [c0, c1, c2, c3], _ =>
    obtain ⟨y0, g0⟩ := fld 0 hlen (by decide) (hF 0 _ rfl)
    replace g0 : DataW.trod enc Try.prog w base spare held m 3 [c0] = some y0 := by simpa [cells3] using g0
    obtain ⟨b0, e0, _, _⟩ := DataW.trod_int Try.underlying3 g0
    simp only [List.cons.injEq, and_true] at e0
    subst e0
    obtain ⟨y1, g1⟩ := fld 1 hlen (by decide) (hF 1 _ rfl)
    replace g1 : DataW.trod enc Try.prog w base spare held m 3 [c1] = some y1 := by simpa [cells3] using g1
    obtain ⟨b1, e1, _, _⟩ := DataW.trod_int Try.underlying3 g1
    simp only [List.cons.injEq, and_true] at e1
    subst e1
    obtain ⟨y2, g2⟩ := fld 2 hlen (by decide) (hF 2 _ rfl)
    replace g2 : DataW.trod enc Try.prog w base spare held m 3 [c2] = some y2 := by simpa [cells3] using g2
    obtain ⟨b2, e2, _, _⟩ := DataW.trod_int Try.underlying3 g2
    simp only [List.cons.injEq, and_true] at e2
    subst e2
    obtain ⟨y3, g3⟩ := fld 3 hlen (by decide) (hF 3 _ rfl)
    replace g3 : DataW.trod enc Try.prog w base spare held m 3 [c3] = some y3 := by simpa [cells3] using g3
    obtain ⟨b3, e3, _, _⟩ := DataW.trod_int Try.underlying3 g3
    simp only [List.cons.injEq, and_true] at e3
    subst e3
    exact ⟨⟨b0, b1, b2, b3⟩, k51_mk w ⟨b0, b1, b2, b3⟩⟩
theorem el68 {n : Nat} {cs : List Value} {y : DataW H × List MemPlace} (h : DataW.trod enc Try.prog w base spare held n 68 cs = some y) : ∃ x : S68, k68.K w x cs := by
  obtain ⟨xs, m, _, _, hl, hlen, hF⟩ := DataW.trod_struct Try.underlying68 h
  rw [cells68] at hl
  match cs, hl with
  | [c0, c1, c2], _ =>
    obtain ⟨y0, g0⟩ := fld 0 hlen (by decide) (hF 0 _ rfl)
    replace g0 : DataW.trod enc Try.prog w base spare held m 3 [c0] = some y0 := by simpa [cells3] using g0
    obtain ⟨b0, e0, _, _⟩ := DataW.trod_int Try.underlying3 g0
    simp only [List.cons.injEq, and_true] at e0
    subst e0
    obtain ⟨y1, g1⟩ := fld 1 hlen (by decide) (hF 1 _ rfl)
    replace g1 : DataW.trod enc Try.prog w base spare held m 3 [c1] = some y1 := by simpa [cells3] using g1
    obtain ⟨b1, e1, _, _⟩ := DataW.trod_int Try.underlying3 g1
    simp only [List.cons.injEq, and_true] at e1
    subst e1
    obtain ⟨y2, g2⟩ := fld 2 hlen (by decide) (hF 2 _ rfl)
    replace g2 : DataW.trod enc Try.prog w base spare held m 3 [c2] = some y2 := by simpa [cells3] using g2
    obtain ⟨b2, e2, _, _⟩ := DataW.trod_int Try.underlying3 g2
    simp only [List.cons.injEq, and_true] at e2
    subst e2
    exact ⟨⟨b0, b1, b2⟩, k68_mk w ⟨b0, b1, b2⟩⟩
theorem el74 {n : Nat} {cs : List Value} {y : DataW H × List MemPlace} (h : DataW.trod enc Try.prog w base spare held n 74 cs = some y) : ∃ x : S74, k74.K w x cs := by
  obtain ⟨xs, m, _, _, hl, hlen, hF⟩ := DataW.trod_struct Try.underlying74 h
  rw [cells74] at hl
  match cs, hl with
  | [c0, c1], _ =>
    obtain ⟨y0, g0⟩ := fld 0 hlen (by decide) (hF 0 _ rfl)
    replace g0 : DataW.trod enc Try.prog w base spare held m 3 [c0] = some y0 := by simpa [cells3] using g0
    obtain ⟨b0, e0, _, _⟩ := DataW.trod_int Try.underlying3 g0
    simp only [List.cons.injEq, and_true] at e0
    subst e0
    obtain ⟨y1, g1⟩ := fld 1 hlen (by decide) (hF 1 _ rfl)
    replace g1 : DataW.trod enc Try.prog w base spare held m 3 [c1] = some y1 := by simpa [cells3] using g1
    obtain ⟨b1, e1, _, _⟩ := DataW.trod_int Try.underlying3 g1
    simp only [List.cons.injEq, and_true] at e1
    subst e1
    exact ⟨⟨b0, b1⟩, k74_mk w ⟨b0, b1⟩⟩
theorem el76 {n : Nat} {cs : List Value} {y : DataW H × List MemPlace} (h : DataW.trod enc Try.prog w base spare held n 76 cs = some y) : ∃ x : S76, k76.K w x cs := by
  obtain ⟨xs, m, _, _, hl, hlen, hF⟩ := DataW.trod_struct Try.underlying76 h
  rw [cells76] at hl
  match cs, hl with
  | [c0, c1, c2], _ =>
    obtain ⟨y0, g0⟩ := fld 0 hlen (by decide) (hF 0 _ rfl)
    replace g0 : DataW.trod enc Try.prog w base spare held m 3 [c0] = some y0 := by simpa [cells3] using g0
    obtain ⟨b0, e0, _, _⟩ := DataW.trod_int Try.underlying3 g0
    simp only [List.cons.injEq, and_true] at e0
    subst e0
    obtain ⟨y1, g1⟩ := fld 1 hlen (by decide) (hF 1 _ rfl)
    replace g1 : DataW.trod enc Try.prog w base spare held m 74 [c1, c2] = some y1 := by simpa [cells74] using g1
    obtain ⟨b1, e1⟩ := el74 g1
    have j1 := k74_open e1
    simp only [List.cons.injEq, and_true] at j1
    obtain ⟨rfl, rfl⟩ := j1
    exact ⟨⟨b0, b1⟩, k76_mk w ⟨b0, b1⟩⟩
/-- A slice of structs that came in, as a list. -/
theorem open_row {α : Type} (d : Go.Proofs.YtfphbbjcocjmfaaW.PrintWords.Kd α) (z : α) {t e fuel : Nat} {a0 : Option Addr} {len cap : Nat} {x : DataW H × List MemPlace} (ht : Try.prog.underlying t = some (.slice e)) (hsz : Try.prog.cellsOf e = d.sz)
    (hel : ∀ n cs y, DataW.trod enc Try.prog w base spare held n e cs = some y → ∃ p, d.K w p cs) (hsp : ∀ b, spare b = true) (hf : DataW.trod enc Try.prog w base spare held fuel t [.slice a0 len cap] = some x) :
    ∃ zs : List α, zs.length = len ∧ len ≤ cap ∧ len ≤ 9223372036854775807 ∧ d.C w a0 len zs := by
  rcases Go.Deep.open_slice ht hf with ⟨hcs, _⟩ | ⟨a, l, c, m, n, D, Pl, hcs, _, hlc, hm, hmm, _, hrow⟩
  · simp only [List.cons.injEq, and_true, Value.slice.injEq] at hcs
    obtain ⟨rfl, rfl, rfl⟩ := hcs
    exact ⟨[], rfl, Nat.le_refl _, by omega, rfl, by omega, fun h => absurd h (Nat.lt_irrefl 0)⟩
  · simp only [List.cons.injEq, and_true, Value.slice.injEq] at hcs
    obtain ⟨rfl, rfl, rfl⟩ := hcs
    rw [if_pos (hsp _)] at hmm
    unfold maxLen at hm
    haveI : Inhabited α := ⟨z⟩
    have hex : ∀ i, i < len → ∃ p : α, ∃ cs : List Value, cs.length = d.sz ∧ d.K w p cs ∧ ∀ q u, cs[q]? = some u → w.cell? (a.add (i * d.sz + q)) = some u := by
      intro i hi
      obtain ⟨cs, hc, hr⟩ := hrow i (by omega)
      obtain ⟨p, hp⟩ := hel _ _ _ hr
      obtain ⟨_, hcl, hcells⟩ := World.cells?_some hc
      rw [hsz] at hcl hcells
      refine ⟨p, cs, hcl, hp, fun q u hu => ?_⟩
      have hq : q < d.sz := by
        rw [← hcl]
        rcases Nat.lt_or_ge q cs.length with h | h
        · exact h
        · rw [List.getElem?_eq_none h] at hu; cases hu
      rw [← Go.Deep.add_add, hcells q hq]; exact hu
    obtain ⟨f, hf2⟩ := Go.Deep.choose_lt hex
    refine ⟨(List.range len).map f, by simp, hlc, by omega, by simp, by omega, fun _ => ⟨a, rfl, fun j p hj => ?_⟩⟩
    have hjl : j < len := by
      rcases Nat.lt_or_ge j len with h | h
      · exact h
      · rw [List.getElem?_eq_none (by simpa using h)] at hj; cases hj
    rw [List.getElem?_map, List.getElem?_range hjl] at hj
    simp only [Option.map_some, Option.some.injEq] at hj
    subst hj
    obtain ⟨cs, h1, h2, h3⟩ := hf2 j hjl
    exact ⟨cs, h1, h2, h3⟩
end
theorem arr10 {α : Type} {cs : Array α} (h : cs.size = 10) : ∃ c0 c1 c2 c3 c4 c5 c6 c7 c8 c9, cs = #[c0, c1, c2, c3, c4, c5, c6, c7, c8, c9] := by
  obtain ⟨l⟩ := cs
  match l, h with
  | [c0, c1, c2, c3, c4, c5, c6, c7, c8, c9], _ => exact ⟨c0, c1, c2, c3, c4, c5, c6, c7, c8, c9, rfl⟩
set_option maxRecDepth 100000 in
theorem lifted (os : Os) (started : os.Started) (H : Type) (enc : TypeId × Value → H) :
    ReturnsInHanded {} Try.checked os 9 .any (Rows.fnExactNodesOfSpec.pre6 enc Try.prog Try.f9 Rows.fnExactNodesOfRow.domain false) (Rows.fnExactNodesOfSpec.post enc Try.prog Try.f9 false true false false) := by
  refine returnsInHanded_of_change_sized (C := Try.checked) own started (by kernel_rfl) Try.func9
    (ChangeSpec.witness6 (enc := enc) (C := Try.checked) false ⟨#[], #[.agg #[.int .i64 0, .slice none 0 0, .slice none 0 0, .int .i64 0, .int .i64 0, .int .i64 0, .int .i64 0, .int .i64 0, .slice none 0 0, .int .i64 0]], []⟩ 8 (by kernel_rfl) (by kernel_rfl) (by kernel_rfl) (by kernel_rfl)) ?_
  intro W base args ds gs before hval0 hW hcnd hsz0 _
  have hval : ∀ (j : Nat) t v, Try.f9.params[j]? = some t → args[j]? = some v → Value.okWide Try.prog W .any base t v := hval0
  have hW' := hW
  obtain ⟨p, q, hA0, hV, rfl, hfz, hnd⟩ := hW
  have hA : DataW.TrodAll enc Try.prog W 0 (fun _ => true) true Try.f9.params.toList args.toList ds p := hA0
  rw [Try.params9] at hA hval
  obtain ⟨v0, vs0, d0, ds0, p0, q0, hargs, rfl, rfl, h0, r0⟩ := trodAll_cons hA
  obtain ⟨rfl, rfl, rfl⟩ := trodAll_nil r0
  obtain rfl : args = #[v0] := by cases args; simp_all
  obtain ⟨rfl, rfl⟩ := trodVars_none hV
  have k0 := h0
  have lt0 : ∀ x ∈ p0, x.block < W.heap.size := by obtain ⟨m, hm⟩ := k0; exact DataW.trod_lt m _ _ _ hm
  obtain ⟨cs0, rfl, hs0⟩ := okWide_struct Try.underlying37 (hval 0 37 v0 rfl rfl)
  obtain ⟨c0_0, c0_1, c0_2, c0_3, c0_4, c0_5, c0_6, c0_7, c0_8, c0_9, rfl⟩ := arr10 (hs0.trans cells37)
  obtain ⟨fuel0, hf0⟩ := h0
  obtain ⟨xs0, m0, _, _, _, hlen0, hF0⟩ := DataW.trod_struct Try.underlying37 hf0
  obtain ⟨y0_0, g0_0⟩ := fld 0 hlen0 (by decide) (hF0 0 _ rfl)
  replace g0_0 : DataW.trod enc Try.prog W 0 (fun _ => true) true m0 3 [c0_0] = some y0_0 := by simpa [Value.cells, cells3] using g0_0
  obtain ⟨a0_0, e0_0, _, w0_0⟩ := DataW.trod_int Try.underlying3 g0_0
  simp only [List.cons.injEq, and_true] at e0_0
  subst e0_0
  obtain ⟨y0_1, g0_1⟩ := fld 1 hlen0 (by decide) (hF0 1 _ rfl)
  replace g0_1 : DataW.trod enc Try.prog W 0 (fun _ => true) true m0 33 [c0_1] = some y0_1 := by simpa [Value.cells, cells33] using g0_1
  obtain ⟨A0_1, n0_1, cp0_1, e0_1⟩ := slice_form Try.underlying33 g0_1
  simp only [List.cons.injEq, and_true] at e0_1
  subst e0_1
  obtain ⟨l0_1, hl0_1, hcap0_1, hmax0_1, hC0_1⟩ : ∃ zs : List S51, zs.length = n0_1 ∧ n0_1 ≤ cp0_1 ∧ n0_1 ≤ 9223372036854775807 ∧ Go.Proofs.YtfphbbjcocjmfaaW.PrintWords.Kd.C k51 W A0_1 n0_1 zs :=
    open_row k51 z51 Try.underlying33 cells51 (fun _ _ _ h => el51 h) (fun _ => rfl) g0_1
  subst hl0_1
  obtain ⟨y0_2, g0_2⟩ := fld 2 hlen0 (by decide) (hF0 2 _ rfl)
  replace g0_2 : DataW.trod enc Try.prog W 0 (fun _ => true) true m0 34 [c0_2] = some y0_2 := by simpa [Value.cells, cells34] using g0_2
  obtain ⟨A0_2, n0_2, cp0_2, e0_2⟩ := slice_form Try.underlying34 g0_2
  simp only [List.cons.injEq, and_true] at e0_2
  subst e0_2
  obtain ⟨l0_2, hl0_2, hcap0_2, hmax0_2, hC0_2⟩ : ∃ zs : List S68, zs.length = n0_2 ∧ n0_2 ≤ cp0_2 ∧ n0_2 ≤ 9223372036854775807 ∧ Go.Proofs.YtfphbbjcocjmfaaW.PrintWords.Kd.C k68 W A0_2 n0_2 zs :=
    open_row k68 z68 Try.underlying34 cells68 (fun _ _ _ h => el68 h) (fun _ => rfl) g0_2
  subst hl0_2
  obtain ⟨y0_3, g0_3⟩ := fld 3 hlen0 (by decide) (hF0 3 _ rfl)
  replace g0_3 : DataW.trod enc Try.prog W 0 (fun _ => true) true m0 3 [c0_3] = some y0_3 := by simpa [Value.cells, cells3] using g0_3
  obtain ⟨a0_3, e0_3, _, w0_3⟩ := DataW.trod_int Try.underlying3 g0_3
  simp only [List.cons.injEq, and_true] at e0_3
  subst e0_3
  obtain ⟨y0_4, g0_4⟩ := fld 4 hlen0 (by decide) (hF0 4 _ rfl)
  replace g0_4 : DataW.trod enc Try.prog W 0 (fun _ => true) true m0 3 [c0_4] = some y0_4 := by simpa [Value.cells, cells3] using g0_4
  obtain ⟨a0_4, e0_4, _, w0_4⟩ := DataW.trod_int Try.underlying3 g0_4
  simp only [List.cons.injEq, and_true] at e0_4
  subst e0_4
  obtain ⟨y0_5, g0_5⟩ := fld 5 hlen0 (by decide) (hF0 5 _ rfl)
  replace g0_5 : DataW.trod enc Try.prog W 0 (fun _ => true) true m0 3 [c0_5] = some y0_5 := by simpa [Value.cells, cells3] using g0_5
  obtain ⟨a0_5, e0_5, _, w0_5⟩ := DataW.trod_int Try.underlying3 g0_5
  simp only [List.cons.injEq, and_true] at e0_5
  subst e0_5
  obtain ⟨y0_6, g0_6⟩ := fld 6 hlen0 (by decide) (hF0 6 _ rfl)
  replace g0_6 : DataW.trod enc Try.prog W 0 (fun _ => true) true m0 3 [c0_6] = some y0_6 := by simpa [Value.cells, cells3] using g0_6
  obtain ⟨a0_6, e0_6, _, w0_6⟩ := DataW.trod_int Try.underlying3 g0_6
  simp only [List.cons.injEq, and_true] at e0_6
  subst e0_6
  obtain ⟨y0_7, g0_7⟩ := fld 7 hlen0 (by decide) (hF0 7 _ rfl)
  replace g0_7 : DataW.trod enc Try.prog W 0 (fun _ => true) true m0 3 [c0_7] = some y0_7 := by simpa [Value.cells, cells3] using g0_7
  obtain ⟨a0_7, e0_7, _, w0_7⟩ := DataW.trod_int Try.underlying3 g0_7
  simp only [List.cons.injEq, and_true] at e0_7
  subst e0_7
  obtain ⟨y0_8, g0_8⟩ := fld 8 hlen0 (by decide) (hF0 8 _ rfl)
  replace g0_8 : DataW.trod enc Try.prog W 0 (fun _ => true) true m0 35 [c0_8] = some y0_8 := by simpa [Value.cells, cells35] using g0_8
  obtain ⟨A0_8, n0_8, cp0_8, e0_8⟩ := slice_form Try.underlying35 g0_8
  simp only [List.cons.injEq, and_true] at e0_8
  subst e0_8
  obtain ⟨l0_8, hl0_8, hcap0_8, hmax0_8, hC0_8⟩ : ∃ zs : List S76, zs.length = n0_8 ∧ n0_8 ≤ cp0_8 ∧ n0_8 ≤ 9223372036854775807 ∧ Go.Proofs.YtfphbbjcocjmfaaW.PrintWords.Kd.C k76 W A0_8 n0_8 zs :=
    open_row k76 z76 Try.underlying35 cells76 (fun _ _ _ h => el76 h) (fun _ => rfl) g0_8
  subst hl0_8
  obtain ⟨y0_9, g0_9⟩ := fld 9 hlen0 (by decide) (hF0 9 _ rfl)
  replace g0_9 : DataW.trod enc Try.prog W 0 (fun _ => true) true m0 3 [c0_9] = some y0_9 := by simpa [Value.cells, cells3] using g0_9
  obtain ⟨a0_9, e0_9, _, w0_9⟩ := DataW.trod_int Try.underlying3 g0_9
  simp only [List.cons.injEq, and_true] at e0_9
  subst e0_9
  clear hA0 hval0 hsz0
  obtain ⟨kk, hk⟩ := Pure.FnExactNodesOf a0_0 l0_1 l0_2 a0_3 a0_4 a0_5 a0_6 a0_7 l0_8 a0_9 w0_0 hmax0_1 hmax0_2 w0_3 w0_4 w0_5 w0_6 w0_7 hmax0_8 w0_9
  refine (laws_FnExactNodesOf.calls kk a0_0 A0_1 cp0_1 l0_1 A0_2 cp0_2 l0_2 a0_3 a0_4 a0_5 a0_6 a0_7 A0_8 cp0_8 l0_8 a0_9 true W hC0_1 hcap0_1 hC0_2 hcap0_2 hC0_8 hcap0_8 hk).mono fun e W' ⟨he, bel⟩ => ?_
  subst he
  exact ⟨_, rfl, _, _, _, [], _, [], hW', trodAll_mk1 (shut_bool Try.underlying4 _), (trodAll_cons_mk (Below.trod laidOut (by kernel_rfl) (of_decide_eq_true (by kernel_rfl)) k0 bel lt0) trodAll_mk0), rfl, bel.frame _, fun h => by cases h⟩
theorem over : Rows.fnExactNodesOfRow.holds Try.pinned (OpenSpec.ofChange Rows.fnExactNodesOfSpec) :=
  OpenClaim.holds_of_wide 9 Try.f9 rfl rfl rfl rfl rfl rfl rfl ⟨rfl, rfl, rfl, rfl, rfl⟩ rfl rfl rfl rfl rfl (by kernel_rfl) Try.func9 (by kernel_rfl)
    (of_decide_eq_true (by kernel_rfl)) (by unfold Func.isWrapper; first | (rw [if_pos (by decide +kernel)]; kernel_rfl) | (rw [if_neg (by decide +kernel)]; exact ⟨rfl, rfl⟩))
    (fun os started H enc _ => lifted os started H enc)
theorem proved : Rows.FnExactNodesOfSaid := over
end Go.Proofs.Ytfphbbjcocjmfaa.fnExactNodesOf
namespace Go.Proofs.Ytfphbbjcocjmfaa
/-- The row, under a short name, for the claim. -/
theorem fnExactNodesOf_holds : Rows.FnExactNodesOfSaid := fnExactNodesOf.proved
end Go.Proofs.Ytfphbbjcocjmfaa
