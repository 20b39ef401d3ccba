/- FnExactShortenSpans returns true for every input, and each argument reads behind the call as it read before; no condition. -/
import Derived.Test.YtolepbdmbedloaeRows
import Derived.Test.YtolepbdmbedloaeHFnExactShortenSpansx5
import Derived.Test.YtolepbdmbedloaePureFnExactShortenSpans
import Derived.WalkKit
import Derived.ProofKit
import Derived.OpenShut
import Derived.ShutString
import Derived.ChangeOld
import Derived.Below
import Derived.SizedLaws
import Derived.Lib.SmallJoins
import Derived.Deep.Slices
namespace Go.Proofs.Ytolepbdmbedloae.fnExactShortenSpans
open Go.ChangeShapes Go.WideShapes Go.ChangeAt Go.RowKit Go.Joins Go.Proofs.Ytolepbdmbedloae.PFnExactShortenSpans
open Go.ChangeMaps (open_string shut_string)
set_option linter.unusedVariables false
theorem own : ownKnob Try.prog.godebug = none := by kernel_rfl
theorem laidOut : laidOutB Try.prog = true := by kernel_rfl
theorem cells3 : Try.prog.cellsOf 3 = 1 := by kernel_rfl
theorem cells45 : Try.prog.cellsOf 45 = 2 := by kernel_rfl
/-- What is read of a struct's field. -/
theorem fld {α : Type} {xs : List α} {y : Option α} {k : Nat} (i : Nat) (hk : xs.length = k) (hi : i < k) (h : y = xs[i]?) : ∃ z, y = some z := ⟨xs[i]'(by omega), by rw [h]; exact List.getElem?_eq_getElem _⟩
section
variable {H : Type} {enc : TypeId × Value → H} {w : World} {base : Nat} {spare : Nat → Bool} {held : Bool}
theorem el45 {n : Nat} {cs : List Value} {y : DataW H × List MemPlace} (h : DataW.trod enc Try.prog w base spare held n 45 cs = some y) : ∃ x : S45, k45.K w x cs := by
  obtain ⟨xs, m, _, _, hl, hlen, hF⟩ := DataW.trod_struct Try.underlying45 h
  rw [cells45] at hl
  match cs, hl with
  | [c0, c1], _ =>
    obtain ⟨y0, g0⟩ := fld 0 hlen (by decide) (hF 0 _ rfl)
    replace g0 : DataW.trod enc Try.prog w base spare held m 3 [c0] = some y0 := by simpa [cells3] using g0
    obtain ⟨b0, e0, _, _⟩ := DataW.trod_int Try.underlying3 g0
    simp only [List.cons.injEq, and_true] at e0
    subst e0
    obtain ⟨y1, g1⟩ := fld 1 hlen (by decide) (hF 1 _ rfl)
    replace g1 : DataW.trod enc Try.prog w base spare held m 3 [c1] = some y1 := by simpa [cells3] using g1
    obtain ⟨b1, e1, _, _⟩ := DataW.trod_int Try.underlying3 g1
    simp only [List.cons.injEq, and_true] at e1
    subst e1
    exact ⟨⟨b0, b1⟩, k45_mk w ⟨b0, b1⟩⟩
/-- A slice of structs that came in, as a list. -/
theorem open_row {α : Type} (d : Go.Proofs.YtolepbdmbedloaeW.PrintWords.Kd α) (z : α) {t e fuel : Nat} {a0 : Option Addr} {len cap : Nat} {x : DataW H × List MemPlace} (ht : Try.prog.underlying t = some (.slice e)) (hsz : Try.prog.cellsOf e = d.sz)
    (hel : ∀ n cs y, DataW.trod enc Try.prog w base spare held n e cs = some y → ∃ p, d.K w p cs) (hsp : ∀ b, spare b = true) (hf : DataW.trod enc Try.prog w base spare held fuel t [.slice a0 len cap] = some x) :
    ∃ zs : List α, zs.length = len ∧ len ≤ cap ∧ len ≤ 9223372036854775807 ∧ d.C w a0 len zs := by
  rcases Go.Deep.open_slice ht hf with ⟨hcs, _⟩ | ⟨a, l, c, m, n, D, Pl, hcs, _, hlc, hm, hmm, _, hrow⟩
  · simp only [List.cons.injEq, and_true, Value.slice.injEq] at hcs
    obtain ⟨rfl, rfl, rfl⟩ := hcs
    exact ⟨[], rfl, Nat.le_refl _, by omega, rfl, by omega, fun h => absurd h (Nat.lt_irrefl 0)⟩
  · simp only [List.cons.injEq, and_true, Value.slice.injEq] at hcs
    obtain ⟨rfl, rfl, rfl⟩ := hcs
    rw [if_pos (hsp _)] at hmm
    unfold maxLen at hm
    haveI : Inhabited α := ⟨z⟩
    have hex : ∀ i, i < len → ∃ p : α, ∃ cs : List Value, cs.length = d.sz ∧ d.K w p cs ∧ ∀ q u, cs[q]? = some u → w.cell? (a.add (i * d.sz + q)) = some u := by
      intro i hi
      obtain ⟨cs, hc, hr⟩ := hrow i (by omega)
      obtain ⟨p, hp⟩ := hel _ _ _ hr
      obtain ⟨_, hcl, hcells⟩ := World.cells?_some hc
      rw [hsz] at hcl hcells
      refine ⟨p, cs, hcl, hp, fun q u hu => ?_⟩
      have hq : q < d.sz := by
        rw [← hcl]
        rcases Nat.lt_or_ge q cs.length with h | h
        · exact h
        · rw [List.getElem?_eq_none h] at hu; cases hu
      rw [← Go.Deep.add_add, hcells q hq]; exact hu
    obtain ⟨f, hf2⟩ := Go.Deep.choose_lt hex
    refine ⟨(List.range len).map f, by simp, hlc, by omega, by simp, by omega, fun _ => ⟨a, rfl, fun j p hj => ?_⟩⟩
    have hjl : j < len := by
      rcases Nat.lt_or_ge j len with h | h
      · exact h
      · rw [List.getElem?_eq_none (by simpa using h)] at hj; cases hj
    rw [List.getElem?_map, List.getElem?_range hjl] at hj
    simp only [Option.map_some, Option.some.injEq] at hj
    subst hj
    obtain ⟨cs, h1, h2, h3⟩ := hf2 j hjl
    exact ⟨cs, h1, h2, h3⟩
end
set_option maxRecDepth 100000 in
theorem lifted (os : Os) (started : os.Started) (H : Type) (enc : TypeId × Value → H) :
    ReturnsInHanded {} Try.checked os 7 .any (Rows.fnExactShortenSpansSpec.pre6 enc Try.prog Try.f7 Rows.fnExactShortenSpansRow.domain false) (Rows.fnExactShortenSpansSpec.post enc Try.prog Try.f7 false true false false) := by
  refine returnsInHanded_of_change_sized (C := Try.checked) own started (by kernel_rfl) Try.func7
    (ChangeSpec.witness6 (enc := enc) (C := Try.checked) false ⟨#[], #[.slice none 0 0, .int .i64 0, .int .i64 0], []⟩ 8 (by kernel_rfl) (by kernel_rfl) (by kernel_rfl) (by kernel_rfl)) ?_
  intro W base args ds gs before hval0 hW hcnd hsz0 _
  have hval : ∀ (j : Nat) t v, Try.f7.params[j]? = some t → args[j]? = some v → Value.okWide Try.prog W .any base t v := hval0
  have hW' := hW
  obtain ⟨p, q, hA0, hV, rfl, hfz, hnd⟩ := hW
  have hA : DataW.TrodAll enc Try.prog W 0 (fun _ => true) true Try.f7.params.toList args.toList ds p := hA0
  rw [Try.params7] at hA hval
  obtain ⟨v0, vs0, d0, ds0, p0, q0, hargs, rfl, rfl, h0, r0⟩ := trodAll_cons hA
  obtain ⟨v1, vs1, d1, ds1, p1, q1, rfl, rfl, rfl, h1, r1⟩ := trodAll_cons r0
  obtain ⟨v2, vs2, d2, ds2, p2, q2, rfl, rfl, rfl, h2, r2⟩ := trodAll_cons r1
  obtain ⟨rfl, rfl, rfl⟩ := trodAll_nil r2
  obtain rfl : args = #[v0, v1, v2] := by cases args; simp_all
  obtain ⟨rfl, rfl⟩ := trodVars_none hV
  have k0 := h0
  have lt0 : ∀ x ∈ p0, x.block < W.heap.size := by obtain ⟨m, hm⟩ := k0; exact DataW.trod_lt m _ _ _ hm
  obtain ⟨A0, n0, cp0, rfl⟩ := okWide_slice Try.underlying22 (hval 0 22 v0 rfl rfl)
  obtain ⟨l0, hl0, hcap0, hmax0, hC0⟩ : ∃ zs : List S45, zs.length = n0 ∧ n0 ≤ cp0 ∧ n0 ≤ 9223372036854775807 ∧ Go.Proofs.YtolepbdmbedloaeW.PrintWords.Kd.C k45 W A0 n0 zs := by
    obtain ⟨fuel, hf⟩ := k0
    exact open_row k45 z45 Try.underlying22 cells45 (fun _ _ _ h => el45 h) (fun _ => rfl) (by simpa [Value.cells] using hf)
  subst hl0
  obtain ⟨a1, rfl, rfl, rfl, w1⟩ := open_int Try.underlying3 (hval 1 3 v1 rfl rfl) h1
  obtain ⟨a2, rfl, rfl, rfl, w2⟩ := open_int Try.underlying3 (hval 2 3 v2 rfl rfl) h2
  clear hA0 hval0 hsz0
  obtain ⟨kk, hk⟩ := Pure.FnExactShortenSpans l0 a1 a2 hmax0 w1 w2
  refine (laws_FnExactShortenSpans.calls kk A0 cp0 l0 a1 a2 true W hC0 hcap0 hk).mono fun e W' ⟨he, bel⟩ => ?_
  subst he
  exact ⟨_, rfl, _, _, _, [], _, [], hW', trodAll_mk1 (shut_bool Try.underlying4 _), (trodAll_cons_mk (Below.trod laidOut (by kernel_rfl) (of_decide_eq_true (by kernel_rfl)) k0 bel lt0) (trodAll_cons_mk (shut_int Try.underlying3 w1) (trodAll_cons_mk (shut_int Try.underlying3 w2) trodAll_mk0))), rfl, bel.frame _, fun h => by cases h⟩
theorem over : Rows.fnExactShortenSpansRow.holds Try.pinned (OpenSpec.ofChange Rows.fnExactShortenSpansSpec) :=
  OpenClaim.holds_of_wide 7 Try.f7 rfl rfl rfl rfl rfl rfl rfl ⟨rfl, rfl, rfl, rfl, rfl⟩ rfl rfl rfl rfl rfl (by kernel_rfl) Try.func7 (by kernel_rfl)
    (of_decide_eq_true (by kernel_rfl)) (by unfold Func.isWrapper; first | (rw [if_pos (by decide +kernel)]; kernel_rfl) | (rw [if_neg (by decide +kernel)]; exact ⟨rfl, rfl⟩))
    (fun os started H enc _ => lifted os started H enc)
theorem proved : Rows.FnExactShortenSpansSaid := over
end Go.Proofs.Ytolepbdmbedloae.fnExactShortenSpans
namespace Go.Proofs.Ytolepbdmbedloae
/-- The row, under a short name, for the claim. -/
theorem fnExactShortenSpans_holds : Rows.FnExactShortenSpansSaid := fnExactShortenSpans.proved
end Go.Proofs.Ytolepbdmbedloae
