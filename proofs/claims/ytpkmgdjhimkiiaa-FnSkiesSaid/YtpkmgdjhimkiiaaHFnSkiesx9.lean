/- The functions that FnSkies reaches: each Go function with a Lean function of the same answers; conditions: none beyond what each theorem states. Out of the lines of print.sh, mended. -/
import Derived.Test.YtpkmgdjhimkiiaaHFnSkiesx0
import Derived.Test.YtpkmgdjhimkiiaaHFnSkiesx1
import Derived.Test.YtpkmgdjhimkiiaaHFnSkiesx5
import Derived.Test.YtpkmgdjhimkiiaaHFnSkiesx6
import Derived.Test.YtpkmgdjhimkiiaaHFnSkiesx8
namespace Go.Proofs.Ytpkmgdjhimkiiaa.PFnSkies
open Go.RowKit Go.Proofs.YtpkmgdjhimkiiaaW.PrintWords Go.Proofs.YtpkmgdjhimkiiaaW.PrintLast Go.Proofs.YtpkmgdjhimkiiaaW.PrintMore
attribute [local go_sem] max2_int min2_int max_two min_two max_three min_three max_four min_four   -- for this text's walks alone
set_option linter.unusedVariables false
set_option linter.unusedSimpArgs false

/-! ### laws_FnSkies: function 3 -/
mutual
def laws_FnSkies.j0 : Nat → Int → Bool → Int → List (S43) → List (S46) → Int → Int → Int → Int → Int → List (S50) → Int → Option (Bool)
 | 0,_,_,_,_,_,_,_,_,_,_,_,_ => none
 | k + 1,x6,x49,x431000,x431001,x431002,x431003,x431004,x431005,x431006,x431007,x431008,x431009 => if x49 = true then (some false) else ((impl_IsSky.f k x431000 x431001 x431002 x431003 x431004 x431005 x431006 x431007 x431008 x431009).bind fun t437 => (if t437 = true then (laws_FnSkies.j1 k (decide (x6 > 180)) x431000 x431001 x431002 x431003 x431004 x431005 x431006 x431007 x431008 x431009) else (laws_FnSkies.j1 k false x431000 x431001 x431002 x431003 x431004 x431005 x431006 x431007 x431008 x431009)))
def laws_FnSkies.j1 : Nat → Bool → Int → List (S43) → List (S46) → Int → Int → Int → Int → Int → List (S50) → Int → Option (Bool)
 | 0,_,_,_,_,_,_,_,_,_,_,_ => none
 | k + 1,x55,x431000,x431001,x431002,x431003,x431004,x431005,x431006,x431007,x431008,x431009 => if x55 = true then (some false) else (laws_FnSkies.l0 k 0 (-1) x431000 x431001 x431002 x431003 x431004 x431005 x431006 x431007 x431008 x431009)
def laws_FnSkies.l0 : Nat → Int → Int → Int → List (S43) → List (S46) → Int → Int → Int → Int → Int → List (S50) → Int → Option (Bool)
 | 0,_,_,_,_,_,_,_,_,_,_,_,_ => none
 | k + 1,x7,x8,x431000,x431001,x431002,x431003,x431004,x431005,x431006,x431007,x431008,x431009 => if x8 ≤ 12 then ((impl_IsSite.f x431000 x431001 x431002 x431003 x431004 x431005 x431006 x431007 x431008 x431009 x8).bind fun t438 => (if t438 = true then (laws_FnSkies.j3 k (wrap64 (x7 + 1)) x8 x431000 x431001 x431002 x431003 x431004 x431005 x431006 x431007 x431008 x431009) else (laws_FnSkies.j3 k x7 x8 x431000 x431001 x431002 x431003 x431004 x431005 x431006 x431007 x431008 x431009))) else (some (x7 == (x431002.length : Int)))
def laws_FnSkies.j3 : Nat → Int → Int → Int → List (S43) → List (S46) → Int → Int → Int → Int → Int → List (S50) → Int → Option (Bool)
 | 0,_,_,_,_,_,_,_,_,_,_,_,_ => none
 | k + 1,x7,x8,x431000,x431001,x431002,x431003,x431004,x431005,x431006,x431007,x431008,x431009 => (impl_PlaneOf.f x431000 x431001 x431002 x431003 x431004 x431005 x431006 x431007 x431008 x431009 x8).bind fun t439 => (if t439 = (-1) then ((impl_IsSky.f k x431000 x431001 x431002 x431003 x431004 x431005 x431006 x431007 x431008 x431009).bind fun t440 => (if t440 = true then (if x8 ≥ 0 then ((impl_NodesOf.f x431000 x431001 x431002 x431003 x431004 x431005 x431006 x431007 x431008 x431009).bind fun t441 => (if x8 < t441 then (some false) else (laws_FnSkies.l0 k x7 (wrap64 (x8 + 1)) x431000 x431001 x431002 x431003 x431004 x431005 x431006 x431007 x431008 x431009))) else (laws_FnSkies.l0 k x7 (wrap64 (x8 + 1)) x431000 x431001 x431002 x431003 x431004 x431005 x431006 x431007 x431008 x431009)) else (laws_FnSkies.l0 k x7 (wrap64 (x8 + 1)) x431000 x431001 x431002 x431003 x431004 x431005 x431006 x431007 x431008 x431009))) else (laws_FnSkies.l0 k x7 (wrap64 (x8 + 1)) x431000 x431001 x431002 x431003 x431004 x431005 x431006 x431007 x431008 x431009))
end
def laws_FnSkies.f (k : Nat) (l0 : List Int) : Option (Bool):=(laws_big.f l0).bind fun t411 => (if t411 = true then (some true) else ((spec_DrawLimitOf.f k l0).bind fun bt412 => ((impl_LimitOf.f k bt412.1 bt412.2.1 bt412.2.2.1 bt412.2.2.2.1 bt412.2.2.2.2.1 bt412.2.2.2.2.2.1 bt412.2.2.2.2.2.2.1 bt412.2.2.2.2.2.2.2.1 bt412.2.2.2.2.2.2.2.2.1 bt412.2.2.2.2.2.2.2.2.2.1 bt412.2.2.2.2.2.2.2.2.2.2.1 bt412.2.2.2.2.2.2.2.2.2.2.2).bind fun t431 => ((impl_LimitOf.f k bt412.1 bt412.2.1 bt412.2.2.1 bt412.2.2.2.1 bt412.2.2.2.2.1 bt412.2.2.2.2.2.1 bt412.2.2.2.2.2.2.1 bt412.2.2.2.2.2.2.2.1 bt412.2.2.2.2.2.2.2.2.1 bt412.2.2.2.2.2.2.2.2.2.1 bt412.2.2.2.2.2.2.2.2.2.2.2 bt412.2.2.2.2.2.2.2.2.2.2.1).bind fun t432 => (if t431 = t432 then (if bt412.2.2.2.2.2.2.2.2.2.2.1 = bt412.2.2.2.2.2.2.2.2.2.2.2 then (if t431 = (-1) then ((impl_IsSite.f bt412.1 bt412.2.1 bt412.2.2.1 bt412.2.2.2.1 bt412.2.2.2.2.1 bt412.2.2.2.2.2.1 bt412.2.2.2.2.2.2.1 bt412.2.2.2.2.2.2.2.1 bt412.2.2.2.2.2.2.2.2.1 bt412.2.2.2.2.2.2.2.2.2.1 bt412.2.2.2.2.2.2.2.2.2.2.1).bind fun t433 => (if t433 = true then ((impl_IsSite.f bt412.1 bt412.2.1 bt412.2.2.1 bt412.2.2.2.1 bt412.2.2.2.2.1 bt412.2.2.2.2.2.1 bt412.2.2.2.2.2.2.1 bt412.2.2.2.2.2.2.2.1 bt412.2.2.2.2.2.2.2.2.1 bt412.2.2.2.2.2.2.2.2.2.1 bt412.2.2.2.2.2.2.2.2.2.2.2).bind fun t434 => (if t434 = true then (laws_FnSkies.j0 k t431 (t431 != (-1)) bt412.1 bt412.2.1 bt412.2.2.1 bt412.2.2.2.1 bt412.2.2.2.2.1 bt412.2.2.2.2.2.1 bt412.2.2.2.2.2.2.1 bt412.2.2.2.2.2.2.2.1 bt412.2.2.2.2.2.2.2.2.1 bt412.2.2.2.2.2.2.2.2.2.1) else (laws_FnSkies.j0 k t431 false bt412.1 bt412.2.1 bt412.2.2.1 bt412.2.2.2.1 bt412.2.2.2.2.1 bt412.2.2.2.2.2.1 bt412.2.2.2.2.2.2.1 bt412.2.2.2.2.2.2.2.1 bt412.2.2.2.2.2.2.2.2.1 bt412.2.2.2.2.2.2.2.2.2.1))) else (laws_FnSkies.j0 k t431 false bt412.1 bt412.2.1 bt412.2.2.1 bt412.2.2.2.1 bt412.2.2.2.2.1 bt412.2.2.2.2.2.1 bt412.2.2.2.2.2.2.1 bt412.2.2.2.2.2.2.2.1 bt412.2.2.2.2.2.2.2.2.1 bt412.2.2.2.2.2.2.2.2.2.1))) else (laws_FnSkies.j0 k t431 true bt412.1 bt412.2.1 bt412.2.2.1 bt412.2.2.2.1 bt412.2.2.2.2.1 bt412.2.2.2.2.2.1 bt412.2.2.2.2.2.2.1 bt412.2.2.2.2.2.2.2.1 bt412.2.2.2.2.2.2.2.2.1 bt412.2.2.2.2.2.2.2.2.2.1)) else ((impl_IsSite.f bt412.1 bt412.2.1 bt412.2.2.1 bt412.2.2.2.1 bt412.2.2.2.2.1 bt412.2.2.2.2.2.1 bt412.2.2.2.2.2.2.1 bt412.2.2.2.2.2.2.2.1 bt412.2.2.2.2.2.2.2.2.1 bt412.2.2.2.2.2.2.2.2.2.1 bt412.2.2.2.2.2.2.2.2.2.2.1).bind fun t435 => (if t435 = true then ((impl_IsSite.f bt412.1 bt412.2.1 bt412.2.2.1 bt412.2.2.2.1 bt412.2.2.2.2.1 bt412.2.2.2.2.2.1 bt412.2.2.2.2.2.2.1 bt412.2.2.2.2.2.2.2.1 bt412.2.2.2.2.2.2.2.2.1 bt412.2.2.2.2.2.2.2.2.2.1 bt412.2.2.2.2.2.2.2.2.2.2.2).bind fun t436 => (if t436 = true then (laws_FnSkies.j0 k t431 (t431 != (-1)) bt412.1 bt412.2.1 bt412.2.2.1 bt412.2.2.2.1 bt412.2.2.2.2.1 bt412.2.2.2.2.2.1 bt412.2.2.2.2.2.2.1 bt412.2.2.2.2.2.2.2.1 bt412.2.2.2.2.2.2.2.2.1 bt412.2.2.2.2.2.2.2.2.2.1) else (laws_FnSkies.j0 k t431 false bt412.1 bt412.2.1 bt412.2.2.1 bt412.2.2.2.1 bt412.2.2.2.2.1 bt412.2.2.2.2.2.1 bt412.2.2.2.2.2.2.1 bt412.2.2.2.2.2.2.2.1 bt412.2.2.2.2.2.2.2.2.1 bt412.2.2.2.2.2.2.2.2.2.1))) else (laws_FnSkies.j0 k t431 false bt412.1 bt412.2.1 bt412.2.2.1 bt412.2.2.2.1 bt412.2.2.2.2.1 bt412.2.2.2.2.2.1 bt412.2.2.2.2.2.2.1 bt412.2.2.2.2.2.2.2.1 bt412.2.2.2.2.2.2.2.2.1 bt412.2.2.2.2.2.2.2.2.2.1)))) else (laws_FnSkies.j0 k t431 true bt412.1 bt412.2.1 bt412.2.2.1 bt412.2.2.2.1 bt412.2.2.2.2.1 bt412.2.2.2.2.2.1 bt412.2.2.2.2.2.2.1 bt412.2.2.2.2.2.2.2.1 bt412.2.2.2.2.2.2.2.2.1 bt412.2.2.2.2.2.2.2.2.2.1))))))
theorem laws_FnSkies.mono_l : ∀ k,(∀ y0 y1 y2 y3 y4 y5 y6 y7 y8 y9 y10 y11,LeO (laws_FnSkies.j0 k y0 y1 y2 y3 y4 y5 y6 y7 y8 y9 y10 y11) (laws_FnSkies.j0 (k + 1) y0 y1 y2 y3 y4 y5 y6 y7 y8 y9 y10 y11)) ∧ (∀ y0 y1 y2 y3 y4 y5 y6 y7 y8 y9 y10,LeO (laws_FnSkies.j1 k y0 y1 y2 y3 y4 y5 y6 y7 y8 y9 y10) (laws_FnSkies.j1 (k + 1) y0 y1 y2 y3 y4 y5 y6 y7 y8 y9 y10)) ∧ (∀ y0 y1 y2 y3 y4 y5 y6 y7 y8 y9 y10 y11,LeO (laws_FnSkies.l0 k y0 y1 y2 y3 y4 y5 y6 y7 y8 y9 y10 y11) (laws_FnSkies.l0 (k + 1) y0 y1 y2 y3 y4 y5 y6 y7 y8 y9 y10 y11)) ∧ (∀ y0 y1 y2 y3 y4 y5 y6 y7 y8 y9 y10 y11,LeO (laws_FnSkies.j3 k y0 y1 y2 y3 y4 y5 y6 y7 y8 y9 y10 y11) (laws_FnSkies.j3 (k + 1) y0 y1 y2 y3 y4 y5 y6 y7 y8 y9 y10 y11))
 | 0 => ⟨fun _ _ _ _ _ _ _ _ _ _ _ _ r h => by simp [laws_FnSkies.j0] at h,fun _ _ _ _ _ _ _ _ _ _ _ r h => by simp [laws_FnSkies.j1] at h,fun _ _ _ _ _ _ _ _ _ _ _ _ r h => by simp [laws_FnSkies.l0] at h,fun _ _ _ _ _ _ _ _ _ _ _ _ r h => by simp [laws_FnSkies.j3] at h⟩
 | k + 1 => by
  obtain ⟨ih0,ih1,ih2,ih3⟩:=laws_FnSkies.mono_l k
  refine ⟨?_,?_,?_,?_⟩
  ·intro y0 y1 y2 y3 y4 y5 y6 y7 y8 y9 y10 y11
   unfold laws_FnSkies.j0
   repeat' first
   | (with_reducible exact ih0 _ _ _ _ _ _ _ _ _ _ _ _)
   | (with_reducible exact ih1 _ _ _ _ _ _ _ _ _ _ _)
   | (with_reducible exact ih2 _ _ _ _ _ _ _ _ _ _ _ _)
   | (with_reducible exact ih3 _ _ _ _ _ _ _ _ _ _ _ _)
   | (with_reducible exact impl_IsSky.mono _ _ _ _ _ _ _ _ _ _ _)
   | (with_reducible exact impl_LimitOf.mono _ _ _ _ _ _ _ _ _ _ _ _ _)
   | (with_reducible exact spec_DrawLimitOf.mono _ _)
   | (with_reducible exact LeO.refl _)
   | (with_reducible exact LeO.none _)
   | (with_reducible refine LeO.ite ?_ ?_)
   | (with_reducible refine LeO.bind ?_ (fun _ => ?_))
   | exact ih0 _ _ _ _ _ _ _ _ _ _ _ _
   | exact ih1 _ _ _ _ _ _ _ _ _ _ _
   | exact ih2 _ _ _ _ _ _ _ _ _ _ _ _
   | exact ih3 _ _ _ _ _ _ _ _ _ _ _ _
   | exact impl_IsSky.mono _ _ _ _ _ _ _ _ _ _ _
   | exact impl_LimitOf.mono _ _ _ _ _ _ _ _ _ _ _ _ _
   | exact spec_DrawLimitOf.mono _ _
   | exact LeO.none _
   | refine LeO.ite ?_ ?_
   | refine LeO.bind ?_ (fun _ => ?_)
  ·intro y0 y1 y2 y3 y4 y5 y6 y7 y8 y9 y10
   unfold laws_FnSkies.j1
   repeat' first
   | (with_reducible exact ih0 _ _ _ _ _ _ _ _ _ _ _ _)
   | (with_reducible exact ih1 _ _ _ _ _ _ _ _ _ _ _)
   | (with_reducible exact ih2 _ _ _ _ _ _ _ _ _ _ _ _)
   | (with_reducible exact ih3 _ _ _ _ _ _ _ _ _ _ _ _)
   | (with_reducible exact impl_IsSky.mono _ _ _ _ _ _ _ _ _ _ _)
   | (with_reducible exact impl_LimitOf.mono _ _ _ _ _ _ _ _ _ _ _ _ _)
   | (with_reducible exact spec_DrawLimitOf.mono _ _)
   | (with_reducible exact LeO.refl _)
   | (with_reducible exact LeO.none _)
   | (with_reducible refine LeO.ite ?_ ?_)
   | (with_reducible refine LeO.bind ?_ (fun _ => ?_))
   | exact ih0 _ _ _ _ _ _ _ _ _ _ _ _
   | exact ih1 _ _ _ _ _ _ _ _ _ _ _
   | exact ih2 _ _ _ _ _ _ _ _ _ _ _ _
   | exact ih3 _ _ _ _ _ _ _ _ _ _ _ _
   | exact impl_IsSky.mono _ _ _ _ _ _ _ _ _ _ _
   | exact impl_LimitOf.mono _ _ _ _ _ _ _ _ _ _ _ _ _
   | exact spec_DrawLimitOf.mono _ _
   | exact LeO.none _
   | refine LeO.ite ?_ ?_
   | refine LeO.bind ?_ (fun _ => ?_)
  ·intro y0 y1 y2 y3 y4 y5 y6 y7 y8 y9 y10 y11
   unfold laws_FnSkies.l0
   repeat' first
   | (with_reducible exact ih0 _ _ _ _ _ _ _ _ _ _ _ _)
   | (with_reducible exact ih1 _ _ _ _ _ _ _ _ _ _ _)
   | (with_reducible exact ih2 _ _ _ _ _ _ _ _ _ _ _ _)
   | (with_reducible exact ih3 _ _ _ _ _ _ _ _ _ _ _ _)
   | (with_reducible exact impl_IsSky.mono _ _ _ _ _ _ _ _ _ _ _)
   | (with_reducible exact impl_LimitOf.mono _ _ _ _ _ _ _ _ _ _ _ _ _)
   | (with_reducible exact spec_DrawLimitOf.mono _ _)
   | (with_reducible exact LeO.refl _)
   | (with_reducible exact LeO.none _)
   | (with_reducible refine LeO.ite ?_ ?_)
   | (with_reducible refine LeO.bind ?_ (fun _ => ?_))
   | exact ih0 _ _ _ _ _ _ _ _ _ _ _ _
   | exact ih1 _ _ _ _ _ _ _ _ _ _ _
   | exact ih2 _ _ _ _ _ _ _ _ _ _ _ _
   | exact ih3 _ _ _ _ _ _ _ _ _ _ _ _
   | exact impl_IsSky.mono _ _ _ _ _ _ _ _ _ _ _
   | exact impl_LimitOf.mono _ _ _ _ _ _ _ _ _ _ _ _ _
   | exact spec_DrawLimitOf.mono _ _
   | exact LeO.none _
   | refine LeO.ite ?_ ?_
   | refine LeO.bind ?_ (fun _ => ?_)
  ·intro y0 y1 y2 y3 y4 y5 y6 y7 y8 y9 y10 y11
   unfold laws_FnSkies.j3
   repeat' first
   | (with_reducible exact ih0 _ _ _ _ _ _ _ _ _ _ _ _)
   | (with_reducible exact ih1 _ _ _ _ _ _ _ _ _ _ _)
   | (with_reducible exact ih2 _ _ _ _ _ _ _ _ _ _ _ _)
   | (with_reducible exact ih3 _ _ _ _ _ _ _ _ _ _ _ _)
   | (with_reducible exact impl_IsSky.mono _ _ _ _ _ _ _ _ _ _ _)
   | (with_reducible exact impl_LimitOf.mono _ _ _ _ _ _ _ _ _ _ _ _ _)
   | (with_reducible exact spec_DrawLimitOf.mono _ _)
   | (with_reducible exact LeO.refl _)
   | (with_reducible exact LeO.none _)
   | (with_reducible refine LeO.ite ?_ ?_)
   | (with_reducible refine LeO.bind ?_ (fun _ => ?_))
   | exact ih0 _ _ _ _ _ _ _ _ _ _ _ _
   | exact ih1 _ _ _ _ _ _ _ _ _ _ _
   | exact ih2 _ _ _ _ _ _ _ _ _ _ _ _
   | exact ih3 _ _ _ _ _ _ _ _ _ _ _ _
   | exact impl_IsSky.mono _ _ _ _ _ _ _ _ _ _ _
   | exact impl_LimitOf.mono _ _ _ _ _ _ _ _ _ _ _ _ _
   | exact spec_DrawLimitOf.mono _ _
   | exact LeO.none _
   | refine LeO.ite ?_ ?_
   | refine LeO.bind ?_ (fun _ => ?_)
theorem laws_FnSkies.mono : ∀ a0 k,LeO (laws_FnSkies.f k a0) (laws_FnSkies.f (k + 1) a0):=by
 intro a0 k
 obtain ⟨ih0,ih1,ih2,ih3⟩:=laws_FnSkies.mono_l k
 unfold laws_FnSkies.f
 repeat' first
   | (with_reducible exact ih0 _ _ _ _ _ _ _ _ _ _ _ _)
   | (with_reducible exact ih1 _ _ _ _ _ _ _ _ _ _ _)
   | (with_reducible exact ih2 _ _ _ _ _ _ _ _ _ _ _ _)
   | (with_reducible exact ih3 _ _ _ _ _ _ _ _ _ _ _ _)
   | (with_reducible exact impl_IsSky.mono _ _ _ _ _ _ _ _ _ _ _)
   | (with_reducible exact impl_LimitOf.mono _ _ _ _ _ _ _ _ _ _ _ _ _)
   | (with_reducible exact spec_DrawLimitOf.mono _ _)
   | (with_reducible exact LeO.refl _)
   | (with_reducible exact LeO.none _)
   | (with_reducible refine LeO.ite ?_ ?_)
   | (with_reducible refine LeO.bind ?_ (fun _ => ?_))
   | exact ih0 _ _ _ _ _ _ _ _ _ _ _ _
   | exact ih1 _ _ _ _ _ _ _ _ _ _ _
   | exact ih2 _ _ _ _ _ _ _ _ _ _ _ _
   | exact ih3 _ _ _ _ _ _ _ _ _ _ _ _
   | exact impl_IsSky.mono _ _ _ _ _ _ _ _ _ _ _
   | exact impl_LimitOf.mono _ _ _ _ _ _ _ _ _ _ _ _ _
   | exact spec_DrawLimitOf.mono _ _
   | exact LeO.none _
   | refine LeO.ite ?_ ?_
   | refine LeO.bind ?_ (fun _ => ?_)
set_option maxHeartbeats 8000000 in
set_option maxRecDepth 100000 in
theorem laws_FnSkies.calls (k : Nat) (A0 : Option Addr) (c0 : Nat) (l0 : List Int) (r : Bool) (w : World) (hr0 : Kd.C (Kd.int .u8) w A0 l0.length l0) (hc0 : l0.length ≤ c0) (h : laws_FnSkies.f k l0 = some r) :
  Calls Try.prog 3 #[.slice A0 l0.length c0] w fun e w' => e = .returned (.bool r) ∧ Below w.heap.size w w':=by
 have hu28:=Try.underlying28
 have HR0:=Aside0.mk hr0
 have HC0:=Aside0.mk hc0
 clear hr0 hc0
 have HB:=Aside0.mk (Below.refl w.heap.size w)
 have H : ((laws_big.f l0).bind fun t411 => (if t411 = true then (some true) else ((spec_DrawLimitOf.f k l0).bind fun bt412 => ((impl_LimitOf.f k bt412.1 bt412.2.1 bt412.2.2.1 bt412.2.2.2.1 bt412.2.2.2.2.1 bt412.2.2.2.2.2.1 bt412.2.2.2.2.2.2.1 bt412.2.2.2.2.2.2.2.1 bt412.2.2.2.2.2.2.2.2.1 bt412.2.2.2.2.2.2.2.2.2.1 bt412.2.2.2.2.2.2.2.2.2.2.1 bt412.2.2.2.2.2.2.2.2.2.2.2).bind fun t431 => ((impl_LimitOf.f k bt412.1 bt412.2.1 bt412.2.2.1 bt412.2.2.2.1 bt412.2.2.2.2.1 bt412.2.2.2.2.2.1 bt412.2.2.2.2.2.2.1 bt412.2.2.2.2.2.2.2.1 bt412.2.2.2.2.2.2.2.2.1 bt412.2.2.2.2.2.2.2.2.2.1 bt412.2.2.2.2.2.2.2.2.2.2.2 bt412.2.2.2.2.2.2.2.2.2.2.1).bind fun t432 => (if t431 = t432 then (if bt412.2.2.2.2.2.2.2.2.2.2.1 = bt412.2.2.2.2.2.2.2.2.2.2.2 then (if t431 = (-1) then ((impl_IsSite.f bt412.1 bt412.2.1 bt412.2.2.1 bt412.2.2.2.1 bt412.2.2.2.2.1 bt412.2.2.2.2.2.1 bt412.2.2.2.2.2.2.1 bt412.2.2.2.2.2.2.2.1 bt412.2.2.2.2.2.2.2.2.1 bt412.2.2.2.2.2.2.2.2.2.1 bt412.2.2.2.2.2.2.2.2.2.2.1).bind fun t433 => (if t433 = true then ((impl_IsSite.f bt412.1 bt412.2.1 bt412.2.2.1 bt412.2.2.2.1 bt412.2.2.2.2.1 bt412.2.2.2.2.2.1 bt412.2.2.2.2.2.2.1 bt412.2.2.2.2.2.2.2.1 bt412.2.2.2.2.2.2.2.2.1 bt412.2.2.2.2.2.2.2.2.2.1 bt412.2.2.2.2.2.2.2.2.2.2.2).bind fun t434 => (if t434 = true then (laws_FnSkies.j0 k t431 (t431 != (-1)) bt412.1 bt412.2.1 bt412.2.2.1 bt412.2.2.2.1 bt412.2.2.2.2.1 bt412.2.2.2.2.2.1 bt412.2.2.2.2.2.2.1 bt412.2.2.2.2.2.2.2.1 bt412.2.2.2.2.2.2.2.2.1 bt412.2.2.2.2.2.2.2.2.2.1) else (laws_FnSkies.j0 k t431 false bt412.1 bt412.2.1 bt412.2.2.1 bt412.2.2.2.1 bt412.2.2.2.2.1 bt412.2.2.2.2.2.1 bt412.2.2.2.2.2.2.1 bt412.2.2.2.2.2.2.2.1 bt412.2.2.2.2.2.2.2.2.1 bt412.2.2.2.2.2.2.2.2.2.1))) else (laws_FnSkies.j0 k t431 false bt412.1 bt412.2.1 bt412.2.2.1 bt412.2.2.2.1 bt412.2.2.2.2.1 bt412.2.2.2.2.2.1 bt412.2.2.2.2.2.2.1 bt412.2.2.2.2.2.2.2.1 bt412.2.2.2.2.2.2.2.2.1 bt412.2.2.2.2.2.2.2.2.2.1))) else (laws_FnSkies.j0 k t431 true bt412.1 bt412.2.1 bt412.2.2.1 bt412.2.2.2.1 bt412.2.2.2.2.1 bt412.2.2.2.2.2.1 bt412.2.2.2.2.2.2.1 bt412.2.2.2.2.2.2.2.1 bt412.2.2.2.2.2.2.2.2.1 bt412.2.2.2.2.2.2.2.2.2.1)) else ((impl_IsSite.f bt412.1 bt412.2.1 bt412.2.2.1 bt412.2.2.2.1 bt412.2.2.2.2.1 bt412.2.2.2.2.2.1 bt412.2.2.2.2.2.2.1 bt412.2.2.2.2.2.2.2.1 bt412.2.2.2.2.2.2.2.2.1 bt412.2.2.2.2.2.2.2.2.2.1 bt412.2.2.2.2.2.2.2.2.2.2.1).bind fun t435 => (if t435 = true then ((impl_IsSite.f bt412.1 bt412.2.1 bt412.2.2.1 bt412.2.2.2.1 bt412.2.2.2.2.1 bt412.2.2.2.2.2.1 bt412.2.2.2.2.2.2.1 bt412.2.2.2.2.2.2.2.1 bt412.2.2.2.2.2.2.2.2.1 bt412.2.2.2.2.2.2.2.2.2.1 bt412.2.2.2.2.2.2.2.2.2.2.2).bind fun t436 => (if t436 = true then (laws_FnSkies.j0 k t431 (t431 != (-1)) bt412.1 bt412.2.1 bt412.2.2.1 bt412.2.2.2.1 bt412.2.2.2.2.1 bt412.2.2.2.2.2.1 bt412.2.2.2.2.2.2.1 bt412.2.2.2.2.2.2.2.1 bt412.2.2.2.2.2.2.2.2.1 bt412.2.2.2.2.2.2.2.2.2.1) else (laws_FnSkies.j0 k t431 false bt412.1 bt412.2.1 bt412.2.2.1 bt412.2.2.2.1 bt412.2.2.2.2.1 bt412.2.2.2.2.2.1 bt412.2.2.2.2.2.2.1 bt412.2.2.2.2.2.2.2.1 bt412.2.2.2.2.2.2.2.2.1 bt412.2.2.2.2.2.2.2.2.2.1))) else (laws_FnSkies.j0 k t431 false bt412.1 bt412.2.1 bt412.2.2.1 bt412.2.2.2.1 bt412.2.2.2.2.1 bt412.2.2.2.2.2.1 bt412.2.2.2.2.2.2.1 bt412.2.2.2.2.2.2.2.1 bt412.2.2.2.2.2.2.2.2.1 bt412.2.2.2.2.2.2.2.2.2.1)))) else (laws_FnSkies.j0 k t431 true bt412.1 bt412.2.1 bt412.2.2.1 bt412.2.2.2.1 bt412.2.2.2.2.1 bt412.2.2.2.2.2.1 bt412.2.2.2.2.2.2.1 bt412.2.2.2.2.2.2.2.1 bt412.2.2.2.2.2.2.2.2.1 bt412.2.2.2.2.2.2.2.2.2.1))))))) = some r:=h
 clear h
 replace H:=Option.bind_eq_some_iff.mp H
 obtain ⟨t411,A20,H⟩:=H
 replace H : (if t411 = true then (some true) else ((spec_DrawLimitOf.f k l0).bind fun bt412 => ((impl_LimitOf.f k bt412.1 bt412.2.1 bt412.2.2.1 bt412.2.2.2.1 bt412.2.2.2.2.1 bt412.2.2.2.2.2.1 bt412.2.2.2.2.2.2.1 bt412.2.2.2.2.2.2.2.1 bt412.2.2.2.2.2.2.2.2.1 bt412.2.2.2.2.2.2.2.2.2.1 bt412.2.2.2.2.2.2.2.2.2.2.1 bt412.2.2.2.2.2.2.2.2.2.2.2).bind fun t431 => ((impl_LimitOf.f k bt412.1 bt412.2.1 bt412.2.2.1 bt412.2.2.2.1 bt412.2.2.2.2.1 bt412.2.2.2.2.2.1 bt412.2.2.2.2.2.2.1 bt412.2.2.2.2.2.2.2.1 bt412.2.2.2.2.2.2.2.2.1 bt412.2.2.2.2.2.2.2.2.2.1 bt412.2.2.2.2.2.2.2.2.2.2.2 bt412.2.2.2.2.2.2.2.2.2.2.1).bind fun t432 => (if t431 = t432 then (if bt412.2.2.2.2.2.2.2.2.2.2.1 = bt412.2.2.2.2.2.2.2.2.2.2.2 then (if t431 = (-1) then ((impl_IsSite.f bt412.1 bt412.2.1 bt412.2.2.1 bt412.2.2.2.1 bt412.2.2.2.2.1 bt412.2.2.2.2.2.1 bt412.2.2.2.2.2.2.1 bt412.2.2.2.2.2.2.2.1 bt412.2.2.2.2.2.2.2.2.1 bt412.2.2.2.2.2.2.2.2.2.1 bt412.2.2.2.2.2.2.2.2.2.2.1).bind fun t433 => (if t433 = true then ((impl_IsSite.f bt412.1 bt412.2.1 bt412.2.2.1 bt412.2.2.2.1 bt412.2.2.2.2.1 bt412.2.2.2.2.2.1 bt412.2.2.2.2.2.2.1 bt412.2.2.2.2.2.2.2.1 bt412.2.2.2.2.2.2.2.2.1 bt412.2.2.2.2.2.2.2.2.2.1 bt412.2.2.2.2.2.2.2.2.2.2.2).bind fun t434 => (if t434 = true then (laws_FnSkies.j0 k t431 (t431 != (-1)) bt412.1 bt412.2.1 bt412.2.2.1 bt412.2.2.2.1 bt412.2.2.2.2.1 bt412.2.2.2.2.2.1 bt412.2.2.2.2.2.2.1 bt412.2.2.2.2.2.2.2.1 bt412.2.2.2.2.2.2.2.2.1 bt412.2.2.2.2.2.2.2.2.2.1) else (laws_FnSkies.j0 k t431 false bt412.1 bt412.2.1 bt412.2.2.1 bt412.2.2.2.1 bt412.2.2.2.2.1 bt412.2.2.2.2.2.1 bt412.2.2.2.2.2.2.1 bt412.2.2.2.2.2.2.2.1 bt412.2.2.2.2.2.2.2.2.1 bt412.2.2.2.2.2.2.2.2.2.1))) else (laws_FnSkies.j0 k t431 false bt412.1 bt412.2.1 bt412.2.2.1 bt412.2.2.2.1 bt412.2.2.2.2.1 bt412.2.2.2.2.2.1 bt412.2.2.2.2.2.2.1 bt412.2.2.2.2.2.2.2.1 bt412.2.2.2.2.2.2.2.2.1 bt412.2.2.2.2.2.2.2.2.2.1))) else (laws_FnSkies.j0 k t431 true bt412.1 bt412.2.1 bt412.2.2.1 bt412.2.2.2.1 bt412.2.2.2.2.1 bt412.2.2.2.2.2.1 bt412.2.2.2.2.2.2.1 bt412.2.2.2.2.2.2.2.1 bt412.2.2.2.2.2.2.2.2.1 bt412.2.2.2.2.2.2.2.2.2.1)) else ((impl_IsSite.f bt412.1 bt412.2.1 bt412.2.2.1 bt412.2.2.2.1 bt412.2.2.2.2.1 bt412.2.2.2.2.2.1 bt412.2.2.2.2.2.2.1 bt412.2.2.2.2.2.2.2.1 bt412.2.2.2.2.2.2.2.2.1 bt412.2.2.2.2.2.2.2.2.2.1 bt412.2.2.2.2.2.2.2.2.2.2.1).bind fun t435 => (if t435 = true then ((impl_IsSite.f bt412.1 bt412.2.1 bt412.2.2.1 bt412.2.2.2.1 bt412.2.2.2.2.1 bt412.2.2.2.2.2.1 bt412.2.2.2.2.2.2.1 bt412.2.2.2.2.2.2.2.1 bt412.2.2.2.2.2.2.2.2.1 bt412.2.2.2.2.2.2.2.2.2.1 bt412.2.2.2.2.2.2.2.2.2.2.2).bind fun t436 => (if t436 = true then (laws_FnSkies.j0 k t431 (t431 != (-1)) bt412.1 bt412.2.1 bt412.2.2.1 bt412.2.2.2.1 bt412.2.2.2.2.1 bt412.2.2.2.2.2.1 bt412.2.2.2.2.2.2.1 bt412.2.2.2.2.2.2.2.1 bt412.2.2.2.2.2.2.2.2.1 bt412.2.2.2.2.2.2.2.2.2.1) else (laws_FnSkies.j0 k t431 false bt412.1 bt412.2.1 bt412.2.2.1 bt412.2.2.2.1 bt412.2.2.2.2.1 bt412.2.2.2.2.2.1 bt412.2.2.2.2.2.2.1 bt412.2.2.2.2.2.2.2.1 bt412.2.2.2.2.2.2.2.2.1 bt412.2.2.2.2.2.2.2.2.2.1))) else (laws_FnSkies.j0 k t431 false bt412.1 bt412.2.1 bt412.2.2.1 bt412.2.2.2.1 bt412.2.2.2.2.1 bt412.2.2.2.2.2.1 bt412.2.2.2.2.2.2.1 bt412.2.2.2.2.2.2.2.1 bt412.2.2.2.2.2.2.2.2.1 bt412.2.2.2.2.2.2.2.2.2.1)))) else (laws_FnSkies.j0 k t431 true bt412.1 bt412.2.1 bt412.2.2.1 bt412.2.2.2.1 bt412.2.2.2.2.1 bt412.2.2.2.2.2.1 bt412.2.2.2.2.2.2.1 bt412.2.2.2.2.2.2.2.1 bt412.2.2.2.2.2.2.2.2.1 bt412.2.2.2.2.2.2.2.2.2.1)))))) = some r:=H
 have A2:=Aside0.mk A20
 clear A20
 by_cases c3 : t411 = true
 ·subst c3
  have H1 : (some true) = some r:=by rw [if_pos rfl] at H;exact H
  clear H
  have H:=H1
  clear H1
  obtain rfl:=Option.some.inj H
  go_enter Try.func3,Try.ntmps3
  go_wp2_with (first|((with_reducible refine gate_callee (f:=4) rfl ?_);refine goesL_ (some 10) rfl rfl Try.func4 (by kernel_rfl) rfl #[.slice A0 l0.length c0] rfl (by (try simp only [List.map_toArray,List.map_cons,List.map_nil]);first|done|rfl|(simp only [List.length_drop,List.length_take];rfl)) ?_;(with_reducible refine (laws_big.calls _ _ l0 true _ ?side1 ?side2 A2.out).mono ?_);(case side1 => repeat (first|exact HR0.out|(with_reducible refine Kd.C_alloc ?_ _)|(with_reducible refine Kd.C_drewN ?_ _)|(with_reducible refine Kd.C_drew ?_)));(case side2 => exact HC0.out);rintro e w' ⟨rfl,⟨nd,rfl⟩⟩;refine ⟨_,rfl,?_⟩))
  go_ret
  exact ⟨by first|rfl|(simp [errW_none,errW_some] <;> rfl)|(simp [*,errW_none,errW_some] <;> rfl),by repeat (first|(with_reducible first|exact HB.out|apply below_alloc|apply pw_below_drewN|apply below_drew1)|exact HB.out)⟩
 ·replace c3:=Bool.eq_false_iff.mpr c3
  subst c3
  have H1 : ((spec_DrawLimitOf.f k l0).bind fun bt412 => ((impl_LimitOf.f k bt412.1 bt412.2.1 bt412.2.2.1 bt412.2.2.2.1 bt412.2.2.2.2.1 bt412.2.2.2.2.2.1 bt412.2.2.2.2.2.2.1 bt412.2.2.2.2.2.2.2.1 bt412.2.2.2.2.2.2.2.2.1 bt412.2.2.2.2.2.2.2.2.2.1 bt412.2.2.2.2.2.2.2.2.2.2.1 bt412.2.2.2.2.2.2.2.2.2.2.2).bind fun t431 => ((impl_LimitOf.f k bt412.1 bt412.2.1 bt412.2.2.1 bt412.2.2.2.1 bt412.2.2.2.2.1 bt412.2.2.2.2.2.1 bt412.2.2.2.2.2.2.1 bt412.2.2.2.2.2.2.2.1 bt412.2.2.2.2.2.2.2.2.1 bt412.2.2.2.2.2.2.2.2.2.1 bt412.2.2.2.2.2.2.2.2.2.2.2 bt412.2.2.2.2.2.2.2.2.2.2.1).bind fun t432 => (if t431 = t432 then (if bt412.2.2.2.2.2.2.2.2.2.2.1 = bt412.2.2.2.2.2.2.2.2.2.2.2 then (if t431 = (-1) then ((impl_IsSite.f bt412.1 bt412.2.1 bt412.2.2.1 bt412.2.2.2.1 bt412.2.2.2.2.1 bt412.2.2.2.2.2.1 bt412.2.2.2.2.2.2.1 bt412.2.2.2.2.2.2.2.1 bt412.2.2.2.2.2.2.2.2.1 bt412.2.2.2.2.2.2.2.2.2.1 bt412.2.2.2.2.2.2.2.2.2.2.1).bind fun t433 => (if t433 = true then ((impl_IsSite.f bt412.1 bt412.2.1 bt412.2.2.1 bt412.2.2.2.1 bt412.2.2.2.2.1 bt412.2.2.2.2.2.1 bt412.2.2.2.2.2.2.1 bt412.2.2.2.2.2.2.2.1 bt412.2.2.2.2.2.2.2.2.1 bt412.2.2.2.2.2.2.2.2.2.1 bt412.2.2.2.2.2.2.2.2.2.2.2).bind fun t434 => (if t434 = true then (laws_FnSkies.j0 k t431 (t431 != (-1)) bt412.1 bt412.2.1 bt412.2.2.1 bt412.2.2.2.1 bt412.2.2.2.2.1 bt412.2.2.2.2.2.1 bt412.2.2.2.2.2.2.1 bt412.2.2.2.2.2.2.2.1 bt412.2.2.2.2.2.2.2.2.1 bt412.2.2.2.2.2.2.2.2.2.1) else (laws_FnSkies.j0 k t431 false bt412.1 bt412.2.1 bt412.2.2.1 bt412.2.2.2.1 bt412.2.2.2.2.1 bt412.2.2.2.2.2.1 bt412.2.2.2.2.2.2.1 bt412.2.2.2.2.2.2.2.1 bt412.2.2.2.2.2.2.2.2.1 bt412.2.2.2.2.2.2.2.2.2.1))) else (laws_FnSkies.j0 k t431 false bt412.1 bt412.2.1 bt412.2.2.1 bt412.2.2.2.1 bt412.2.2.2.2.1 bt412.2.2.2.2.2.1 bt412.2.2.2.2.2.2.1 bt412.2.2.2.2.2.2.2.1 bt412.2.2.2.2.2.2.2.2.1 bt412.2.2.2.2.2.2.2.2.2.1))) else (laws_FnSkies.j0 k t431 true bt412.1 bt412.2.1 bt412.2.2.1 bt412.2.2.2.1 bt412.2.2.2.2.1 bt412.2.2.2.2.2.1 bt412.2.2.2.2.2.2.1 bt412.2.2.2.2.2.2.2.1 bt412.2.2.2.2.2.2.2.2.1 bt412.2.2.2.2.2.2.2.2.2.1)) else ((impl_IsSite.f bt412.1 bt412.2.1 bt412.2.2.1 bt412.2.2.2.1 bt412.2.2.2.2.1 bt412.2.2.2.2.2.1 bt412.2.2.2.2.2.2.1 bt412.2.2.2.2.2.2.2.1 bt412.2.2.2.2.2.2.2.2.1 bt412.2.2.2.2.2.2.2.2.2.1 bt412.2.2.2.2.2.2.2.2.2.2.1).bind fun t435 => (if t435 = true then ((impl_IsSite.f bt412.1 bt412.2.1 bt412.2.2.1 bt412.2.2.2.1 bt412.2.2.2.2.1 bt412.2.2.2.2.2.1 bt412.2.2.2.2.2.2.1 bt412.2.2.2.2.2.2.2.1 bt412.2.2.2.2.2.2.2.2.1 bt412.2.2.2.2.2.2.2.2.2.1 bt412.2.2.2.2.2.2.2.2.2.2.2).bind fun t436 => (if t436 = true then (laws_FnSkies.j0 k t431 (t431 != (-1)) bt412.1 bt412.2.1 bt412.2.2.1 bt412.2.2.2.1 bt412.2.2.2.2.1 bt412.2.2.2.2.2.1 bt412.2.2.2.2.2.2.1 bt412.2.2.2.2.2.2.2.1 bt412.2.2.2.2.2.2.2.2.1 bt412.2.2.2.2.2.2.2.2.2.1) else (laws_FnSkies.j0 k t431 false bt412.1 bt412.2.1 bt412.2.2.1 bt412.2.2.2.1 bt412.2.2.2.2.1 bt412.2.2.2.2.2.1 bt412.2.2.2.2.2.2.1 bt412.2.2.2.2.2.2.2.1 bt412.2.2.2.2.2.2.2.2.1 bt412.2.2.2.2.2.2.2.2.2.1))) else (laws_FnSkies.j0 k t431 false bt412.1 bt412.2.1 bt412.2.2.1 bt412.2.2.2.1 bt412.2.2.2.2.1 bt412.2.2.2.2.2.1 bt412.2.2.2.2.2.2.1 bt412.2.2.2.2.2.2.2.1 bt412.2.2.2.2.2.2.2.2.1 bt412.2.2.2.2.2.2.2.2.2.1)))) else (laws_FnSkies.j0 k t431 true bt412.1 bt412.2.1 bt412.2.2.1 bt412.2.2.2.1 bt412.2.2.2.2.1 bt412.2.2.2.2.2.1 bt412.2.2.2.2.2.2.1 bt412.2.2.2.2.2.2.2.1 bt412.2.2.2.2.2.2.2.2.1 bt412.2.2.2.2.2.2.2.2.2.1))))) = some r:=by rw [if_neg (show ¬ (false = true) by decide)] at H;exact H
  clear H
  have H:=H1
  clear H1
  replace H:=Option.bind_eq_some_iff.mp H
  obtain ⟨⟨t412,t413,t416,t419,t420,t421,t422,t423,t424,t427,t428,t429⟩,A40,H⟩:=H
  replace H : ((impl_LimitOf.f k t412 t413 t416 t419 t420 t421 t422 t423 t424 t427 t428 t429).bind fun t431 => ((impl_LimitOf.f k t412 t413 t416 t419 t420 t421 t422 t423 t424 t427 t429 t428).bind fun t432 => (if t431 = t432 then (if t428 = t429 then (if t431 = (-1) then ((impl_IsSite.f t412 t413 t416 t419 t420 t421 t422 t423 t424 t427 t428).bind fun t433 => (if t433 = true then ((impl_IsSite.f t412 t413 t416 t419 t420 t421 t422 t423 t424 t427 t429).bind fun t434 => (if t434 = true then (laws_FnSkies.j0 k t431 (t431 != (-1)) t412 t413 t416 t419 t420 t421 t422 t423 t424 t427) else (laws_FnSkies.j0 k t431 false t412 t413 t416 t419 t420 t421 t422 t423 t424 t427))) else (laws_FnSkies.j0 k t431 false t412 t413 t416 t419 t420 t421 t422 t423 t424 t427))) else (laws_FnSkies.j0 k t431 true t412 t413 t416 t419 t420 t421 t422 t423 t424 t427)) else ((impl_IsSite.f t412 t413 t416 t419 t420 t421 t422 t423 t424 t427 t428).bind fun t435 => (if t435 = true then ((impl_IsSite.f t412 t413 t416 t419 t420 t421 t422 t423 t424 t427 t429).bind fun t436 => (if t436 = true then (laws_FnSkies.j0 k t431 (t431 != (-1)) t412 t413 t416 t419 t420 t421 t422 t423 t424 t427) else (laws_FnSkies.j0 k t431 false t412 t413 t416 t419 t420 t421 t422 t423 t424 t427))) else (laws_FnSkies.j0 k t431 false t412 t413 t416 t419 t420 t421 t422 t423 t424 t427)))) else (laws_FnSkies.j0 k t431 true t412 t413 t416 t419 t420 t421 t422 t423 t424 t427)))) = some r:=H
  have A4:=Aside0.mk A40
  clear A40
  replace H:=Option.bind_eq_some_iff.mp H
  obtain ⟨t431,A50,H⟩:=H
  replace H : ((impl_LimitOf.f k t412 t413 t416 t419 t420 t421 t422 t423 t424 t427 t429 t428).bind fun t432 => (if t431 = t432 then (if t428 = t429 then (if t431 = (-1) then ((impl_IsSite.f t412 t413 t416 t419 t420 t421 t422 t423 t424 t427 t428).bind fun t433 => (if t433 = true then ((impl_IsSite.f t412 t413 t416 t419 t420 t421 t422 t423 t424 t427 t429).bind fun t434 => (if t434 = true then (laws_FnSkies.j0 k t431 (t431 != (-1)) t412 t413 t416 t419 t420 t421 t422 t423 t424 t427) else (laws_FnSkies.j0 k t431 false t412 t413 t416 t419 t420 t421 t422 t423 t424 t427))) else (laws_FnSkies.j0 k t431 false t412 t413 t416 t419 t420 t421 t422 t423 t424 t427))) else (laws_FnSkies.j0 k t431 true t412 t413 t416 t419 t420 t421 t422 t423 t424 t427)) else ((impl_IsSite.f t412 t413 t416 t419 t420 t421 t422 t423 t424 t427 t428).bind fun t435 => (if t435 = true then ((impl_IsSite.f t412 t413 t416 t419 t420 t421 t422 t423 t424 t427 t429).bind fun t436 => (if t436 = true then (laws_FnSkies.j0 k t431 (t431 != (-1)) t412 t413 t416 t419 t420 t421 t422 t423 t424 t427) else (laws_FnSkies.j0 k t431 false t412 t413 t416 t419 t420 t421 t422 t423 t424 t427))) else (laws_FnSkies.j0 k t431 false t412 t413 t416 t419 t420 t421 t422 t423 t424 t427)))) else (laws_FnSkies.j0 k t431 true t412 t413 t416 t419 t420 t421 t422 t423 t424 t427))) = some r:=H
  have A5:=Aside0.mk A50
  clear A50
  have HC6:=Aside0.mk H
  clear H
  go_enter Try.func3,Try.ntmps3
  go_upto_region 5 with (first|((with_reducible refine gate_callee (f:=4) rfl ?_);refine goesL_ (some 10) rfl rfl Try.func4 (by kernel_rfl) rfl #[.slice A0 l0.length c0] rfl (by (try simp only [List.map_toArray,List.map_cons,List.map_nil]);first|done|rfl|(simp only [List.length_drop,List.length_take];rfl)) ?_;(with_reducible refine (laws_big.calls _ _ l0 false _ ?side1 ?side2 A2.out).mono ?_);(case side1 => repeat (first|exact HR0.out|(with_reducible refine Kd.C_alloc ?_ _)|(with_reducible refine Kd.C_drewN ?_ _)|(with_reducible refine Kd.C_drew ?_)));(case side2 => exact HC0.out);rintro e w' ⟨rfl,⟨nd,rfl⟩⟩;refine ⟨_,rfl,?_⟩)|((with_reducible refine gate_callee (f:=5) rfl ?_);refine goesL_ (some 13) rfl rfl Try.func5 (by kernel_rfl) rfl #[.slice A0 l0.length c0] rfl (by (try simp only [List.map_toArray,List.map_cons,List.map_nil]);first|done|rfl|(simp only [List.length_drop,List.length_take];rfl)) ?_;(with_reducible refine (spec_DrawLimitOf.calls k _ _ l0 t412 t413 t416 t419 t420 t421 t422 t423 t424 t427 t428 t429 _ ?side1 ?side2 A4.out).mono ?_);(case side1 => repeat (first|exact HR0.out|(with_reducible refine Kd.C_alloc ?_ _)|(with_reducible refine Kd.C_drewN ?_ _)|(with_reducible refine Kd.C_drew ?_)));(case side2 => exact HC0.out);rintro e w7 ⟨v414,v417,v425,rfl,ho0,ho1,ho2,hb⟩;refine ⟨_,rfl,?_⟩;have HO415:=Aside0.mk (Kd.R_lower ho0 (below_size (by repeat (first|(with_reducible first|exact HB.out|apply below_alloc|apply pw_below_drewN|apply below_drew1)|exact HB.out))));have HO418:=Aside0.mk (Kd.R_lower ho1 (below_size (by repeat (first|(with_reducible first|exact HB.out|apply below_alloc|apply pw_below_drewN|apply below_drew1)|exact HB.out))));have HO426:=Aside0.mk (Kd.R_lower ho2 (below_size (by repeat (first|(with_reducible first|exact HB.out|apply below_alloc|apply pw_below_drewN|apply below_drew1)|exact HB.out))));replace HB:=Aside0.mk (below_step (by repeat (first|(with_reducible first|exact HB.out|apply below_alloc|apply pw_below_drewN|apply below_drew1)|exact HB.out)) hb);(try clear hb);(try clear hb2);(try clear hk);(try clear hi);(try clear ho0);(try clear ho1);(try clear ho2))|((with_reducible refine gate_dst (N:=3) rfl ?_);refine box_event ?hg (N:=3) ?hd (cs:=#[.int .i64 0,.slice none 0 0,.slice none 0 0,.int .i64 0,.int .i64 0,.int .i64 0,.int .i64 0,.int .i64 0,.slice none 0 0,.int .i64 0]) (t:=28) ?hr ?_;(case hd => rfl);(case hg => rfl);(case hr => first|(go_simp;done)|(go_simp;rfl));intro gb430 hg w8 hbox hb;replace HO415:=Aside0.mk (Kd.R_below (by (with_reducible repeat (first|apply Kd.R_alloc|apply Kd.R_drewN|apply Kd.R_drew));exact HO415.out) hb);replace HO418:=Aside0.mk (Kd.R_below (by (with_reducible repeat (first|apply Kd.R_alloc|apply Kd.R_drewN|apply Kd.R_drew));exact HO418.out) hb);replace HO426:=Aside0.mk (Kd.R_below (by (with_reducible repeat (first|apply Kd.R_alloc|apply Kd.R_drewN|apply Kd.R_drew));exact HO426.out) hb);have BK430:=Aside0.mk (hbox);have GE430:=Aside0.mk ((by rw [hg];exact (below_size (by repeat (first|(with_reducible first|exact HB.out|apply below_alloc|apply pw_below_drewN|apply below_drew1)|exact HB.out))) : w.heap.size ≤ gb430));replace HB:=Aside0.mk (below_step (by repeat (first|(with_reducible first|exact HB.out|apply below_alloc|apply pw_below_drewN|apply below_drew1)|exact HB.out)) hb);clear hb hbox hg;have hcz9_0 : w8.cell? ⟨gb430,0,none⟩ = some (.int .i64 0):=(blk_cell BK430.out 0).trans rfl;have hcz9_1 : w8.cell? ⟨gb430,1,none⟩ = some (.slice none 0 0):=(blk_cell BK430.out 1).trans rfl;have hcz9_2 : w8.cell? ⟨gb430,2,none⟩ = some (.slice none 0 0):=(blk_cell BK430.out 2).trans rfl;have hcz9_3 : w8.cell? ⟨gb430,3,none⟩ = some (.int .i64 0):=(blk_cell BK430.out 3).trans rfl;have hcz9_4 : w8.cell? ⟨gb430,4,none⟩ = some (.int .i64 0):=(blk_cell BK430.out 4).trans rfl;have hcz9_5 : w8.cell? ⟨gb430,5,none⟩ = some (.int .i64 0):=(blk_cell BK430.out 5).trans rfl;have hcz9_6 : w8.cell? ⟨gb430,6,none⟩ = some (.int .i64 0):=(blk_cell BK430.out 6).trans rfl;have hcz9_7 : w8.cell? ⟨gb430,7,none⟩ = some (.int .i64 0):=(blk_cell BK430.out 7).trans rfl;have hcz9_8 : w8.cell? ⟨gb430,8,none⟩ = some (.slice none 0 0):=(blk_cell BK430.out 8).trans rfl;have hcz9_9 : w8.cell? ⟨gb430,9,none⟩ = some (.int .i64 0):=(blk_cell BK430.out 9).trans rfl;have hfz9_0:=blk_frozen BK430.out 0;have hfz9_1:=blk_frozen BK430.out 1;have hfz9_2:=blk_frozen BK430.out 2;have hfz9_3:=blk_frozen BK430.out 3;have hfz9_4:=blk_frozen BK430.out 4;have hfz9_5:=blk_frozen BK430.out 5;have hfz9_6:=blk_frozen BK430.out 6;have hfz9_7:=blk_frozen BK430.out 7;have hfz9_8:=blk_frozen BK430.out 8;have hfz9_9:=blk_frozen BK430.out 9;obtain ⟨Ao10,co10,eo10⟩:=Kd.R_slice HO415.out;subst eo10;obtain ⟨Ao11,co11,eo11⟩:=Kd.R_slice HO418.out;subst eo11;obtain ⟨Ao12,co12,eo12⟩:=Kd.R_slice HO426.out;subst eo12)|((with_reducible refine gate_callee (f:=6) rfl ?_);refine goesL_ (some 20) rfl rfl Try.func6 (by kernel_rfl) rfl #[.agg #[.int .i64 t412,.slice Ao10 t413.length co10,.slice Ao11 t416.length co11,.int .i64 t419,.int .i64 t420,.int .i64 t421,.int .i64 t422,.int .i64 t423,.slice Ao12 t424.length co12,.int .i64 t427],.int .i64 t428,.int .i64 t429] rfl (by (try simp only [List.map_toArray,List.map_cons,List.map_nil]);first|done|rfl|(simp only [List.length_drop,List.length_take];rfl)) ?_;(with_reducible refine (impl_LimitOf.calls k t412 _ _ t413 _ _ t416 t419 t420 t421 t422 t423 _ _ t424 t427 t428 t429 t431 _ ?side1 ?side2 ?side3 ?side4 ?side5 ?side6 A5.out).mono ?_);(case side1 => refine (Kd.R_reads' (e:=43) (base:=w.heap.size) (ok:=fun k_ => True) (n:=t413.length) (c:=co10) ?_).2.2;exact (by (with_reducible repeat (first|apply Kd.R_alloc|apply Kd.R_drewN|apply Kd.R_drew));exact (Kd.R_mono (Kd.R_far (p:=⟨gb430,9,none⟩) (Kd.R_far (p:=⟨gb430,8,none⟩) (Kd.R_far (p:=⟨gb430,7,none⟩) (Kd.R_far (p:=⟨gb430,6,none⟩) (Kd.R_far (p:=⟨gb430,5,none⟩) (Kd.R_far (p:=⟨gb430,4,none⟩) (Kd.R_far (p:=⟨gb430,3,none⟩) (Kd.R_far (p:=⟨gb430,2,none⟩) (Kd.R_far (p:=⟨gb430,1,none⟩) (Kd.R_far (p:=⟨gb430,0,none⟩) (Kd.R_types HO415.out BK430.out (by decide)) (fun _ hk => hk.2) (.int .i64 t412)) (fun _ hk => hk.2) (.slice Ao10 t413.length co10)) (fun _ hk => hk.2) (.slice Ao11 t416.length co11)) (fun _ hk => hk.2) (.int .i64 t419)) (fun _ hk => hk.2) (.int .i64 t420)) (fun _ hk => hk.2) (.int .i64 t421)) (fun _ hk => hk.2) (.int .i64 t422)) (fun _ hk => hk.2) (.int .i64 t423)) (fun _ hk => hk.2) (.slice Ao12 t424.length co12)) (fun _ hk => hk.2) (.int .i64 t427)) (fun _ h_ => h_.1))));(case side2 => exact (Kd.R_reads' HO415.out).2.1);(case side3 => refine (Kd.R_reads' (e:=46) (base:=w.heap.size) (ok:=fun k_ => True) (n:=t416.length) (c:=co11) ?_).2.2;exact (by (with_reducible repeat (first|apply Kd.R_alloc|apply Kd.R_drewN|apply Kd.R_drew));exact (Kd.R_mono (Kd.R_far (p:=⟨gb430,9,none⟩) (Kd.R_far (p:=⟨gb430,8,none⟩) (Kd.R_far (p:=⟨gb430,7,none⟩) (Kd.R_far (p:=⟨gb430,6,none⟩) (Kd.R_far (p:=⟨gb430,5,none⟩) (Kd.R_far (p:=⟨gb430,4,none⟩) (Kd.R_far (p:=⟨gb430,3,none⟩) (Kd.R_far (p:=⟨gb430,2,none⟩) (Kd.R_far (p:=⟨gb430,1,none⟩) (Kd.R_far (p:=⟨gb430,0,none⟩) (Kd.R_types HO418.out BK430.out (by decide)) (fun _ hk => hk.2) (.int .i64 t412)) (fun _ hk => hk.2) (.slice Ao10 t413.length co10)) (fun _ hk => hk.2) (.slice Ao11 t416.length co11)) (fun _ hk => hk.2) (.int .i64 t419)) (fun _ hk => hk.2) (.int .i64 t420)) (fun _ hk => hk.2) (.int .i64 t421)) (fun _ hk => hk.2) (.int .i64 t422)) (fun _ hk => hk.2) (.int .i64 t423)) (fun _ hk => hk.2) (.slice Ao12 t424.length co12)) (fun _ hk => hk.2) (.int .i64 t427)) (fun _ h_ => h_.1))));(case side4 => exact (Kd.R_reads' HO418.out).2.1);(case side5 => refine (Kd.R_reads' (e:=50) (base:=w.heap.size) (ok:=fun k_ => True) (n:=t424.length) (c:=co12) ?_).2.2;exact (by (with_reducible repeat (first|apply Kd.R_alloc|apply Kd.R_drewN|apply Kd.R_drew));exact (Kd.R_mono (Kd.R_far (p:=⟨gb430,9,none⟩) (Kd.R_far (p:=⟨gb430,8,none⟩) (Kd.R_far (p:=⟨gb430,7,none⟩) (Kd.R_far (p:=⟨gb430,6,none⟩) (Kd.R_far (p:=⟨gb430,5,none⟩) (Kd.R_far (p:=⟨gb430,4,none⟩) (Kd.R_far (p:=⟨gb430,3,none⟩) (Kd.R_far (p:=⟨gb430,2,none⟩) (Kd.R_far (p:=⟨gb430,1,none⟩) (Kd.R_far (p:=⟨gb430,0,none⟩) (Kd.R_types HO426.out BK430.out (by decide)) (fun _ hk => hk.2) (.int .i64 t412)) (fun _ hk => hk.2) (.slice Ao10 t413.length co10)) (fun _ hk => hk.2) (.slice Ao11 t416.length co11)) (fun _ hk => hk.2) (.int .i64 t419)) (fun _ hk => hk.2) (.int .i64 t420)) (fun _ hk => hk.2) (.int .i64 t421)) (fun _ hk => hk.2) (.int .i64 t422)) (fun _ hk => hk.2) (.int .i64 t423)) (fun _ hk => hk.2) (.slice Ao12 t424.length co12)) (fun _ hk => hk.2) (.int .i64 t427)) (fun _ h_ => h_.1))));(case side6 => exact (Kd.R_reads' HO426.out).2.1);rintro e w13 ⟨rfl,hb⟩;refine ⟨_,rfl,?_⟩;replace HO415:=Aside0.mk (Kd.R_below (by (with_reducible repeat (first|apply Kd.R_alloc|apply Kd.R_drewN|apply Kd.R_drew));exact (Kd.R_mono (Kd.R_far (p:=⟨gb430,9,none⟩) (Kd.R_far (p:=⟨gb430,8,none⟩) (Kd.R_far (p:=⟨gb430,7,none⟩) (Kd.R_far (p:=⟨gb430,6,none⟩) (Kd.R_far (p:=⟨gb430,5,none⟩) (Kd.R_far (p:=⟨gb430,4,none⟩) (Kd.R_far (p:=⟨gb430,3,none⟩) (Kd.R_far (p:=⟨gb430,2,none⟩) (Kd.R_far (p:=⟨gb430,1,none⟩) (Kd.R_far (p:=⟨gb430,0,none⟩) (Kd.R_types HO415.out BK430.out (by decide)) (fun _ hk => hk.2) (.int .i64 t412)) (fun _ hk => hk.2) (.slice Ao10 t413.length co10)) (fun _ hk => hk.2) (.slice Ao11 t416.length co11)) (fun _ hk => hk.2) (.int .i64 t419)) (fun _ hk => hk.2) (.int .i64 t420)) (fun _ hk => hk.2) (.int .i64 t421)) (fun _ hk => hk.2) (.int .i64 t422)) (fun _ hk => hk.2) (.int .i64 t423)) (fun _ hk => hk.2) (.slice Ao12 t424.length co12)) (fun _ hk => hk.2) (.int .i64 t427)) (fun _ h_ => h_.1))) hb);replace HO418:=Aside0.mk (Kd.R_below (by (with_reducible repeat (first|apply Kd.R_alloc|apply Kd.R_drewN|apply Kd.R_drew));exact (Kd.R_mono (Kd.R_far (p:=⟨gb430,9,none⟩) (Kd.R_far (p:=⟨gb430,8,none⟩) (Kd.R_far (p:=⟨gb430,7,none⟩) (Kd.R_far (p:=⟨gb430,6,none⟩) (Kd.R_far (p:=⟨gb430,5,none⟩) (Kd.R_far (p:=⟨gb430,4,none⟩) (Kd.R_far (p:=⟨gb430,3,none⟩) (Kd.R_far (p:=⟨gb430,2,none⟩) (Kd.R_far (p:=⟨gb430,1,none⟩) (Kd.R_far (p:=⟨gb430,0,none⟩) (Kd.R_types HO418.out BK430.out (by decide)) (fun _ hk => hk.2) (.int .i64 t412)) (fun _ hk => hk.2) (.slice Ao10 t413.length co10)) (fun _ hk => hk.2) (.slice Ao11 t416.length co11)) (fun _ hk => hk.2) (.int .i64 t419)) (fun _ hk => hk.2) (.int .i64 t420)) (fun _ hk => hk.2) (.int .i64 t421)) (fun _ hk => hk.2) (.int .i64 t422)) (fun _ hk => hk.2) (.int .i64 t423)) (fun _ hk => hk.2) (.slice Ao12 t424.length co12)) (fun _ hk => hk.2) (.int .i64 t427)) (fun _ h_ => h_.1))) hb);replace HO426:=Aside0.mk (Kd.R_below (by (with_reducible repeat (first|apply Kd.R_alloc|apply Kd.R_drewN|apply Kd.R_drew));exact (Kd.R_mono (Kd.R_far (p:=⟨gb430,9,none⟩) (Kd.R_far (p:=⟨gb430,8,none⟩) (Kd.R_far (p:=⟨gb430,7,none⟩) (Kd.R_far (p:=⟨gb430,6,none⟩) (Kd.R_far (p:=⟨gb430,5,none⟩) (Kd.R_far (p:=⟨gb430,4,none⟩) (Kd.R_far (p:=⟨gb430,3,none⟩) (Kd.R_far (p:=⟨gb430,2,none⟩) (Kd.R_far (p:=⟨gb430,1,none⟩) (Kd.R_far (p:=⟨gb430,0,none⟩) (Kd.R_types HO426.out BK430.out (by decide)) (fun _ hk => hk.2) (.int .i64 t412)) (fun _ hk => hk.2) (.slice Ao10 t413.length co10)) (fun _ hk => hk.2) (.slice Ao11 t416.length co11)) (fun _ hk => hk.2) (.int .i64 t419)) (fun _ hk => hk.2) (.int .i64 t420)) (fun _ hk => hk.2) (.int .i64 t421)) (fun _ hk => hk.2) (.int .i64 t422)) (fun _ hk => hk.2) (.int .i64 t423)) (fun _ hk => hk.2) (.slice Ao12 t424.length co12)) (fun _ hk => hk.2) (.int .i64 t427)) (fun _ h_ => h_.1))) hb);replace BK430:=Aside0.mk (blk_below (g:=gb430) (o:=.cells #[.int .i64 t412,.slice Ao10 t413.length co10,.slice Ao11 t416.length co11,.int .i64 t419,.int .i64 t420,.int .i64 t421,.int .i64 t422,.int .i64 t423,.slice Ao12 t424.length co12,.int .i64 t427] 28 (0,0)) (by (with_reducible repeat (first|refine blk_drewN ?_ _|refine blk_drew ?_|refine blk_alloc ?_ _));refine blk_put (cs:=#[.int .i64 t412,.slice Ao10 t413.length co10,.slice Ao11 t416.length co11,.int .i64 t419,.int .i64 t420,.int .i64 t421,.int .i64 t422,.int .i64 t423,.slice Ao12 t424.length co12,.int .i64 0]) ?_ 9 _ rfl;(with_reducible repeat (first|refine blk_drewN ?_ _|refine blk_drew ?_|refine blk_alloc ?_ _));refine blk_put (cs:=#[.int .i64 t412,.slice Ao10 t413.length co10,.slice Ao11 t416.length co11,.int .i64 t419,.int .i64 t420,.int .i64 t421,.int .i64 t422,.int .i64 t423,.slice none 0 0,.int .i64 0]) ?_ 8 _ rfl;(with_reducible repeat (first|refine blk_drewN ?_ _|refine blk_drew ?_|refine blk_alloc ?_ _));refine blk_put (cs:=#[.int .i64 t412,.slice Ao10 t413.length co10,.slice Ao11 t416.length co11,.int .i64 t419,.int .i64 t420,.int .i64 t421,.int .i64 t422,.int .i64 0,.slice none 0 0,.int .i64 0]) ?_ 7 _ rfl;(with_reducible repeat (first|refine blk_drewN ?_ _|refine blk_drew ?_|refine blk_alloc ?_ _));refine blk_put (cs:=#[.int .i64 t412,.slice Ao10 t413.length co10,.slice Ao11 t416.length co11,.int .i64 t419,.int .i64 t420,.int .i64 t421,.int .i64 0,.int .i64 0,.slice none 0 0,.int .i64 0]) ?_ 6 _ rfl;(with_reducible repeat (first|refine blk_drewN ?_ _|refine blk_drew ?_|refine blk_alloc ?_ _));refine blk_put (cs:=#[.int .i64 t412,.slice Ao10 t413.length co10,.slice Ao11 t416.length co11,.int .i64 t419,.int .i64 t420,.int .i64 0,.int .i64 0,.int .i64 0,.slice none 0 0,.int .i64 0]) ?_ 5 _ rfl;(with_reducible repeat (first|refine blk_drewN ?_ _|refine blk_drew ?_|refine blk_alloc ?_ _));refine blk_put (cs:=#[.int .i64 t412,.slice Ao10 t413.length co10,.slice Ao11 t416.length co11,.int .i64 t419,.int .i64 0,.int .i64 0,.int .i64 0,.int .i64 0,.slice none 0 0,.int .i64 0]) ?_ 4 _ rfl;(with_reducible repeat (first|refine blk_drewN ?_ _|refine blk_drew ?_|refine blk_alloc ?_ _));refine blk_put (cs:=#[.int .i64 t412,.slice Ao10 t413.length co10,.slice Ao11 t416.length co11,.int .i64 0,.int .i64 0,.int .i64 0,.int .i64 0,.int .i64 0,.slice none 0 0,.int .i64 0]) ?_ 3 _ rfl;(with_reducible repeat (first|refine blk_drewN ?_ _|refine blk_drew ?_|refine blk_alloc ?_ _));refine blk_put (cs:=#[.int .i64 t412,.slice Ao10 t413.length co10,.slice none 0 0,.int .i64 0,.int .i64 0,.int .i64 0,.int .i64 0,.int .i64 0,.slice none 0 0,.int .i64 0]) ?_ 2 _ rfl;(with_reducible repeat (first|refine blk_drewN ?_ _|refine blk_drew ?_|refine blk_alloc ?_ _));refine blk_put (cs:=#[.int .i64 t412,.slice none 0 0,.slice none 0 0,.int .i64 0,.int .i64 0,.int .i64 0,.int .i64 0,.int .i64 0,.slice none 0 0,.int .i64 0]) ?_ 1 _ rfl;(with_reducible repeat (first|refine blk_drewN ?_ _|refine blk_drew ?_|refine blk_alloc ?_ _));refine blk_put (cs:=#[.int .i64 0,.slice none 0 0,.slice none 0 0,.int .i64 0,.int .i64 0,.int .i64 0,.int .i64 0,.int .i64 0,.slice none 0 0,.int .i64 0]) ?_ 0 _ rfl;(with_reducible repeat (first|refine blk_drewN ?_ _|refine blk_drew ?_|refine blk_alloc ?_ _));exact BK430.out) hb);replace HB:=Aside0.mk (below_step (by repeat (first|(with_reducible first|exact HB.out|apply below_alloc|apply pw_below_drewN|apply below_drew1|refine below_set ?_ GE430.out)|exact HB.out)) hb);(try clear hb);(try clear hb2);(try clear hk);(try clear hi)))
  (try simp only [Act.put,List.setIfInBounds_toArray,List.set_cons_zero,List.set_cons_succ])
  go_cut [49] (fun v49 wc => ∃ (kq : Nat) (x49_5 : Bool),v49 = .bool x49_5 ∧ Aside0 (laws_FnSkies.j0 kq t431 x49_5 t412 t413 t416 t419 t420 t421 t422 t423 t424 t427 = some r) ∧ Aside0 (kq ≤ k) ∧ Aside0 (Kd.R k43 43 wc w.heap.size (fun _ => True) (.slice Ao10 t413.length co10) t413) ∧ Aside0 (Kd.R k46 46 wc w.heap.size (fun _ => True) (.slice Ao11 t416.length co11) t416) ∧ Aside0 (Kd.R k50 50 wc w.heap.size (fun _ => True) (.slice Ao12 t424.length co12) t424) ∧ Aside0 (wc.heap[gb430]? = some (.cells #[.int .i64 t412,(.slice Ao10 t413.length co10),(.slice Ao11 t416.length co11),.int .i64 t419,.int .i64 t420,.int .i64 t421,.int .i64 t422,.int .i64 t423,(.slice Ao12 t424.length co12),.int .i64 t427] 28 (0,0))) ∧ Aside0 (Below w.heap.size w wc))
  case first =>
   have H:=HC6.out
   clear HC6
   replace H:=Option.bind_eq_some_iff.mp H
   obtain ⟨t432,A140,H⟩:=H
   replace H : (if t431 = t432 then (if t428 = t429 then (if t431 = (-1) then ((impl_IsSite.f t412 t413 t416 t419 t420 t421 t422 t423 t424 t427 t428).bind fun t433 => (if t433 = true then ((impl_IsSite.f t412 t413 t416 t419 t420 t421 t422 t423 t424 t427 t429).bind fun t434 => (if t434 = true then (laws_FnSkies.j0 k t431 (t431 != (-1)) t412 t413 t416 t419 t420 t421 t422 t423 t424 t427) else (laws_FnSkies.j0 k t431 false t412 t413 t416 t419 t420 t421 t422 t423 t424 t427))) else (laws_FnSkies.j0 k t431 false t412 t413 t416 t419 t420 t421 t422 t423 t424 t427))) else (laws_FnSkies.j0 k t431 true t412 t413 t416 t419 t420 t421 t422 t423 t424 t427)) else ((impl_IsSite.f t412 t413 t416 t419 t420 t421 t422 t423 t424 t427 t428).bind fun t435 => (if t435 = true then ((impl_IsSite.f t412 t413 t416 t419 t420 t421 t422 t423 t424 t427 t429).bind fun t436 => (if t436 = true then (laws_FnSkies.j0 k t431 (t431 != (-1)) t412 t413 t416 t419 t420 t421 t422 t423 t424 t427) else (laws_FnSkies.j0 k t431 false t412 t413 t416 t419 t420 t421 t422 t423 t424 t427))) else (laws_FnSkies.j0 k t431 false t412 t413 t416 t419 t420 t421 t422 t423 t424 t427)))) else (laws_FnSkies.j0 k t431 true t412 t413 t416 t419 t420 t421 t422 t423 t424 t427)) = some r:=H
   have A14:=Aside0.mk A140
   clear A140
   by_cases c15 : t431 = t432
   ·rw [if_pos c15] at H
    have c15b0 : (t431 == t432) = true:=beq_iff_eq.mpr c15
    have c15b1 : (t431 != t432) = false:=bne_eq_false_iff_eq.mpr c15
    clear c15
    (first|rw [c15b0]|(simp only [i64_w,i32_w];rw [c15b0])|skip)
    by_cases c16 : t428 = t429
    ·rw [if_pos c16] at H
     have c16b0 : (t428 == t429) = true:=beq_iff_eq.mpr c16
     have c16b1 : (t428 != t429) = false:=bne_eq_false_iff_eq.mpr c16
     clear c16
     by_cases c17 : t431 = (-1)
     ·rw [if_pos c17] at H
      have c17b0 : (t431 == (-1)) = true:=beq_iff_eq.mpr c17
      have c17b1 : (t431 != (-1)) = false:=bne_eq_false_iff_eq.mpr c17
      clear c17
      replace H:=Option.bind_eq_some_iff.mp H
      obtain ⟨t433,A180,H⟩:=H
      replace H : (if t433 = true then ((impl_IsSite.f t412 t413 t416 t419 t420 t421 t422 t423 t424 t427 t429).bind fun t434 => (if t434 = true then (laws_FnSkies.j0 k t431 (t431 != (-1)) t412 t413 t416 t419 t420 t421 t422 t423 t424 t427) else (laws_FnSkies.j0 k t431 false t412 t413 t416 t419 t420 t421 t422 t423 t424 t427))) else (laws_FnSkies.j0 k t431 false t412 t413 t416 t419 t420 t421 t422 t423 t424 t427)) = some r:=H
      have A18:=Aside0.mk A180
      clear A180
      by_cases c19 : t433 = true
      ·subst c19
       have H1 : ((impl_IsSite.f t412 t413 t416 t419 t420 t421 t422 t423 t424 t427 t429).bind fun t434 => (if t434 = true then (laws_FnSkies.j0 k t431 (t431 != (-1)) t412 t413 t416 t419 t420 t421 t422 t423 t424 t427) else (laws_FnSkies.j0 k t431 false t412 t413 t416 t419 t420 t421 t422 t423 t424 t427))) = some r:=by rw [if_pos rfl] at H;exact H
       clear H
       have H:=H1
       clear H1
       replace H:=Option.bind_eq_some_iff.mp H
       obtain ⟨t434,A200,H⟩:=H
       replace H : (if t434 = true then (laws_FnSkies.j0 k t431 (t431 != (-1)) t412 t413 t416 t419 t420 t421 t422 t423 t424 t427) else (laws_FnSkies.j0 k t431 false t412 t413 t416 t419 t420 t421 t422 t423 t424 t427)) = some r:=H
       have A20:=Aside0.mk A200
       clear A200
       by_cases c21 : t434 = true
       ·subst c21
        have H1 : (laws_FnSkies.j0 k t431 (t431 != (-1)) t412 t413 t416 t419 t420 t421 t422 t423 t424 t427) = some r:=by rw [if_pos rfl] at H;exact H
        clear H
        have H:=H1
        clear H1
        have H':=Aside0.mk H
        clear H
        have hcz22_0 : w13.cell? ⟨gb430,0,none⟩ = some (.int .i64 t412):=(blk_cell BK430.out 0).trans rfl
        have hcz22_1 : w13.cell? ⟨gb430,1,none⟩ = some (.slice Ao10 t413.length co10):=(blk_cell BK430.out 1).trans rfl
        have hcz22_2 : w13.cell? ⟨gb430,2,none⟩ = some (.slice Ao11 t416.length co11):=(blk_cell BK430.out 2).trans rfl
        have hcz22_3 : w13.cell? ⟨gb430,3,none⟩ = some (.int .i64 t419):=(blk_cell BK430.out 3).trans rfl
        have hcz22_4 : w13.cell? ⟨gb430,4,none⟩ = some (.int .i64 t420):=(blk_cell BK430.out 4).trans rfl
        have hcz22_5 : w13.cell? ⟨gb430,5,none⟩ = some (.int .i64 t421):=(blk_cell BK430.out 5).trans rfl
        have hcz22_6 : w13.cell? ⟨gb430,6,none⟩ = some (.int .i64 t422):=(blk_cell BK430.out 6).trans rfl
        have hcz22_7 : w13.cell? ⟨gb430,7,none⟩ = some (.int .i64 t423):=(blk_cell BK430.out 7).trans rfl
        have hcz22_8 : w13.cell? ⟨gb430,8,none⟩ = some (.slice Ao12 t424.length co12):=(blk_cell BK430.out 8).trans rfl
        have hcz22_9 : w13.cell? ⟨gb430,9,none⟩ = some (.int .i64 t427):=(blk_cell BK430.out 9).trans rfl
        have hfz22_0:=blk_frozen BK430.out 0
        have hfz22_1:=blk_frozen BK430.out 1
        have hfz22_2:=blk_frozen BK430.out 2
        have hfz22_3:=blk_frozen BK430.out 3
        have hfz22_4:=blk_frozen BK430.out 4
        have hfz22_5:=blk_frozen BK430.out 5
        have hfz22_6:=blk_frozen BK430.out 6
        have hfz22_7:=blk_frozen BK430.out 7
        have hfz22_8:=blk_frozen BK430.out 8
        have hfz22_9:=blk_frozen BK430.out 9
        go_wp2_with (first|((with_reducible refine gate_callee (f:=6) rfl ?_);refine goesL_ (some 25) rfl rfl Try.func6 (by kernel_rfl) rfl #[.agg #[.int .i64 t412,.slice Ao10 t413.length co10,.slice Ao11 t416.length co11,.int .i64 t419,.int .i64 t420,.int .i64 t421,.int .i64 t422,.int .i64 t423,.slice Ao12 t424.length co12,.int .i64 t427],.int .i64 t429,.int .i64 t428] rfl (by (try simp only [List.map_toArray,List.map_cons,List.map_nil]);first|done|rfl|(simp only [List.length_drop,List.length_take];rfl)) ?_;(with_reducible refine (impl_LimitOf.calls k t412 _ _ t413 _ _ t416 t419 t420 t421 t422 t423 _ _ t424 t427 t429 t428 t432 _ ?side1 ?side2 ?side3 ?side4 ?side5 ?side6 A14.out).mono ?_);(case side1 => repeat (first|exact (Kd.R_reads' HO415.out).2.2|(with_reducible refine Kd.C_alloc ?_ _)|(with_reducible refine Kd.C_drewN ?_ _)|(with_reducible refine Kd.C_drew ?_)));(case side2 => exact (Kd.R_reads' HO415.out).2.1);(case side3 => repeat (first|exact (Kd.R_reads' HO418.out).2.2|(with_reducible refine Kd.C_alloc ?_ _)|(with_reducible refine Kd.C_drewN ?_ _)|(with_reducible refine Kd.C_drew ?_)));(case side4 => exact (Kd.R_reads' HO418.out).2.1);(case side5 => repeat (first|exact (Kd.R_reads' HO426.out).2.2|(with_reducible refine Kd.C_alloc ?_ _)|(with_reducible refine Kd.C_drewN ?_ _)|(with_reducible refine Kd.C_drew ?_)));(case side6 => exact (Kd.R_reads' HO426.out).2.1);rintro e w23 ⟨rfl,hb⟩;refine ⟨_,rfl,?_⟩;replace HO415:=Aside0.mk (Kd.R_below (by (with_reducible repeat (first|apply Kd.R_alloc|apply Kd.R_drewN|apply Kd.R_drew));exact HO415.out) hb);replace HO418:=Aside0.mk (Kd.R_below (by (with_reducible repeat (first|apply Kd.R_alloc|apply Kd.R_drewN|apply Kd.R_drew));exact HO418.out) hb);replace HO426:=Aside0.mk (Kd.R_below (by (with_reducible repeat (first|apply Kd.R_alloc|apply Kd.R_drewN|apply Kd.R_drew));exact HO426.out) hb);replace BK430:=Aside0.mk (blk_below (g:=gb430) (o:=.cells #[.int .i64 t412,.slice Ao10 t413.length co10,.slice Ao11 t416.length co11,.int .i64 t419,.int .i64 t420,.int .i64 t421,.int .i64 t422,.int .i64 t423,.slice Ao12 t424.length co12,.int .i64 t427] 28 (0,0)) (by (with_reducible repeat (first|refine blk_drewN ?_ _|refine blk_drew ?_|refine blk_alloc ?_ _));exact BK430.out) hb);replace HB:=Aside0.mk (below_step (by repeat (first|(with_reducible first|exact HB.out|apply below_alloc|apply pw_below_drewN|apply below_drew1|refine below_set ?_ GE430.out)|exact HB.out)) hb);(try clear hb);(try clear hb2);(try clear hk);(try clear hi);have hcz24_0 : w23.cell? ⟨gb430,0,none⟩ = some (.int .i64 t412):=(blk_cell BK430.out 0).trans rfl;have hcz24_1 : w23.cell? ⟨gb430,1,none⟩ = some (.slice Ao10 t413.length co10):=(blk_cell BK430.out 1).trans rfl;have hcz24_2 : w23.cell? ⟨gb430,2,none⟩ = some (.slice Ao11 t416.length co11):=(blk_cell BK430.out 2).trans rfl;have hcz24_3 : w23.cell? ⟨gb430,3,none⟩ = some (.int .i64 t419):=(blk_cell BK430.out 3).trans rfl;have hcz24_4 : w23.cell? ⟨gb430,4,none⟩ = some (.int .i64 t420):=(blk_cell BK430.out 4).trans rfl;have hcz24_5 : w23.cell? ⟨gb430,5,none⟩ = some (.int .i64 t421):=(blk_cell BK430.out 5).trans rfl;have hcz24_6 : w23.cell? ⟨gb430,6,none⟩ = some (.int .i64 t422):=(blk_cell BK430.out 6).trans rfl;have hcz24_7 : w23.cell? ⟨gb430,7,none⟩ = some (.int .i64 t423):=(blk_cell BK430.out 7).trans rfl;have hcz24_8 : w23.cell? ⟨gb430,8,none⟩ = some (.slice Ao12 t424.length co12):=(blk_cell BK430.out 8).trans rfl;have hcz24_9 : w23.cell? ⟨gb430,9,none⟩ = some (.int .i64 t427):=(blk_cell BK430.out 9).trans rfl;have hfz24_0:=blk_frozen BK430.out 0;have hfz24_1:=blk_frozen BK430.out 1;have hfz24_2:=blk_frozen BK430.out 2;have hfz24_3:=blk_frozen BK430.out 3;have hfz24_4:=blk_frozen BK430.out 4;have hfz24_5:=blk_frozen BK430.out 5;have hfz24_6:=blk_frozen BK430.out 6;have hfz24_7:=blk_frozen BK430.out 7;have hfz24_8:=blk_frozen BK430.out 8;have hfz24_9:=blk_frozen BK430.out 9)|(go_at_call 7;(with_reducible refine (impl_IsSite.calls t412 _ _ t413 _ _ t416 t419 t420 t421 t422 t423 _ _ t424 t427 t428 true _ ?side1 ?side2 ?side3 ?side4 ?side5 ?side6 A18.out).mono ?_);(case side1 => repeat (first|exact (Kd.R_reads' HO415.out).2.2|(with_reducible refine Kd.C_alloc ?_ _)|(with_reducible refine Kd.C_drewN ?_ _)|(with_reducible refine Kd.C_drew ?_)));(case side2 => exact (Kd.R_reads' HO415.out).2.1);(case side3 => repeat (first|exact (Kd.R_reads' HO418.out).2.2|(with_reducible refine Kd.C_alloc ?_ _)|(with_reducible refine Kd.C_drewN ?_ _)|(with_reducible refine Kd.C_drew ?_)));(case side4 => exact (Kd.R_reads' HO418.out).2.1);(case side5 => repeat (first|exact (Kd.R_reads' HO426.out).2.2|(with_reducible refine Kd.C_alloc ?_ _)|(with_reducible refine Kd.C_drewN ?_ _)|(with_reducible refine Kd.C_drew ?_)));(case side6 => exact (Kd.R_reads' HO426.out).2.1);rintro e w25 ⟨rfl,hb⟩;replace HO415:=Aside0.mk (Kd.R_below (by (with_reducible repeat (first|apply Kd.R_alloc|apply Kd.R_drewN|apply Kd.R_drew));exact HO415.out) hb);replace HO418:=Aside0.mk (Kd.R_below (by (with_reducible repeat (first|apply Kd.R_alloc|apply Kd.R_drewN|apply Kd.R_drew));exact HO418.out) hb);replace HO426:=Aside0.mk (Kd.R_below (by (with_reducible repeat (first|apply Kd.R_alloc|apply Kd.R_drewN|apply Kd.R_drew));exact HO426.out) hb);replace BK430:=Aside0.mk (blk_below (g:=gb430) (o:=.cells #[.int .i64 t412,.slice Ao10 t413.length co10,.slice Ao11 t416.length co11,.int .i64 t419,.int .i64 t420,.int .i64 t421,.int .i64 t422,.int .i64 t423,.slice Ao12 t424.length co12,.int .i64 t427] 28 (0,0)) (by (with_reducible repeat (first|refine blk_drewN ?_ _|refine blk_drew ?_|refine blk_alloc ?_ _));exact BK430.out) hb);replace HB:=Aside0.mk (below_step (by repeat (first|(with_reducible first|exact HB.out|apply below_alloc|apply pw_below_drewN|apply below_drew1|refine below_set ?_ GE430.out)|exact HB.out)) hb);(try clear hb);(try clear hb2);(try clear hk);(try clear hi);have hcz26_0 : w25.cell? ⟨gb430,0,none⟩ = some (.int .i64 t412):=(blk_cell BK430.out 0).trans rfl;have hcz26_1 : w25.cell? ⟨gb430,1,none⟩ = some (.slice Ao10 t413.length co10):=(blk_cell BK430.out 1).trans rfl;have hcz26_2 : w25.cell? ⟨gb430,2,none⟩ = some (.slice Ao11 t416.length co11):=(blk_cell BK430.out 2).trans rfl;have hcz26_3 : w25.cell? ⟨gb430,3,none⟩ = some (.int .i64 t419):=(blk_cell BK430.out 3).trans rfl;have hcz26_4 : w25.cell? ⟨gb430,4,none⟩ = some (.int .i64 t420):=(blk_cell BK430.out 4).trans rfl;have hcz26_5 : w25.cell? ⟨gb430,5,none⟩ = some (.int .i64 t421):=(blk_cell BK430.out 5).trans rfl;have hcz26_6 : w25.cell? ⟨gb430,6,none⟩ = some (.int .i64 t422):=(blk_cell BK430.out 6).trans rfl;have hcz26_7 : w25.cell? ⟨gb430,7,none⟩ = some (.int .i64 t423):=(blk_cell BK430.out 7).trans rfl;have hcz26_8 : w25.cell? ⟨gb430,8,none⟩ = some (.slice Ao12 t424.length co12):=(blk_cell BK430.out 8).trans rfl;have hcz26_9 : w25.cell? ⟨gb430,9,none⟩ = some (.int .i64 t427):=(blk_cell BK430.out 9).trans rfl;have hfz26_0:=blk_frozen BK430.out 0;have hfz26_1:=blk_frozen BK430.out 1;have hfz26_2:=blk_frozen BK430.out 2;have hfz26_3:=blk_frozen BK430.out 3;have hfz26_4:=blk_frozen BK430.out 4;have hfz26_5:=blk_frozen BK430.out 5;have hfz26_6:=blk_frozen BK430.out 6;have hfz26_7:=blk_frozen BK430.out 7;have hfz26_8:=blk_frozen BK430.out 8;have hfz26_9:=blk_frozen BK430.out 9)|(go_at_call 7;(with_reducible refine (impl_IsSite.calls t412 _ _ t413 _ _ t416 t419 t420 t421 t422 t423 _ _ t424 t427 t429 true _ ?side1 ?side2 ?side3 ?side4 ?side5 ?side6 A20.out).mono ?_);(case side1 => repeat (first|exact (Kd.R_reads' HO415.out).2.2|(with_reducible refine Kd.C_alloc ?_ _)|(with_reducible refine Kd.C_drewN ?_ _)|(with_reducible refine Kd.C_drew ?_)));(case side2 => exact (Kd.R_reads' HO415.out).2.1);(case side3 => repeat (first|exact (Kd.R_reads' HO418.out).2.2|(with_reducible refine Kd.C_alloc ?_ _)|(with_reducible refine Kd.C_drewN ?_ _)|(with_reducible refine Kd.C_drew ?_)));(case side4 => exact (Kd.R_reads' HO418.out).2.1);(case side5 => repeat (first|exact (Kd.R_reads' HO426.out).2.2|(with_reducible refine Kd.C_alloc ?_ _)|(with_reducible refine Kd.C_drewN ?_ _)|(with_reducible refine Kd.C_drew ?_)));(case side6 => exact (Kd.R_reads' HO426.out).2.1);rintro e w27 ⟨rfl,hb⟩;replace HO415:=Aside0.mk (Kd.R_below (by (with_reducible repeat (first|apply Kd.R_alloc|apply Kd.R_drewN|apply Kd.R_drew));exact HO415.out) hb);replace HO418:=Aside0.mk (Kd.R_below (by (with_reducible repeat (first|apply Kd.R_alloc|apply Kd.R_drewN|apply Kd.R_drew));exact HO418.out) hb);replace HO426:=Aside0.mk (Kd.R_below (by (with_reducible repeat (first|apply Kd.R_alloc|apply Kd.R_drewN|apply Kd.R_drew));exact HO426.out) hb);replace BK430:=Aside0.mk (blk_below (g:=gb430) (o:=.cells #[.int .i64 t412,.slice Ao10 t413.length co10,.slice Ao11 t416.length co11,.int .i64 t419,.int .i64 t420,.int .i64 t421,.int .i64 t422,.int .i64 t423,.slice Ao12 t424.length co12,.int .i64 t427] 28 (0,0)) (by (with_reducible repeat (first|refine blk_drewN ?_ _|refine blk_drew ?_|refine blk_alloc ?_ _));exact BK430.out) hb);replace HB:=Aside0.mk (below_step (by repeat (first|(with_reducible first|exact HB.out|apply below_alloc|apply pw_below_drewN|apply below_drew1|refine below_set ?_ GE430.out)|exact HB.out)) hb);(try clear hb);(try clear hb2);(try clear hk);(try clear hi)))
        go_meet
        case rel => exact ⟨_,((t431 != (-1))),(by first|rfl|(simp;done)|(simp [*];done)),H',⟨by first|omega|exact Nat.le_refl _⟩,⟨by (with_reducible repeat (first|apply Kd.R_alloc|apply Kd.R_drewN|apply Kd.R_drew));exact HO415.out⟩,⟨by (with_reducible repeat (first|apply Kd.R_alloc|apply Kd.R_drewN|apply Kd.R_drew));exact HO418.out⟩,⟨by (with_reducible repeat (first|apply Kd.R_alloc|apply Kd.R_drewN|apply Kd.R_drew));exact HO426.out⟩,⟨by (with_reducible repeat (first|refine blk_drewN ?_ _|refine blk_drew ?_|refine blk_alloc ?_ _));exact BK430.out⟩,⟨by repeat (first|(with_reducible first|exact HB.out|apply below_alloc|apply pw_below_drewN|apply below_drew1|refine below_set ?_ GE430.out)|exact HB.out)⟩⟩
       ·replace c21:=Bool.eq_false_iff.mpr c21
        subst c21
        have H1 : (laws_FnSkies.j0 k t431 false t412 t413 t416 t419 t420 t421 t422 t423 t424 t427) = some r:=by rw [if_neg (show ¬ (false = true) by decide)] at H;exact H
        clear H
        have H:=H1
        clear H1
        have H':=Aside0.mk H
        clear H
        have hcz28_0 : w13.cell? ⟨gb430,0,none⟩ = some (.int .i64 t412):=(blk_cell BK430.out 0).trans rfl
        have hcz28_1 : w13.cell? ⟨gb430,1,none⟩ = some (.slice Ao10 t413.length co10):=(blk_cell BK430.out 1).trans rfl
        have hcz28_2 : w13.cell? ⟨gb430,2,none⟩ = some (.slice Ao11 t416.length co11):=(blk_cell BK430.out 2).trans rfl
        have hcz28_3 : w13.cell? ⟨gb430,3,none⟩ = some (.int .i64 t419):=(blk_cell BK430.out 3).trans rfl
        have hcz28_4 : w13.cell? ⟨gb430,4,none⟩ = some (.int .i64 t420):=(blk_cell BK430.out 4).trans rfl
        have hcz28_5 : w13.cell? ⟨gb430,5,none⟩ = some (.int .i64 t421):=(blk_cell BK430.out 5).trans rfl
        have hcz28_6 : w13.cell? ⟨gb430,6,none⟩ = some (.int .i64 t422):=(blk_cell BK430.out 6).trans rfl
        have hcz28_7 : w13.cell? ⟨gb430,7,none⟩ = some (.int .i64 t423):=(blk_cell BK430.out 7).trans rfl
        have hcz28_8 : w13.cell? ⟨gb430,8,none⟩ = some (.slice Ao12 t424.length co12):=(blk_cell BK430.out 8).trans rfl
        have hcz28_9 : w13.cell? ⟨gb430,9,none⟩ = some (.int .i64 t427):=(blk_cell BK430.out 9).trans rfl
        have hfz28_0:=blk_frozen BK430.out 0
        have hfz28_1:=blk_frozen BK430.out 1
        have hfz28_2:=blk_frozen BK430.out 2
        have hfz28_3:=blk_frozen BK430.out 3
        have hfz28_4:=blk_frozen BK430.out 4
        have hfz28_5:=blk_frozen BK430.out 5
        have hfz28_6:=blk_frozen BK430.out 6
        have hfz28_7:=blk_frozen BK430.out 7
        have hfz28_8:=blk_frozen BK430.out 8
        have hfz28_9:=blk_frozen BK430.out 9
        go_wp2_with (first|((with_reducible refine gate_callee (f:=6) rfl ?_);refine goesL_ (some 25) rfl rfl Try.func6 (by kernel_rfl) rfl #[.agg #[.int .i64 t412,.slice Ao10 t413.length co10,.slice Ao11 t416.length co11,.int .i64 t419,.int .i64 t420,.int .i64 t421,.int .i64 t422,.int .i64 t423,.slice Ao12 t424.length co12,.int .i64 t427],.int .i64 t429,.int .i64 t428] rfl (by (try simp only [List.map_toArray,List.map_cons,List.map_nil]);first|done|rfl|(simp only [List.length_drop,List.length_take];rfl)) ?_;(with_reducible refine (impl_LimitOf.calls k t412 _ _ t413 _ _ t416 t419 t420 t421 t422 t423 _ _ t424 t427 t429 t428 t432 _ ?side1 ?side2 ?side3 ?side4 ?side5 ?side6 A14.out).mono ?_);(case side1 => repeat (first|exact (Kd.R_reads' HO415.out).2.2|(with_reducible refine Kd.C_alloc ?_ _)|(with_reducible refine Kd.C_drewN ?_ _)|(with_reducible refine Kd.C_drew ?_)));(case side2 => exact (Kd.R_reads' HO415.out).2.1);(case side3 => repeat (first|exact (Kd.R_reads' HO418.out).2.2|(with_reducible refine Kd.C_alloc ?_ _)|(with_reducible refine Kd.C_drewN ?_ _)|(with_reducible refine Kd.C_drew ?_)));(case side4 => exact (Kd.R_reads' HO418.out).2.1);(case side5 => repeat (first|exact (Kd.R_reads' HO426.out).2.2|(with_reducible refine Kd.C_alloc ?_ _)|(with_reducible refine Kd.C_drewN ?_ _)|(with_reducible refine Kd.C_drew ?_)));(case side6 => exact (Kd.R_reads' HO426.out).2.1);rintro e w29 ⟨rfl,hb⟩;refine ⟨_,rfl,?_⟩;replace HO415:=Aside0.mk (Kd.R_below (by (with_reducible repeat (first|apply Kd.R_alloc|apply Kd.R_drewN|apply Kd.R_drew));exact HO415.out) hb);replace HO418:=Aside0.mk (Kd.R_below (by (with_reducible repeat (first|apply Kd.R_alloc|apply Kd.R_drewN|apply Kd.R_drew));exact HO418.out) hb);replace HO426:=Aside0.mk (Kd.R_below (by (with_reducible repeat (first|apply Kd.R_alloc|apply Kd.R_drewN|apply Kd.R_drew));exact HO426.out) hb);replace BK430:=Aside0.mk (blk_below (g:=gb430) (o:=.cells #[.int .i64 t412,.slice Ao10 t413.length co10,.slice Ao11 t416.length co11,.int .i64 t419,.int .i64 t420,.int .i64 t421,.int .i64 t422,.int .i64 t423,.slice Ao12 t424.length co12,.int .i64 t427] 28 (0,0)) (by (with_reducible repeat (first|refine blk_drewN ?_ _|refine blk_drew ?_|refine blk_alloc ?_ _));exact BK430.out) hb);replace HB:=Aside0.mk (below_step (by repeat (first|(with_reducible first|exact HB.out|apply below_alloc|apply pw_below_drewN|apply below_drew1|refine below_set ?_ GE430.out)|exact HB.out)) hb);(try clear hb);(try clear hb2);(try clear hk);(try clear hi);have hcz30_0 : w29.cell? ⟨gb430,0,none⟩ = some (.int .i64 t412):=(blk_cell BK430.out 0).trans rfl;have hcz30_1 : w29.cell? ⟨gb430,1,none⟩ = some (.slice Ao10 t413.length co10):=(blk_cell BK430.out 1).trans rfl;have hcz30_2 : w29.cell? ⟨gb430,2,none⟩ = some (.slice Ao11 t416.length co11):=(blk_cell BK430.out 2).trans rfl;have hcz30_3 : w29.cell? ⟨gb430,3,none⟩ = some (.int .i64 t419):=(blk_cell BK430.out 3).trans rfl;have hcz30_4 : w29.cell? ⟨gb430,4,none⟩ = some (.int .i64 t420):=(blk_cell BK430.out 4).trans rfl;have hcz30_5 : w29.cell? ⟨gb430,5,none⟩ = some (.int .i64 t421):=(blk_cell BK430.out 5).trans rfl;have hcz30_6 : w29.cell? ⟨gb430,6,none⟩ = some (.int .i64 t422):=(blk_cell BK430.out 6).trans rfl;have hcz30_7 : w29.cell? ⟨gb430,7,none⟩ = some (.int .i64 t423):=(blk_cell BK430.out 7).trans rfl;have hcz30_8 : w29.cell? ⟨gb430,8,none⟩ = some (.slice Ao12 t424.length co12):=(blk_cell BK430.out 8).trans rfl;have hcz30_9 : w29.cell? ⟨gb430,9,none⟩ = some (.int .i64 t427):=(blk_cell BK430.out 9).trans rfl;have hfz30_0:=blk_frozen BK430.out 0;have hfz30_1:=blk_frozen BK430.out 1;have hfz30_2:=blk_frozen BK430.out 2;have hfz30_3:=blk_frozen BK430.out 3;have hfz30_4:=blk_frozen BK430.out 4;have hfz30_5:=blk_frozen BK430.out 5;have hfz30_6:=blk_frozen BK430.out 6;have hfz30_7:=blk_frozen BK430.out 7;have hfz30_8:=blk_frozen BK430.out 8;have hfz30_9:=blk_frozen BK430.out 9)|(go_at_call 7;(with_reducible refine (impl_IsSite.calls t412 _ _ t413 _ _ t416 t419 t420 t421 t422 t423 _ _ t424 t427 t428 true _ ?side1 ?side2 ?side3 ?side4 ?side5 ?side6 A18.out).mono ?_);(case side1 => repeat (first|exact (Kd.R_reads' HO415.out).2.2|(with_reducible refine Kd.C_alloc ?_ _)|(with_reducible refine Kd.C_drewN ?_ _)|(with_reducible refine Kd.C_drew ?_)));(case side2 => exact (Kd.R_reads' HO415.out).2.1);(case side3 => repeat (first|exact (Kd.R_reads' HO418.out).2.2|(with_reducible refine Kd.C_alloc ?_ _)|(with_reducible refine Kd.C_drewN ?_ _)|(with_reducible refine Kd.C_drew ?_)));(case side4 => exact (Kd.R_reads' HO418.out).2.1);(case side5 => repeat (first|exact (Kd.R_reads' HO426.out).2.2|(with_reducible refine Kd.C_alloc ?_ _)|(with_reducible refine Kd.C_drewN ?_ _)|(with_reducible refine Kd.C_drew ?_)));(case side6 => exact (Kd.R_reads' HO426.out).2.1);rintro e w31 ⟨rfl,hb⟩;replace HO415:=Aside0.mk (Kd.R_below (by (with_reducible repeat (first|apply Kd.R_alloc|apply Kd.R_drewN|apply Kd.R_drew));exact HO415.out) hb);replace HO418:=Aside0.mk (Kd.R_below (by (with_reducible repeat (first|apply Kd.R_alloc|apply Kd.R_drewN|apply Kd.R_drew));exact HO418.out) hb);replace HO426:=Aside0.mk (Kd.R_below (by (with_reducible repeat (first|apply Kd.R_alloc|apply Kd.R_drewN|apply Kd.R_drew));exact HO426.out) hb);replace BK430:=Aside0.mk (blk_below (g:=gb430) (o:=.cells #[.int .i64 t412,.slice Ao10 t413.length co10,.slice Ao11 t416.length co11,.int .i64 t419,.int .i64 t420,.int .i64 t421,.int .i64 t422,.int .i64 t423,.slice Ao12 t424.length co12,.int .i64 t427] 28 (0,0)) (by (with_reducible repeat (first|refine blk_drewN ?_ _|refine blk_drew ?_|refine blk_alloc ?_ _));exact BK430.out) hb);replace HB:=Aside0.mk (below_step (by repeat (first|(with_reducible first|exact HB.out|apply below_alloc|apply pw_below_drewN|apply below_drew1|refine below_set ?_ GE430.out)|exact HB.out)) hb);(try clear hb);(try clear hb2);(try clear hk);(try clear hi);have hcz32_0 : w31.cell? ⟨gb430,0,none⟩ = some (.int .i64 t412):=(blk_cell BK430.out 0).trans rfl;have hcz32_1 : w31.cell? ⟨gb430,1,none⟩ = some (.slice Ao10 t413.length co10):=(blk_cell BK430.out 1).trans rfl;have hcz32_2 : w31.cell? ⟨gb430,2,none⟩ = some (.slice Ao11 t416.length co11):=(blk_cell BK430.out 2).trans rfl;have hcz32_3 : w31.cell? ⟨gb430,3,none⟩ = some (.int .i64 t419):=(blk_cell BK430.out 3).trans rfl;have hcz32_4 : w31.cell? ⟨gb430,4,none⟩ = some (.int .i64 t420):=(blk_cell BK430.out 4).trans rfl;have hcz32_5 : w31.cell? ⟨gb430,5,none⟩ = some (.int .i64 t421):=(blk_cell BK430.out 5).trans rfl;have hcz32_6 : w31.cell? ⟨gb430,6,none⟩ = some (.int .i64 t422):=(blk_cell BK430.out 6).trans rfl;have hcz32_7 : w31.cell? ⟨gb430,7,none⟩ = some (.int .i64 t423):=(blk_cell BK430.out 7).trans rfl;have hcz32_8 : w31.cell? ⟨gb430,8,none⟩ = some (.slice Ao12 t424.length co12):=(blk_cell BK430.out 8).trans rfl;have hcz32_9 : w31.cell? ⟨gb430,9,none⟩ = some (.int .i64 t427):=(blk_cell BK430.out 9).trans rfl;have hfz32_0:=blk_frozen BK430.out 0;have hfz32_1:=blk_frozen BK430.out 1;have hfz32_2:=blk_frozen BK430.out 2;have hfz32_3:=blk_frozen BK430.out 3;have hfz32_4:=blk_frozen BK430.out 4;have hfz32_5:=blk_frozen BK430.out 5;have hfz32_6:=blk_frozen BK430.out 6;have hfz32_7:=blk_frozen BK430.out 7;have hfz32_8:=blk_frozen BK430.out 8;have hfz32_9:=blk_frozen BK430.out 9)|(go_at_call 7;(with_reducible refine (impl_IsSite.calls t412 _ _ t413 _ _ t416 t419 t420 t421 t422 t423 _ _ t424 t427 t429 false _ ?side1 ?side2 ?side3 ?side4 ?side5 ?side6 A20.out).mono ?_);(case side1 => repeat (first|exact (Kd.R_reads' HO415.out).2.2|(with_reducible refine Kd.C_alloc ?_ _)|(with_reducible refine Kd.C_drewN ?_ _)|(with_reducible refine Kd.C_drew ?_)));(case side2 => exact (Kd.R_reads' HO415.out).2.1);(case side3 => repeat (first|exact (Kd.R_reads' HO418.out).2.2|(with_reducible refine Kd.C_alloc ?_ _)|(with_reducible refine Kd.C_drewN ?_ _)|(with_reducible refine Kd.C_drew ?_)));(case side4 => exact (Kd.R_reads' HO418.out).2.1);(case side5 => repeat (first|exact (Kd.R_reads' HO426.out).2.2|(with_reducible refine Kd.C_alloc ?_ _)|(with_reducible refine Kd.C_drewN ?_ _)|(with_reducible refine Kd.C_drew ?_)));(case side6 => exact (Kd.R_reads' HO426.out).2.1);rintro e w33 ⟨rfl,hb⟩;replace HO415:=Aside0.mk (Kd.R_below (by (with_reducible repeat (first|apply Kd.R_alloc|apply Kd.R_drewN|apply Kd.R_drew));exact HO415.out) hb);replace HO418:=Aside0.mk (Kd.R_below (by (with_reducible repeat (first|apply Kd.R_alloc|apply Kd.R_drewN|apply Kd.R_drew));exact HO418.out) hb);replace HO426:=Aside0.mk (Kd.R_below (by (with_reducible repeat (first|apply Kd.R_alloc|apply Kd.R_drewN|apply Kd.R_drew));exact HO426.out) hb);replace BK430:=Aside0.mk (blk_below (g:=gb430) (o:=.cells #[.int .i64 t412,.slice Ao10 t413.length co10,.slice Ao11 t416.length co11,.int .i64 t419,.int .i64 t420,.int .i64 t421,.int .i64 t422,.int .i64 t423,.slice Ao12 t424.length co12,.int .i64 t427] 28 (0,0)) (by (with_reducible repeat (first|refine blk_drewN ?_ _|refine blk_drew ?_|refine blk_alloc ?_ _));exact BK430.out) hb);replace HB:=Aside0.mk (below_step (by repeat (first|(with_reducible first|exact HB.out|apply below_alloc|apply pw_below_drewN|apply below_drew1|refine below_set ?_ GE430.out)|exact HB.out)) hb);(try clear hb);(try clear hb2);(try clear hk);(try clear hi)))
        go_meet
        case rel => exact ⟨_,(false),(by first|rfl|(simp;done)|(simp [*];done)),H',⟨by first|omega|exact Nat.le_refl _⟩,⟨by (with_reducible repeat (first|apply Kd.R_alloc|apply Kd.R_drewN|apply Kd.R_drew));exact HO415.out⟩,⟨by (with_reducible repeat (first|apply Kd.R_alloc|apply Kd.R_drewN|apply Kd.R_drew));exact HO418.out⟩,⟨by (with_reducible repeat (first|apply Kd.R_alloc|apply Kd.R_drewN|apply Kd.R_drew));exact HO426.out⟩,⟨by (with_reducible repeat (first|refine blk_drewN ?_ _|refine blk_drew ?_|refine blk_alloc ?_ _));exact BK430.out⟩,⟨by repeat (first|(with_reducible first|exact HB.out|apply below_alloc|apply pw_below_drewN|apply below_drew1|refine below_set ?_ GE430.out)|exact HB.out)⟩⟩
      ·replace c19:=Bool.eq_false_iff.mpr c19
       subst c19
       have H1 : (laws_FnSkies.j0 k t431 false t412 t413 t416 t419 t420 t421 t422 t423 t424 t427) = some r:=by rw [if_neg (show ¬ (false = true) by decide)] at H;exact H
       clear H
       have H:=H1
       clear H1
       have H':=Aside0.mk H
       clear H
       have hcz34_0 : w13.cell? ⟨gb430,0,none⟩ = some (.int .i64 t412):=(blk_cell BK430.out 0).trans rfl
       have hcz34_1 : w13.cell? ⟨gb430,1,none⟩ = some (.slice Ao10 t413.length co10):=(blk_cell BK430.out 1).trans rfl
       have hcz34_2 : w13.cell? ⟨gb430,2,none⟩ = some (.slice Ao11 t416.length co11):=(blk_cell BK430.out 2).trans rfl
       have hcz34_3 : w13.cell? ⟨gb430,3,none⟩ = some (.int .i64 t419):=(blk_cell BK430.out 3).trans rfl
       have hcz34_4 : w13.cell? ⟨gb430,4,none⟩ = some (.int .i64 t420):=(blk_cell BK430.out 4).trans rfl
       have hcz34_5 : w13.cell? ⟨gb430,5,none⟩ = some (.int .i64 t421):=(blk_cell BK430.out 5).trans rfl
       have hcz34_6 : w13.cell? ⟨gb430,6,none⟩ = some (.int .i64 t422):=(blk_cell BK430.out 6).trans rfl
       have hcz34_7 : w13.cell? ⟨gb430,7,none⟩ = some (.int .i64 t423):=(blk_cell BK430.out 7).trans rfl
       have hcz34_8 : w13.cell? ⟨gb430,8,none⟩ = some (.slice Ao12 t424.length co12):=(blk_cell BK430.out 8).trans rfl
       have hcz34_9 : w13.cell? ⟨gb430,9,none⟩ = some (.int .i64 t427):=(blk_cell BK430.out 9).trans rfl
       have hfz34_0:=blk_frozen BK430.out 0
       have hfz34_1:=blk_frozen BK430.out 1
       have hfz34_2:=blk_frozen BK430.out 2
       have hfz34_3:=blk_frozen BK430.out 3
       have hfz34_4:=blk_frozen BK430.out 4
       have hfz34_5:=blk_frozen BK430.out 5
       have hfz34_6:=blk_frozen BK430.out 6
       have hfz34_7:=blk_frozen BK430.out 7
       have hfz34_8:=blk_frozen BK430.out 8
       have hfz34_9:=blk_frozen BK430.out 9
       go_wp2_with (first|((with_reducible refine gate_callee (f:=6) rfl ?_);refine goesL_ (some 25) rfl rfl Try.func6 (by kernel_rfl) rfl #[.agg #[.int .i64 t412,.slice Ao10 t413.length co10,.slice Ao11 t416.length co11,.int .i64 t419,.int .i64 t420,.int .i64 t421,.int .i64 t422,.int .i64 t423,.slice Ao12 t424.length co12,.int .i64 t427],.int .i64 t429,.int .i64 t428] rfl (by (try simp only [List.map_toArray,List.map_cons,List.map_nil]);first|done|rfl|(simp only [List.length_drop,List.length_take];rfl)) ?_;(with_reducible refine (impl_LimitOf.calls k t412 _ _ t413 _ _ t416 t419 t420 t421 t422 t423 _ _ t424 t427 t429 t428 t432 _ ?side1 ?side2 ?side3 ?side4 ?side5 ?side6 A14.out).mono ?_);(case side1 => repeat (first|exact (Kd.R_reads' HO415.out).2.2|(with_reducible refine Kd.C_alloc ?_ _)|(with_reducible refine Kd.C_drewN ?_ _)|(with_reducible refine Kd.C_drew ?_)));(case side2 => exact (Kd.R_reads' HO415.out).2.1);(case side3 => repeat (first|exact (Kd.R_reads' HO418.out).2.2|(with_reducible refine Kd.C_alloc ?_ _)|(with_reducible refine Kd.C_drewN ?_ _)|(with_reducible refine Kd.C_drew ?_)));(case side4 => exact (Kd.R_reads' HO418.out).2.1);(case side5 => repeat (first|exact (Kd.R_reads' HO426.out).2.2|(with_reducible refine Kd.C_alloc ?_ _)|(with_reducible refine Kd.C_drewN ?_ _)|(with_reducible refine Kd.C_drew ?_)));(case side6 => exact (Kd.R_reads' HO426.out).2.1);rintro e w35 ⟨rfl,hb⟩;refine ⟨_,rfl,?_⟩;replace HO415:=Aside0.mk (Kd.R_below (by (with_reducible repeat (first|apply Kd.R_alloc|apply Kd.R_drewN|apply Kd.R_drew));exact HO415.out) hb);replace HO418:=Aside0.mk (Kd.R_below (by (with_reducible repeat (first|apply Kd.R_alloc|apply Kd.R_drewN|apply Kd.R_drew));exact HO418.out) hb);replace HO426:=Aside0.mk (Kd.R_below (by (with_reducible repeat (first|apply Kd.R_alloc|apply Kd.R_drewN|apply Kd.R_drew));exact HO426.out) hb);replace BK430:=Aside0.mk (blk_below (g:=gb430) (o:=.cells #[.int .i64 t412,.slice Ao10 t413.length co10,.slice Ao11 t416.length co11,.int .i64 t419,.int .i64 t420,.int .i64 t421,.int .i64 t422,.int .i64 t423,.slice Ao12 t424.length co12,.int .i64 t427] 28 (0,0)) (by (with_reducible repeat (first|refine blk_drewN ?_ _|refine blk_drew ?_|refine blk_alloc ?_ _));exact BK430.out) hb);replace HB:=Aside0.mk (below_step (by repeat (first|(with_reducible first|exact HB.out|apply below_alloc|apply pw_below_drewN|apply below_drew1|refine below_set ?_ GE430.out)|exact HB.out)) hb);(try clear hb);(try clear hb2);(try clear hk);(try clear hi);have hcz36_0 : w35.cell? ⟨gb430,0,none⟩ = some (.int .i64 t412):=(blk_cell BK430.out 0).trans rfl;have hcz36_1 : w35.cell? ⟨gb430,1,none⟩ = some (.slice Ao10 t413.length co10):=(blk_cell BK430.out 1).trans rfl;have hcz36_2 : w35.cell? ⟨gb430,2,none⟩ = some (.slice Ao11 t416.length co11):=(blk_cell BK430.out 2).trans rfl;have hcz36_3 : w35.cell? ⟨gb430,3,none⟩ = some (.int .i64 t419):=(blk_cell BK430.out 3).trans rfl;have hcz36_4 : w35.cell? ⟨gb430,4,none⟩ = some (.int .i64 t420):=(blk_cell BK430.out 4).trans rfl;have hcz36_5 : w35.cell? ⟨gb430,5,none⟩ = some (.int .i64 t421):=(blk_cell BK430.out 5).trans rfl;have hcz36_6 : w35.cell? ⟨gb430,6,none⟩ = some (.int .i64 t422):=(blk_cell BK430.out 6).trans rfl;have hcz36_7 : w35.cell? ⟨gb430,7,none⟩ = some (.int .i64 t423):=(blk_cell BK430.out 7).trans rfl;have hcz36_8 : w35.cell? ⟨gb430,8,none⟩ = some (.slice Ao12 t424.length co12):=(blk_cell BK430.out 8).trans rfl;have hcz36_9 : w35.cell? ⟨gb430,9,none⟩ = some (.int .i64 t427):=(blk_cell BK430.out 9).trans rfl;have hfz36_0:=blk_frozen BK430.out 0;have hfz36_1:=blk_frozen BK430.out 1;have hfz36_2:=blk_frozen BK430.out 2;have hfz36_3:=blk_frozen BK430.out 3;have hfz36_4:=blk_frozen BK430.out 4;have hfz36_5:=blk_frozen BK430.out 5;have hfz36_6:=blk_frozen BK430.out 6;have hfz36_7:=blk_frozen BK430.out 7;have hfz36_8:=blk_frozen BK430.out 8;have hfz36_9:=blk_frozen BK430.out 9)|(go_at_call 7;(with_reducible refine (impl_IsSite.calls t412 _ _ t413 _ _ t416 t419 t420 t421 t422 t423 _ _ t424 t427 t428 false _ ?side1 ?side2 ?side3 ?side4 ?side5 ?side6 A18.out).mono ?_);(case side1 => repeat (first|exact (Kd.R_reads' HO415.out).2.2|(with_reducible refine Kd.C_alloc ?_ _)|(with_reducible refine Kd.C_drewN ?_ _)|(with_reducible refine Kd.C_drew ?_)));(case side2 => exact (Kd.R_reads' HO415.out).2.1);(case side3 => repeat (first|exact (Kd.R_reads' HO418.out).2.2|(with_reducible refine Kd.C_alloc ?_ _)|(with_reducible refine Kd.C_drewN ?_ _)|(with_reducible refine Kd.C_drew ?_)));(case side4 => exact (Kd.R_reads' HO418.out).2.1);(case side5 => repeat (first|exact (Kd.R_reads' HO426.out).2.2|(with_reducible refine Kd.C_alloc ?_ _)|(with_reducible refine Kd.C_drewN ?_ _)|(with_reducible refine Kd.C_drew ?_)));(case side6 => exact (Kd.R_reads' HO426.out).2.1);rintro e w37 ⟨rfl,hb⟩;replace HO415:=Aside0.mk (Kd.R_below (by (with_reducible repeat (first|apply Kd.R_alloc|apply Kd.R_drewN|apply Kd.R_drew));exact HO415.out) hb);replace HO418:=Aside0.mk (Kd.R_below (by (with_reducible repeat (first|apply Kd.R_alloc|apply Kd.R_drewN|apply Kd.R_drew));exact HO418.out) hb);replace HO426:=Aside0.mk (Kd.R_below (by (with_reducible repeat (first|apply Kd.R_alloc|apply Kd.R_drewN|apply Kd.R_drew));exact HO426.out) hb);replace BK430:=Aside0.mk (blk_below (g:=gb430) (o:=.cells #[.int .i64 t412,.slice Ao10 t413.length co10,.slice Ao11 t416.length co11,.int .i64 t419,.int .i64 t420,.int .i64 t421,.int .i64 t422,.int .i64 t423,.slice Ao12 t424.length co12,.int .i64 t427] 28 (0,0)) (by (with_reducible repeat (first|refine blk_drewN ?_ _|refine blk_drew ?_|refine blk_alloc ?_ _));exact BK430.out) hb);replace HB:=Aside0.mk (below_step (by repeat (first|(with_reducible first|exact HB.out|apply below_alloc|apply pw_below_drewN|apply below_drew1|refine below_set ?_ GE430.out)|exact HB.out)) hb);(try clear hb);(try clear hb2);(try clear hk);(try clear hi)))
       go_meet
       case rel => exact ⟨_,(false),(by first|rfl|(simp;done)|(simp [*];done)),H',⟨by first|omega|exact Nat.le_refl _⟩,⟨by (with_reducible repeat (first|apply Kd.R_alloc|apply Kd.R_drewN|apply Kd.R_drew));exact HO415.out⟩,⟨by (with_reducible repeat (first|apply Kd.R_alloc|apply Kd.R_drewN|apply Kd.R_drew));exact HO418.out⟩,⟨by (with_reducible repeat (first|apply Kd.R_alloc|apply Kd.R_drewN|apply Kd.R_drew));exact HO426.out⟩,⟨by (with_reducible repeat (first|refine blk_drewN ?_ _|refine blk_drew ?_|refine blk_alloc ?_ _));exact BK430.out⟩,⟨by repeat (first|(with_reducible first|exact HB.out|apply below_alloc|apply pw_below_drewN|apply below_drew1|refine below_set ?_ GE430.out)|exact HB.out)⟩⟩
     ·rw [if_neg c17] at H
      have c17b0 : (t431 == (-1)) = false:=beq_eq_false_iff_ne.mpr c17
      have c17b1 : (t431 != (-1)) = true:=bne_iff_ne.mpr c17
      have H':=Aside0.mk H
      clear H
      have hcz38_0 : w13.cell? ⟨gb430,0,none⟩ = some (.int .i64 t412):=(blk_cell BK430.out 0).trans rfl
      have hcz38_1 : w13.cell? ⟨gb430,1,none⟩ = some (.slice Ao10 t413.length co10):=(blk_cell BK430.out 1).trans rfl
      have hcz38_2 : w13.cell? ⟨gb430,2,none⟩ = some (.slice Ao11 t416.length co11):=(blk_cell BK430.out 2).trans rfl
      have hcz38_3 : w13.cell? ⟨gb430,3,none⟩ = some (.int .i64 t419):=(blk_cell BK430.out 3).trans rfl
      have hcz38_4 : w13.cell? ⟨gb430,4,none⟩ = some (.int .i64 t420):=(blk_cell BK430.out 4).trans rfl
      have hcz38_5 : w13.cell? ⟨gb430,5,none⟩ = some (.int .i64 t421):=(blk_cell BK430.out 5).trans rfl
      have hcz38_6 : w13.cell? ⟨gb430,6,none⟩ = some (.int .i64 t422):=(blk_cell BK430.out 6).trans rfl
      have hcz38_7 : w13.cell? ⟨gb430,7,none⟩ = some (.int .i64 t423):=(blk_cell BK430.out 7).trans rfl
      have hcz38_8 : w13.cell? ⟨gb430,8,none⟩ = some (.slice Ao12 t424.length co12):=(blk_cell BK430.out 8).trans rfl
      have hcz38_9 : w13.cell? ⟨gb430,9,none⟩ = some (.int .i64 t427):=(blk_cell BK430.out 9).trans rfl
      have hfz38_0:=blk_frozen BK430.out 0
      have hfz38_1:=blk_frozen BK430.out 1
      have hfz38_2:=blk_frozen BK430.out 2
      have hfz38_3:=blk_frozen BK430.out 3
      have hfz38_4:=blk_frozen BK430.out 4
      have hfz38_5:=blk_frozen BK430.out 5
      have hfz38_6:=blk_frozen BK430.out 6
      have hfz38_7:=blk_frozen BK430.out 7
      have hfz38_8:=blk_frozen BK430.out 8
      have hfz38_9:=blk_frozen BK430.out 9
      go_wp2_with (first|((with_reducible refine gate_callee (f:=6) rfl ?_);refine goesL_ (some 25) rfl rfl Try.func6 (by kernel_rfl) rfl #[.agg #[.int .i64 t412,.slice Ao10 t413.length co10,.slice Ao11 t416.length co11,.int .i64 t419,.int .i64 t420,.int .i64 t421,.int .i64 t422,.int .i64 t423,.slice Ao12 t424.length co12,.int .i64 t427],.int .i64 t429,.int .i64 t428] rfl (by (try simp only [List.map_toArray,List.map_cons,List.map_nil]);first|done|rfl|(simp only [List.length_drop,List.length_take];rfl)) ?_;(with_reducible refine (impl_LimitOf.calls k t412 _ _ t413 _ _ t416 t419 t420 t421 t422 t423 _ _ t424 t427 t429 t428 t432 _ ?side1 ?side2 ?side3 ?side4 ?side5 ?side6 A14.out).mono ?_);(case side1 => repeat (first|exact (Kd.R_reads' HO415.out).2.2|(with_reducible refine Kd.C_alloc ?_ _)|(with_reducible refine Kd.C_drewN ?_ _)|(with_reducible refine Kd.C_drew ?_)));(case side2 => exact (Kd.R_reads' HO415.out).2.1);(case side3 => repeat (first|exact (Kd.R_reads' HO418.out).2.2|(with_reducible refine Kd.C_alloc ?_ _)|(with_reducible refine Kd.C_drewN ?_ _)|(with_reducible refine Kd.C_drew ?_)));(case side4 => exact (Kd.R_reads' HO418.out).2.1);(case side5 => repeat (first|exact (Kd.R_reads' HO426.out).2.2|(with_reducible refine Kd.C_alloc ?_ _)|(with_reducible refine Kd.C_drewN ?_ _)|(with_reducible refine Kd.C_drew ?_)));(case side6 => exact (Kd.R_reads' HO426.out).2.1);rintro e w39 ⟨rfl,hb⟩;refine ⟨_,rfl,?_⟩;replace HO415:=Aside0.mk (Kd.R_below (by (with_reducible repeat (first|apply Kd.R_alloc|apply Kd.R_drewN|apply Kd.R_drew));exact HO415.out) hb);replace HO418:=Aside0.mk (Kd.R_below (by (with_reducible repeat (first|apply Kd.R_alloc|apply Kd.R_drewN|apply Kd.R_drew));exact HO418.out) hb);replace HO426:=Aside0.mk (Kd.R_below (by (with_reducible repeat (first|apply Kd.R_alloc|apply Kd.R_drewN|apply Kd.R_drew));exact HO426.out) hb);replace BK430:=Aside0.mk (blk_below (g:=gb430) (o:=.cells #[.int .i64 t412,.slice Ao10 t413.length co10,.slice Ao11 t416.length co11,.int .i64 t419,.int .i64 t420,.int .i64 t421,.int .i64 t422,.int .i64 t423,.slice Ao12 t424.length co12,.int .i64 t427] 28 (0,0)) (by (with_reducible repeat (first|refine blk_drewN ?_ _|refine blk_drew ?_|refine blk_alloc ?_ _));exact BK430.out) hb);replace HB:=Aside0.mk (below_step (by repeat (first|(with_reducible first|exact HB.out|apply below_alloc|apply pw_below_drewN|apply below_drew1|refine below_set ?_ GE430.out)|exact HB.out)) hb);(try clear hb);(try clear hb2);(try clear hk);(try clear hi)))
      go_meet
      case rel => exact ⟨_,(true),(by first|rfl|(simp;done)|(simp [*];done)),H',⟨by first|omega|exact Nat.le_refl _⟩,⟨by (with_reducible repeat (first|apply Kd.R_alloc|apply Kd.R_drewN|apply Kd.R_drew));exact HO415.out⟩,⟨by (with_reducible repeat (first|apply Kd.R_alloc|apply Kd.R_drewN|apply Kd.R_drew));exact HO418.out⟩,⟨by (with_reducible repeat (first|apply Kd.R_alloc|apply Kd.R_drewN|apply Kd.R_drew));exact HO426.out⟩,⟨by (with_reducible repeat (first|refine blk_drewN ?_ _|refine blk_drew ?_|refine blk_alloc ?_ _));exact BK430.out⟩,⟨by repeat (first|(with_reducible first|exact HB.out|apply below_alloc|apply pw_below_drewN|apply below_drew1|refine below_set ?_ GE430.out)|exact HB.out)⟩⟩
    ·rw [if_neg c16] at H
     have c16b0 : (t428 == t429) = false:=beq_eq_false_iff_ne.mpr c16
     have c16b1 : (t428 != t429) = true:=bne_iff_ne.mpr c16
     replace H:=Option.bind_eq_some_iff.mp H
     obtain ⟨t435,A400,H⟩:=H
     replace H : (if t435 = true then ((impl_IsSite.f t412 t413 t416 t419 t420 t421 t422 t423 t424 t427 t429).bind fun t436 => (if t436 = true then (laws_FnSkies.j0 k t431 (t431 != (-1)) t412 t413 t416 t419 t420 t421 t422 t423 t424 t427) else (laws_FnSkies.j0 k t431 false t412 t413 t416 t419 t420 t421 t422 t423 t424 t427))) else (laws_FnSkies.j0 k t431 false t412 t413 t416 t419 t420 t421 t422 t423 t424 t427)) = some r:=H
     have A40:=Aside0.mk A400
     clear A400
     by_cases c41 : t435 = true
     ·subst c41
      have H1 : ((impl_IsSite.f t412 t413 t416 t419 t420 t421 t422 t423 t424 t427 t429).bind fun t436 => (if t436 = true then (laws_FnSkies.j0 k t431 (t431 != (-1)) t412 t413 t416 t419 t420 t421 t422 t423 t424 t427) else (laws_FnSkies.j0 k t431 false t412 t413 t416 t419 t420 t421 t422 t423 t424 t427))) = some r:=by rw [if_pos rfl] at H;exact H
      clear H
      have H:=H1
      clear H1
      replace H:=Option.bind_eq_some_iff.mp H
      obtain ⟨t436,A420,H⟩:=H
      replace H : (if t436 = true then (laws_FnSkies.j0 k t431 (t431 != (-1)) t412 t413 t416 t419 t420 t421 t422 t423 t424 t427) else (laws_FnSkies.j0 k t431 false t412 t413 t416 t419 t420 t421 t422 t423 t424 t427)) = some r:=H
      have A42:=Aside0.mk A420
      clear A420
      by_cases c43 : t436 = true
      ·subst c43
       have H1 : (laws_FnSkies.j0 k t431 (t431 != (-1)) t412 t413 t416 t419 t420 t421 t422 t423 t424 t427) = some r:=by rw [if_pos rfl] at H;exact H
       clear H
       have H:=H1
       clear H1
       have H':=Aside0.mk H
       clear H
       have hcz44_0 : w13.cell? ⟨gb430,0,none⟩ = some (.int .i64 t412):=(blk_cell BK430.out 0).trans rfl
       have hcz44_1 : w13.cell? ⟨gb430,1,none⟩ = some (.slice Ao10 t413.length co10):=(blk_cell BK430.out 1).trans rfl
       have hcz44_2 : w13.cell? ⟨gb430,2,none⟩ = some (.slice Ao11 t416.length co11):=(blk_cell BK430.out 2).trans rfl
       have hcz44_3 : w13.cell? ⟨gb430,3,none⟩ = some (.int .i64 t419):=(blk_cell BK430.out 3).trans rfl
       have hcz44_4 : w13.cell? ⟨gb430,4,none⟩ = some (.int .i64 t420):=(blk_cell BK430.out 4).trans rfl
       have hcz44_5 : w13.cell? ⟨gb430,5,none⟩ = some (.int .i64 t421):=(blk_cell BK430.out 5).trans rfl
       have hcz44_6 : w13.cell? ⟨gb430,6,none⟩ = some (.int .i64 t422):=(blk_cell BK430.out 6).trans rfl
       have hcz44_7 : w13.cell? ⟨gb430,7,none⟩ = some (.int .i64 t423):=(blk_cell BK430.out 7).trans rfl
       have hcz44_8 : w13.cell? ⟨gb430,8,none⟩ = some (.slice Ao12 t424.length co12):=(blk_cell BK430.out 8).trans rfl
       have hcz44_9 : w13.cell? ⟨gb430,9,none⟩ = some (.int .i64 t427):=(blk_cell BK430.out 9).trans rfl
       have hfz44_0:=blk_frozen BK430.out 0
       have hfz44_1:=blk_frozen BK430.out 1
       have hfz44_2:=blk_frozen BK430.out 2
       have hfz44_3:=blk_frozen BK430.out 3
       have hfz44_4:=blk_frozen BK430.out 4
       have hfz44_5:=blk_frozen BK430.out 5
       have hfz44_6:=blk_frozen BK430.out 6
       have hfz44_7:=blk_frozen BK430.out 7
       have hfz44_8:=blk_frozen BK430.out 8
       have hfz44_9:=blk_frozen BK430.out 9
       go_wp2_with (first|((with_reducible refine gate_callee (f:=6) rfl ?_);refine goesL_ (some 25) rfl rfl Try.func6 (by kernel_rfl) rfl #[.agg #[.int .i64 t412,.slice Ao10 t413.length co10,.slice Ao11 t416.length co11,.int .i64 t419,.int .i64 t420,.int .i64 t421,.int .i64 t422,.int .i64 t423,.slice Ao12 t424.length co12,.int .i64 t427],.int .i64 t429,.int .i64 t428] rfl (by (try simp only [List.map_toArray,List.map_cons,List.map_nil]);first|done|rfl|(simp only [List.length_drop,List.length_take];rfl)) ?_;(with_reducible refine (impl_LimitOf.calls k t412 _ _ t413 _ _ t416 t419 t420 t421 t422 t423 _ _ t424 t427 t429 t428 t432 _ ?side1 ?side2 ?side3 ?side4 ?side5 ?side6 A14.out).mono ?_);(case side1 => repeat (first|exact (Kd.R_reads' HO415.out).2.2|(with_reducible refine Kd.C_alloc ?_ _)|(with_reducible refine Kd.C_drewN ?_ _)|(with_reducible refine Kd.C_drew ?_)));(case side2 => exact (Kd.R_reads' HO415.out).2.1);(case side3 => repeat (first|exact (Kd.R_reads' HO418.out).2.2|(with_reducible refine Kd.C_alloc ?_ _)|(with_reducible refine Kd.C_drewN ?_ _)|(with_reducible refine Kd.C_drew ?_)));(case side4 => exact (Kd.R_reads' HO418.out).2.1);(case side5 => repeat (first|exact (Kd.R_reads' HO426.out).2.2|(with_reducible refine Kd.C_alloc ?_ _)|(with_reducible refine Kd.C_drewN ?_ _)|(with_reducible refine Kd.C_drew ?_)));(case side6 => exact (Kd.R_reads' HO426.out).2.1);rintro e w45 ⟨rfl,hb⟩;refine ⟨_,rfl,?_⟩;replace HO415:=Aside0.mk (Kd.R_below (by (with_reducible repeat (first|apply Kd.R_alloc|apply Kd.R_drewN|apply Kd.R_drew));exact HO415.out) hb);replace HO418:=Aside0.mk (Kd.R_below (by (with_reducible repeat (first|apply Kd.R_alloc|apply Kd.R_drewN|apply Kd.R_drew));exact HO418.out) hb);replace HO426:=Aside0.mk (Kd.R_below (by (with_reducible repeat (first|apply Kd.R_alloc|apply Kd.R_drewN|apply Kd.R_drew));exact HO426.out) hb);replace BK430:=Aside0.mk (blk_below (g:=gb430) (o:=.cells #[.int .i64 t412,.slice Ao10 t413.length co10,.slice Ao11 t416.length co11,.int .i64 t419,.int .i64 t420,.int .i64 t421,.int .i64 t422,.int .i64 t423,.slice Ao12 t424.length co12,.int .i64 t427] 28 (0,0)) (by (with_reducible repeat (first|refine blk_drewN ?_ _|refine blk_drew ?_|refine blk_alloc ?_ _));exact BK430.out) hb);replace HB:=Aside0.mk (below_step (by repeat (first|(with_reducible first|exact HB.out|apply below_alloc|apply pw_below_drewN|apply below_drew1|refine below_set ?_ GE430.out)|exact HB.out)) hb);(try clear hb);(try clear hb2);(try clear hk);(try clear hi);have hcz46_0 : w45.cell? ⟨gb430,0,none⟩ = some (.int .i64 t412):=(blk_cell BK430.out 0).trans rfl;have hcz46_1 : w45.cell? ⟨gb430,1,none⟩ = some (.slice Ao10 t413.length co10):=(blk_cell BK430.out 1).trans rfl;have hcz46_2 : w45.cell? ⟨gb430,2,none⟩ = some (.slice Ao11 t416.length co11):=(blk_cell BK430.out 2).trans rfl;have hcz46_3 : w45.cell? ⟨gb430,3,none⟩ = some (.int .i64 t419):=(blk_cell BK430.out 3).trans rfl;have hcz46_4 : w45.cell? ⟨gb430,4,none⟩ = some (.int .i64 t420):=(blk_cell BK430.out 4).trans rfl;have hcz46_5 : w45.cell? ⟨gb430,5,none⟩ = some (.int .i64 t421):=(blk_cell BK430.out 5).trans rfl;have hcz46_6 : w45.cell? ⟨gb430,6,none⟩ = some (.int .i64 t422):=(blk_cell BK430.out 6).trans rfl;have hcz46_7 : w45.cell? ⟨gb430,7,none⟩ = some (.int .i64 t423):=(blk_cell BK430.out 7).trans rfl;have hcz46_8 : w45.cell? ⟨gb430,8,none⟩ = some (.slice Ao12 t424.length co12):=(blk_cell BK430.out 8).trans rfl;have hcz46_9 : w45.cell? ⟨gb430,9,none⟩ = some (.int .i64 t427):=(blk_cell BK430.out 9).trans rfl;have hfz46_0:=blk_frozen BK430.out 0;have hfz46_1:=blk_frozen BK430.out 1;have hfz46_2:=blk_frozen BK430.out 2;have hfz46_3:=blk_frozen BK430.out 3;have hfz46_4:=blk_frozen BK430.out 4;have hfz46_5:=blk_frozen BK430.out 5;have hfz46_6:=blk_frozen BK430.out 6;have hfz46_7:=blk_frozen BK430.out 7;have hfz46_8:=blk_frozen BK430.out 8;have hfz46_9:=blk_frozen BK430.out 9)|(go_at_call 7;(with_reducible refine (impl_IsSite.calls t412 _ _ t413 _ _ t416 t419 t420 t421 t422 t423 _ _ t424 t427 t428 true _ ?side1 ?side2 ?side3 ?side4 ?side5 ?side6 A40.out).mono ?_);(case side1 => repeat (first|exact (Kd.R_reads' HO415.out).2.2|(with_reducible refine Kd.C_alloc ?_ _)|(with_reducible refine Kd.C_drewN ?_ _)|(with_reducible refine Kd.C_drew ?_)));(case side2 => exact (Kd.R_reads' HO415.out).2.1);(case side3 => repeat (first|exact (Kd.R_reads' HO418.out).2.2|(with_reducible refine Kd.C_alloc ?_ _)|(with_reducible refine Kd.C_drewN ?_ _)|(with_reducible refine Kd.C_drew ?_)));(case side4 => exact (Kd.R_reads' HO418.out).2.1);(case side5 => repeat (first|exact (Kd.R_reads' HO426.out).2.2|(with_reducible refine Kd.C_alloc ?_ _)|(with_reducible refine Kd.C_drewN ?_ _)|(with_reducible refine Kd.C_drew ?_)));(case side6 => exact (Kd.R_reads' HO426.out).2.1);rintro e w47 ⟨rfl,hb⟩;replace HO415:=Aside0.mk (Kd.R_below (by (with_reducible repeat (first|apply Kd.R_alloc|apply Kd.R_drewN|apply Kd.R_drew));exact HO415.out) hb);replace HO418:=Aside0.mk (Kd.R_below (by (with_reducible repeat (first|apply Kd.R_alloc|apply Kd.R_drewN|apply Kd.R_drew));exact HO418.out) hb);replace HO426:=Aside0.mk (Kd.R_below (by (with_reducible repeat (first|apply Kd.R_alloc|apply Kd.R_drewN|apply Kd.R_drew));exact HO426.out) hb);replace BK430:=Aside0.mk (blk_below (g:=gb430) (o:=.cells #[.int .i64 t412,.slice Ao10 t413.length co10,.slice Ao11 t416.length co11,.int .i64 t419,.int .i64 t420,.int .i64 t421,.int .i64 t422,.int .i64 t423,.slice Ao12 t424.length co12,.int .i64 t427] 28 (0,0)) (by (with_reducible repeat (first|refine blk_drewN ?_ _|refine blk_drew ?_|refine blk_alloc ?_ _));exact BK430.out) hb);replace HB:=Aside0.mk (below_step (by repeat (first|(with_reducible first|exact HB.out|apply below_alloc|apply pw_below_drewN|apply below_drew1|refine below_set ?_ GE430.out)|exact HB.out)) hb);(try clear hb);(try clear hb2);(try clear hk);(try clear hi);have hcz48_0 : w47.cell? ⟨gb430,0,none⟩ = some (.int .i64 t412):=(blk_cell BK430.out 0).trans rfl;have hcz48_1 : w47.cell? ⟨gb430,1,none⟩ = some (.slice Ao10 t413.length co10):=(blk_cell BK430.out 1).trans rfl;have hcz48_2 : w47.cell? ⟨gb430,2,none⟩ = some (.slice Ao11 t416.length co11):=(blk_cell BK430.out 2).trans rfl;have hcz48_3 : w47.cell? ⟨gb430,3,none⟩ = some (.int .i64 t419):=(blk_cell BK430.out 3).trans rfl;have hcz48_4 : w47.cell? ⟨gb430,4,none⟩ = some (.int .i64 t420):=(blk_cell BK430.out 4).trans rfl;have hcz48_5 : w47.cell? ⟨gb430,5,none⟩ = some (.int .i64 t421):=(blk_cell BK430.out 5).trans rfl;have hcz48_6 : w47.cell? ⟨gb430,6,none⟩ = some (.int .i64 t422):=(blk_cell BK430.out 6).trans rfl;have hcz48_7 : w47.cell? ⟨gb430,7,none⟩ = some (.int .i64 t423):=(blk_cell BK430.out 7).trans rfl;have hcz48_8 : w47.cell? ⟨gb430,8,none⟩ = some (.slice Ao12 t424.length co12):=(blk_cell BK430.out 8).trans rfl;have hcz48_9 : w47.cell? ⟨gb430,9,none⟩ = some (.int .i64 t427):=(blk_cell BK430.out 9).trans rfl;have hfz48_0:=blk_frozen BK430.out 0;have hfz48_1:=blk_frozen BK430.out 1;have hfz48_2:=blk_frozen BK430.out 2;have hfz48_3:=blk_frozen BK430.out 3;have hfz48_4:=blk_frozen BK430.out 4;have hfz48_5:=blk_frozen BK430.out 5;have hfz48_6:=blk_frozen BK430.out 6;have hfz48_7:=blk_frozen BK430.out 7;have hfz48_8:=blk_frozen BK430.out 8;have hfz48_9:=blk_frozen BK430.out 9)|(go_at_call 7;(with_reducible refine (impl_IsSite.calls t412 _ _ t413 _ _ t416 t419 t420 t421 t422 t423 _ _ t424 t427 t429 true _ ?side1 ?side2 ?side3 ?side4 ?side5 ?side6 A42.out).mono ?_);(case side1 => repeat (first|exact (Kd.R_reads' HO415.out).2.2|(with_reducible refine Kd.C_alloc ?_ _)|(with_reducible refine Kd.C_drewN ?_ _)|(with_reducible refine Kd.C_drew ?_)));(case side2 => exact (Kd.R_reads' HO415.out).2.1);(case side3 => repeat (first|exact (Kd.R_reads' HO418.out).2.2|(with_reducible refine Kd.C_alloc ?_ _)|(with_reducible refine Kd.C_drewN ?_ _)|(with_reducible refine Kd.C_drew ?_)));(case side4 => exact (Kd.R_reads' HO418.out).2.1);(case side5 => repeat (first|exact (Kd.R_reads' HO426.out).2.2|(with_reducible refine Kd.C_alloc ?_ _)|(with_reducible refine Kd.C_drewN ?_ _)|(with_reducible refine Kd.C_drew ?_)));(case side6 => exact (Kd.R_reads' HO426.out).2.1);rintro e w49 ⟨rfl,hb⟩;replace HO415:=Aside0.mk (Kd.R_below (by (with_reducible repeat (first|apply Kd.R_alloc|apply Kd.R_drewN|apply Kd.R_drew));exact HO415.out) hb);replace HO418:=Aside0.mk (Kd.R_below (by (with_reducible repeat (first|apply Kd.R_alloc|apply Kd.R_drewN|apply Kd.R_drew));exact HO418.out) hb);replace HO426:=Aside0.mk (Kd.R_below (by (with_reducible repeat (first|apply Kd.R_alloc|apply Kd.R_drewN|apply Kd.R_drew));exact HO426.out) hb);replace BK430:=Aside0.mk (blk_below (g:=gb430) (o:=.cells #[.int .i64 t412,.slice Ao10 t413.length co10,.slice Ao11 t416.length co11,.int .i64 t419,.int .i64 t420,.int .i64 t421,.int .i64 t422,.int .i64 t423,.slice Ao12 t424.length co12,.int .i64 t427] 28 (0,0)) (by (with_reducible repeat (first|refine blk_drewN ?_ _|refine blk_drew ?_|refine blk_alloc ?_ _));exact BK430.out) hb);replace HB:=Aside0.mk (below_step (by repeat (first|(with_reducible first|exact HB.out|apply below_alloc|apply pw_below_drewN|apply below_drew1|refine below_set ?_ GE430.out)|exact HB.out)) hb);(try clear hb);(try clear hb2);(try clear hk);(try clear hi)))
       go_meet
       case rel => exact ⟨_,((t431 != (-1))),(by first|rfl|(simp;done)|(simp [*];done)),H',⟨by first|omega|exact Nat.le_refl _⟩,⟨by (with_reducible repeat (first|apply Kd.R_alloc|apply Kd.R_drewN|apply Kd.R_drew));exact HO415.out⟩,⟨by (with_reducible repeat (first|apply Kd.R_alloc|apply Kd.R_drewN|apply Kd.R_drew));exact HO418.out⟩,⟨by (with_reducible repeat (first|apply Kd.R_alloc|apply Kd.R_drewN|apply Kd.R_drew));exact HO426.out⟩,⟨by (with_reducible repeat (first|refine blk_drewN ?_ _|refine blk_drew ?_|refine blk_alloc ?_ _));exact BK430.out⟩,⟨by repeat (first|(with_reducible first|exact HB.out|apply below_alloc|apply pw_below_drewN|apply below_drew1|refine below_set ?_ GE430.out)|exact HB.out)⟩⟩
      ·replace c43:=Bool.eq_false_iff.mpr c43
       subst c43
       have H1 : (laws_FnSkies.j0 k t431 false t412 t413 t416 t419 t420 t421 t422 t423 t424 t427) = some r:=by rw [if_neg (show ¬ (false = true) by decide)] at H;exact H
       clear H
       have H:=H1
       clear H1
       have H':=Aside0.mk H
       clear H
       have hcz50_0 : w13.cell? ⟨gb430,0,none⟩ = some (.int .i64 t412):=(blk_cell BK430.out 0).trans rfl
       have hcz50_1 : w13.cell? ⟨gb430,1,none⟩ = some (.slice Ao10 t413.length co10):=(blk_cell BK430.out 1).trans rfl
       have hcz50_2 : w13.cell? ⟨gb430,2,none⟩ = some (.slice Ao11 t416.length co11):=(blk_cell BK430.out 2).trans rfl
       have hcz50_3 : w13.cell? ⟨gb430,3,none⟩ = some (.int .i64 t419):=(blk_cell BK430.out 3).trans rfl
       have hcz50_4 : w13.cell? ⟨gb430,4,none⟩ = some (.int .i64 t420):=(blk_cell BK430.out 4).trans rfl
       have hcz50_5 : w13.cell? ⟨gb430,5,none⟩ = some (.int .i64 t421):=(blk_cell BK430.out 5).trans rfl
       have hcz50_6 : w13.cell? ⟨gb430,6,none⟩ = some (.int .i64 t422):=(blk_cell BK430.out 6).trans rfl
       have hcz50_7 : w13.cell? ⟨gb430,7,none⟩ = some (.int .i64 t423):=(blk_cell BK430.out 7).trans rfl
       have hcz50_8 : w13.cell? ⟨gb430,8,none⟩ = some (.slice Ao12 t424.length co12):=(blk_cell BK430.out 8).trans rfl
       have hcz50_9 : w13.cell? ⟨gb430,9,none⟩ = some (.int .i64 t427):=(blk_cell BK430.out 9).trans rfl
       have hfz50_0:=blk_frozen BK430.out 0
       have hfz50_1:=blk_frozen BK430.out 1
       have hfz50_2:=blk_frozen BK430.out 2
       have hfz50_3:=blk_frozen BK430.out 3
       have hfz50_4:=blk_frozen BK430.out 4
       have hfz50_5:=blk_frozen BK430.out 5
       have hfz50_6:=blk_frozen BK430.out 6
       have hfz50_7:=blk_frozen BK430.out 7
       have hfz50_8:=blk_frozen BK430.out 8
       have hfz50_9:=blk_frozen BK430.out 9
       go_wp2_with (first|((with_reducible refine gate_callee (f:=6) rfl ?_);refine goesL_ (some 25) rfl rfl Try.func6 (by kernel_rfl) rfl #[.agg #[.int .i64 t412,.slice Ao10 t413.length co10,.slice Ao11 t416.length co11,.int .i64 t419,.int .i64 t420,.int .i64 t421,.int .i64 t422,.int .i64 t423,.slice Ao12 t424.length co12,.int .i64 t427],.int .i64 t429,.int .i64 t428] rfl (by (try simp only [List.map_toArray,List.map_cons,List.map_nil]);first|done|rfl|(simp only [List.length_drop,List.length_take];rfl)) ?_;(with_reducible refine (impl_LimitOf.calls k t412 _ _ t413 _ _ t416 t419 t420 t421 t422 t423 _ _ t424 t427 t429 t428 t432 _ ?side1 ?side2 ?side3 ?side4 ?side5 ?side6 A14.out).mono ?_);(case side1 => repeat (first|exact (Kd.R_reads' HO415.out).2.2|(with_reducible refine Kd.C_alloc ?_ _)|(with_reducible refine Kd.C_drewN ?_ _)|(with_reducible refine Kd.C_drew ?_)));(case side2 => exact (Kd.R_reads' HO415.out).2.1);(case side3 => repeat (first|exact (Kd.R_reads' HO418.out).2.2|(with_reducible refine Kd.C_alloc ?_ _)|(with_reducible refine Kd.C_drewN ?_ _)|(with_reducible refine Kd.C_drew ?_)));(case side4 => exact (Kd.R_reads' HO418.out).2.1);(case side5 => repeat (first|exact (Kd.R_reads' HO426.out).2.2|(with_reducible refine Kd.C_alloc ?_ _)|(with_reducible refine Kd.C_drewN ?_ _)|(with_reducible refine Kd.C_drew ?_)));(case side6 => exact (Kd.R_reads' HO426.out).2.1);rintro e w51 ⟨rfl,hb⟩;refine ⟨_,rfl,?_⟩;replace HO415:=Aside0.mk (Kd.R_below (by (with_reducible repeat (first|apply Kd.R_alloc|apply Kd.R_drewN|apply Kd.R_drew));exact HO415.out) hb);replace HO418:=Aside0.mk (Kd.R_below (by (with_reducible repeat (first|apply Kd.R_alloc|apply Kd.R_drewN|apply Kd.R_drew));exact HO418.out) hb);replace HO426:=Aside0.mk (Kd.R_below (by (with_reducible repeat (first|apply Kd.R_alloc|apply Kd.R_drewN|apply Kd.R_drew));exact HO426.out) hb);replace BK430:=Aside0.mk (blk_below (g:=gb430) (o:=.cells #[.int .i64 t412,.slice Ao10 t413.length co10,.slice Ao11 t416.length co11,.int .i64 t419,.int .i64 t420,.int .i64 t421,.int .i64 t422,.int .i64 t423,.slice Ao12 t424.length co12,.int .i64 t427] 28 (0,0)) (by (with_reducible repeat (first|refine blk_drewN ?_ _|refine blk_drew ?_|refine blk_alloc ?_ _));exact BK430.out) hb);replace HB:=Aside0.mk (below_step (by repeat (first|(with_reducible first|exact HB.out|apply below_alloc|apply pw_below_drewN|apply below_drew1|refine below_set ?_ GE430.out)|exact HB.out)) hb);(try clear hb);(try clear hb2);(try clear hk);(try clear hi);have hcz52_0 : w51.cell? ⟨gb430,0,none⟩ = some (.int .i64 t412):=(blk_cell BK430.out 0).trans rfl;have hcz52_1 : w51.cell? ⟨gb430,1,none⟩ = some (.slice Ao10 t413.length co10):=(blk_cell BK430.out 1).trans rfl;have hcz52_2 : w51.cell? ⟨gb430,2,none⟩ = some (.slice Ao11 t416.length co11):=(blk_cell BK430.out 2).trans rfl;have hcz52_3 : w51.cell? ⟨gb430,3,none⟩ = some (.int .i64 t419):=(blk_cell BK430.out 3).trans rfl;have hcz52_4 : w51.cell? ⟨gb430,4,none⟩ = some (.int .i64 t420):=(blk_cell BK430.out 4).trans rfl;have hcz52_5 : w51.cell? ⟨gb430,5,none⟩ = some (.int .i64 t421):=(blk_cell BK430.out 5).trans rfl;have hcz52_6 : w51.cell? ⟨gb430,6,none⟩ = some (.int .i64 t422):=(blk_cell BK430.out 6).trans rfl;have hcz52_7 : w51.cell? ⟨gb430,7,none⟩ = some (.int .i64 t423):=(blk_cell BK430.out 7).trans rfl;have hcz52_8 : w51.cell? ⟨gb430,8,none⟩ = some (.slice Ao12 t424.length co12):=(blk_cell BK430.out 8).trans rfl;have hcz52_9 : w51.cell? ⟨gb430,9,none⟩ = some (.int .i64 t427):=(blk_cell BK430.out 9).trans rfl;have hfz52_0:=blk_frozen BK430.out 0;have hfz52_1:=blk_frozen BK430.out 1;have hfz52_2:=blk_frozen BK430.out 2;have hfz52_3:=blk_frozen BK430.out 3;have hfz52_4:=blk_frozen BK430.out 4;have hfz52_5:=blk_frozen BK430.out 5;have hfz52_6:=blk_frozen BK430.out 6;have hfz52_7:=blk_frozen BK430.out 7;have hfz52_8:=blk_frozen BK430.out 8;have hfz52_9:=blk_frozen BK430.out 9)|(go_at_call 7;(with_reducible refine (impl_IsSite.calls t412 _ _ t413 _ _ t416 t419 t420 t421 t422 t423 _ _ t424 t427 t428 true _ ?side1 ?side2 ?side3 ?side4 ?side5 ?side6 A40.out).mono ?_);(case side1 => repeat (first|exact (Kd.R_reads' HO415.out).2.2|(with_reducible refine Kd.C_alloc ?_ _)|(with_reducible refine Kd.C_drewN ?_ _)|(with_reducible refine Kd.C_drew ?_)));(case side2 => exact (Kd.R_reads' HO415.out).2.1);(case side3 => repeat (first|exact (Kd.R_reads' HO418.out).2.2|(with_reducible refine Kd.C_alloc ?_ _)|(with_reducible refine Kd.C_drewN ?_ _)|(with_reducible refine Kd.C_drew ?_)));(case side4 => exact (Kd.R_reads' HO418.out).2.1);(case side5 => repeat (first|exact (Kd.R_reads' HO426.out).2.2|(with_reducible refine Kd.C_alloc ?_ _)|(with_reducible refine Kd.C_drewN ?_ _)|(with_reducible refine Kd.C_drew ?_)));(case side6 => exact (Kd.R_reads' HO426.out).2.1);rintro e w53 ⟨rfl,hb⟩;replace HO415:=Aside0.mk (Kd.R_below (by (with_reducible repeat (first|apply Kd.R_alloc|apply Kd.R_drewN|apply Kd.R_drew));exact HO415.out) hb);replace HO418:=Aside0.mk (Kd.R_below (by (with_reducible repeat (first|apply Kd.R_alloc|apply Kd.R_drewN|apply Kd.R_drew));exact HO418.out) hb);replace HO426:=Aside0.mk (Kd.R_below (by (with_reducible repeat (first|apply Kd.R_alloc|apply Kd.R_drewN|apply Kd.R_drew));exact HO426.out) hb);replace BK430:=Aside0.mk (blk_below (g:=gb430) (o:=.cells #[.int .i64 t412,.slice Ao10 t413.length co10,.slice Ao11 t416.length co11,.int .i64 t419,.int .i64 t420,.int .i64 t421,.int .i64 t422,.int .i64 t423,.slice Ao12 t424.length co12,.int .i64 t427] 28 (0,0)) (by (with_reducible repeat (first|refine blk_drewN ?_ _|refine blk_drew ?_|refine blk_alloc ?_ _));exact BK430.out) hb);replace HB:=Aside0.mk (below_step (by repeat (first|(with_reducible first|exact HB.out|apply below_alloc|apply pw_below_drewN|apply below_drew1|refine below_set ?_ GE430.out)|exact HB.out)) hb);(try clear hb);(try clear hb2);(try clear hk);(try clear hi);have hcz54_0 : w53.cell? ⟨gb430,0,none⟩ = some (.int .i64 t412):=(blk_cell BK430.out 0).trans rfl;have hcz54_1 : w53.cell? ⟨gb430,1,none⟩ = some (.slice Ao10 t413.length co10):=(blk_cell BK430.out 1).trans rfl;have hcz54_2 : w53.cell? ⟨gb430,2,none⟩ = some (.slice Ao11 t416.length co11):=(blk_cell BK430.out 2).trans rfl;have hcz54_3 : w53.cell? ⟨gb430,3,none⟩ = some (.int .i64 t419):=(blk_cell BK430.out 3).trans rfl;have hcz54_4 : w53.cell? ⟨gb430,4,none⟩ = some (.int .i64 t420):=(blk_cell BK430.out 4).trans rfl;have hcz54_5 : w53.cell? ⟨gb430,5,none⟩ = some (.int .i64 t421):=(blk_cell BK430.out 5).trans rfl;have hcz54_6 : w53.cell? ⟨gb430,6,none⟩ = some (.int .i64 t422):=(blk_cell BK430.out 6).trans rfl;have hcz54_7 : w53.cell? ⟨gb430,7,none⟩ = some (.int .i64 t423):=(blk_cell BK430.out 7).trans rfl;have hcz54_8 : w53.cell? ⟨gb430,8,none⟩ = some (.slice Ao12 t424.length co12):=(blk_cell BK430.out 8).trans rfl;have hcz54_9 : w53.cell? ⟨gb430,9,none⟩ = some (.int .i64 t427):=(blk_cell BK430.out 9).trans rfl;have hfz54_0:=blk_frozen BK430.out 0;have hfz54_1:=blk_frozen BK430.out 1;have hfz54_2:=blk_frozen BK430.out 2;have hfz54_3:=blk_frozen BK430.out 3;have hfz54_4:=blk_frozen BK430.out 4;have hfz54_5:=blk_frozen BK430.out 5;have hfz54_6:=blk_frozen BK430.out 6;have hfz54_7:=blk_frozen BK430.out 7;have hfz54_8:=blk_frozen BK430.out 8;have hfz54_9:=blk_frozen BK430.out 9)|(go_at_call 7;(with_reducible refine (impl_IsSite.calls t412 _ _ t413 _ _ t416 t419 t420 t421 t422 t423 _ _ t424 t427 t429 false _ ?side1 ?side2 ?side3 ?side4 ?side5 ?side6 A42.out).mono ?_);(case side1 => repeat (first|exact (Kd.R_reads' HO415.out).2.2|(with_reducible refine Kd.C_alloc ?_ _)|(with_reducible refine Kd.C_drewN ?_ _)|(with_reducible refine Kd.C_drew ?_)));(case side2 => exact (Kd.R_reads' HO415.out).2.1);(case side3 => repeat (first|exact (Kd.R_reads' HO418.out).2.2|(with_reducible refine Kd.C_alloc ?_ _)|(with_reducible refine Kd.C_drewN ?_ _)|(with_reducible refine Kd.C_drew ?_)));(case side4 => exact (Kd.R_reads' HO418.out).2.1);(case side5 => repeat (first|exact (Kd.R_reads' HO426.out).2.2|(with_reducible refine Kd.C_alloc ?_ _)|(with_reducible refine Kd.C_drewN ?_ _)|(with_reducible refine Kd.C_drew ?_)));(case side6 => exact (Kd.R_reads' HO426.out).2.1);rintro e w55 ⟨rfl,hb⟩;replace HO415:=Aside0.mk (Kd.R_below (by (with_reducible repeat (first|apply Kd.R_alloc|apply Kd.R_drewN|apply Kd.R_drew));exact HO415.out) hb);replace HO418:=Aside0.mk (Kd.R_below (by (with_reducible repeat (first|apply Kd.R_alloc|apply Kd.R_drewN|apply Kd.R_drew));exact HO418.out) hb);replace HO426:=Aside0.mk (Kd.R_below (by (with_reducible repeat (first|apply Kd.R_alloc|apply Kd.R_drewN|apply Kd.R_drew));exact HO426.out) hb);replace BK430:=Aside0.mk (blk_below (g:=gb430) (o:=.cells #[.int .i64 t412,.slice Ao10 t413.length co10,.slice Ao11 t416.length co11,.int .i64 t419,.int .i64 t420,.int .i64 t421,.int .i64 t422,.int .i64 t423,.slice Ao12 t424.length co12,.int .i64 t427] 28 (0,0)) (by (with_reducible repeat (first|refine blk_drewN ?_ _|refine blk_drew ?_|refine blk_alloc ?_ _));exact BK430.out) hb);replace HB:=Aside0.mk (below_step (by repeat (first|(with_reducible first|exact HB.out|apply below_alloc|apply pw_below_drewN|apply below_drew1|refine below_set ?_ GE430.out)|exact HB.out)) hb);(try clear hb);(try clear hb2);(try clear hk);(try clear hi)))
       go_meet
       case rel => exact ⟨_,(false),(by first|rfl|(simp;done)|(simp [*];done)),H',⟨by first|omega|exact Nat.le_refl _⟩,⟨by (with_reducible repeat (first|apply Kd.R_alloc|apply Kd.R_drewN|apply Kd.R_drew));exact HO415.out⟩,⟨by (with_reducible repeat (first|apply Kd.R_alloc|apply Kd.R_drewN|apply Kd.R_drew));exact HO418.out⟩,⟨by (with_reducible repeat (first|apply Kd.R_alloc|apply Kd.R_drewN|apply Kd.R_drew));exact HO426.out⟩,⟨by (with_reducible repeat (first|refine blk_drewN ?_ _|refine blk_drew ?_|refine blk_alloc ?_ _));exact BK430.out⟩,⟨by repeat (first|(with_reducible first|exact HB.out|apply below_alloc|apply pw_below_drewN|apply below_drew1|refine below_set ?_ GE430.out)|exact HB.out)⟩⟩
     ·replace c41:=Bool.eq_false_iff.mpr c41
      subst c41
      have H1 : (laws_FnSkies.j0 k t431 false t412 t413 t416 t419 t420 t421 t422 t423 t424 t427) = some r:=by rw [if_neg (show ¬ (false = true) by decide)] at H;exact H
      clear H
      have H:=H1
      clear H1
      have H':=Aside0.mk H
      clear H
      have hcz56_0 : w13.cell? ⟨gb430,0,none⟩ = some (.int .i64 t412):=(blk_cell BK430.out 0).trans rfl
      have hcz56_1 : w13.cell? ⟨gb430,1,none⟩ = some (.slice Ao10 t413.length co10):=(blk_cell BK430.out 1).trans rfl
      have hcz56_2 : w13.cell? ⟨gb430,2,none⟩ = some (.slice Ao11 t416.length co11):=(blk_cell BK430.out 2).trans rfl
      have hcz56_3 : w13.cell? ⟨gb430,3,none⟩ = some (.int .i64 t419):=(blk_cell BK430.out 3).trans rfl
      have hcz56_4 : w13.cell? ⟨gb430,4,none⟩ = some (.int .i64 t420):=(blk_cell BK430.out 4).trans rfl
      have hcz56_5 : w13.cell? ⟨gb430,5,none⟩ = some (.int .i64 t421):=(blk_cell BK430.out 5).trans rfl
      have hcz56_6 : w13.cell? ⟨gb430,6,none⟩ = some (.int .i64 t422):=(blk_cell BK430.out 6).trans rfl
      have hcz56_7 : w13.cell? ⟨gb430,7,none⟩ = some (.int .i64 t423):=(blk_cell BK430.out 7).trans rfl
      have hcz56_8 : w13.cell? ⟨gb430,8,none⟩ = some (.slice Ao12 t424.length co12):=(blk_cell BK430.out 8).trans rfl
      have hcz56_9 : w13.cell? ⟨gb430,9,none⟩ = some (.int .i64 t427):=(blk_cell BK430.out 9).trans rfl
      have hfz56_0:=blk_frozen BK430.out 0
      have hfz56_1:=blk_frozen BK430.out 1
      have hfz56_2:=blk_frozen BK430.out 2
      have hfz56_3:=blk_frozen BK430.out 3
      have hfz56_4:=blk_frozen BK430.out 4
      have hfz56_5:=blk_frozen BK430.out 5
      have hfz56_6:=blk_frozen BK430.out 6
      have hfz56_7:=blk_frozen BK430.out 7
      have hfz56_8:=blk_frozen BK430.out 8
      have hfz56_9:=blk_frozen BK430.out 9
      go_wp2_with (first|((with_reducible refine gate_callee (f:=6) rfl ?_);refine goesL_ (some 25) rfl rfl Try.func6 (by kernel_rfl) rfl #[.agg #[.int .i64 t412,.slice Ao10 t413.length co10,.slice Ao11 t416.length co11,.int .i64 t419,.int .i64 t420,.int .i64 t421,.int .i64 t422,.int .i64 t423,.slice Ao12 t424.length co12,.int .i64 t427],.int .i64 t429,.int .i64 t428] rfl (by (try simp only [List.map_toArray,List.map_cons,List.map_nil]);first|done|rfl|(simp only [List.length_drop,List.length_take];rfl)) ?_;(with_reducible refine (impl_LimitOf.calls k t412 _ _ t413 _ _ t416 t419 t420 t421 t422 t423 _ _ t424 t427 t429 t428 t432 _ ?side1 ?side2 ?side3 ?side4 ?side5 ?side6 A14.out).mono ?_);(case side1 => repeat (first|exact (Kd.R_reads' HO415.out).2.2|(with_reducible refine Kd.C_alloc ?_ _)|(with_reducible refine Kd.C_drewN ?_ _)|(with_reducible refine Kd.C_drew ?_)));(case side2 => exact (Kd.R_reads' HO415.out).2.1);(case side3 => repeat (first|exact (Kd.R_reads' HO418.out).2.2|(with_reducible refine Kd.C_alloc ?_ _)|(with_reducible refine Kd.C_drewN ?_ _)|(with_reducible refine Kd.C_drew ?_)));(case side4 => exact (Kd.R_reads' HO418.out).2.1);(case side5 => repeat (first|exact (Kd.R_reads' HO426.out).2.2|(with_reducible refine Kd.C_alloc ?_ _)|(with_reducible refine Kd.C_drewN ?_ _)|(with_reducible refine Kd.C_drew ?_)));(case side6 => exact (Kd.R_reads' HO426.out).2.1);rintro e w57 ⟨rfl,hb⟩;refine ⟨_,rfl,?_⟩;replace HO415:=Aside0.mk (Kd.R_below (by (with_reducible repeat (first|apply Kd.R_alloc|apply Kd.R_drewN|apply Kd.R_drew));exact HO415.out) hb);replace HO418:=Aside0.mk (Kd.R_below (by (with_reducible repeat (first|apply Kd.R_alloc|apply Kd.R_drewN|apply Kd.R_drew));exact HO418.out) hb);replace HO426:=Aside0.mk (Kd.R_below (by (with_reducible repeat (first|apply Kd.R_alloc|apply Kd.R_drewN|apply Kd.R_drew));exact HO426.out) hb);replace BK430:=Aside0.mk (blk_below (g:=gb430) (o:=.cells #[.int .i64 t412,.slice Ao10 t413.length co10,.slice Ao11 t416.length co11,.int .i64 t419,.int .i64 t420,.int .i64 t421,.int .i64 t422,.int .i64 t423,.slice Ao12 t424.length co12,.int .i64 t427] 28 (0,0)) (by (with_reducible repeat (first|refine blk_drewN ?_ _|refine blk_drew ?_|refine blk_alloc ?_ _));exact BK430.out) hb);replace HB:=Aside0.mk (below_step (by repeat (first|(with_reducible first|exact HB.out|apply below_alloc|apply pw_below_drewN|apply below_drew1|refine below_set ?_ GE430.out)|exact HB.out)) hb);(try clear hb);(try clear hb2);(try clear hk);(try clear hi);have hcz58_0 : w57.cell? ⟨gb430,0,none⟩ = some (.int .i64 t412):=(blk_cell BK430.out 0).trans rfl;have hcz58_1 : w57.cell? ⟨gb430,1,none⟩ = some (.slice Ao10 t413.length co10):=(blk_cell BK430.out 1).trans rfl;have hcz58_2 : w57.cell? ⟨gb430,2,none⟩ = some (.slice Ao11 t416.length co11):=(blk_cell BK430.out 2).trans rfl;have hcz58_3 : w57.cell? ⟨gb430,3,none⟩ = some (.int .i64 t419):=(blk_cell BK430.out 3).trans rfl;have hcz58_4 : w57.cell? ⟨gb430,4,none⟩ = some (.int .i64 t420):=(blk_cell BK430.out 4).trans rfl;have hcz58_5 : w57.cell? ⟨gb430,5,none⟩ = some (.int .i64 t421):=(blk_cell BK430.out 5).trans rfl;have hcz58_6 : w57.cell? ⟨gb430,6,none⟩ = some (.int .i64 t422):=(blk_cell BK430.out 6).trans rfl;have hcz58_7 : w57.cell? ⟨gb430,7,none⟩ = some (.int .i64 t423):=(blk_cell BK430.out 7).trans rfl;have hcz58_8 : w57.cell? ⟨gb430,8,none⟩ = some (.slice Ao12 t424.length co12):=(blk_cell BK430.out 8).trans rfl;have hcz58_9 : w57.cell? ⟨gb430,9,none⟩ = some (.int .i64 t427):=(blk_cell BK430.out 9).trans rfl;have hfz58_0:=blk_frozen BK430.out 0;have hfz58_1:=blk_frozen BK430.out 1;have hfz58_2:=blk_frozen BK430.out 2;have hfz58_3:=blk_frozen BK430.out 3;have hfz58_4:=blk_frozen BK430.out 4;have hfz58_5:=blk_frozen BK430.out 5;have hfz58_6:=blk_frozen BK430.out 6;have hfz58_7:=blk_frozen BK430.out 7;have hfz58_8:=blk_frozen BK430.out 8;have hfz58_9:=blk_frozen BK430.out 9)|(go_at_call 7;(with_reducible refine (impl_IsSite.calls t412 _ _ t413 _ _ t416 t419 t420 t421 t422 t423 _ _ t424 t427 t428 false _ ?side1 ?side2 ?side3 ?side4 ?side5 ?side6 A40.out).mono ?_);(case side1 => repeat (first|exact (Kd.R_reads' HO415.out).2.2|(with_reducible refine Kd.C_alloc ?_ _)|(with_reducible refine Kd.C_drewN ?_ _)|(with_reducible refine Kd.C_drew ?_)));(case side2 => exact (Kd.R_reads' HO415.out).2.1);(case side3 => repeat (first|exact (Kd.R_reads' HO418.out).2.2|(with_reducible refine Kd.C_alloc ?_ _)|(with_reducible refine Kd.C_drewN ?_ _)|(with_reducible refine Kd.C_drew ?_)));(case side4 => exact (Kd.R_reads' HO418.out).2.1);(case side5 => repeat (first|exact (Kd.R_reads' HO426.out).2.2|(with_reducible refine Kd.C_alloc ?_ _)|(with_reducible refine Kd.C_drewN ?_ _)|(with_reducible refine Kd.C_drew ?_)));(case side6 => exact (Kd.R_reads' HO426.out).2.1);rintro e w59 ⟨rfl,hb⟩;replace HO415:=Aside0.mk (Kd.R_below (by (with_reducible repeat (first|apply Kd.R_alloc|apply Kd.R_drewN|apply Kd.R_drew));exact HO415.out) hb);replace HO418:=Aside0.mk (Kd.R_below (by (with_reducible repeat (first|apply Kd.R_alloc|apply Kd.R_drewN|apply Kd.R_drew));exact HO418.out) hb);replace HO426:=Aside0.mk (Kd.R_below (by (with_reducible repeat (first|apply Kd.R_alloc|apply Kd.R_drewN|apply Kd.R_drew));exact HO426.out) hb);replace BK430:=Aside0.mk (blk_below (g:=gb430) (o:=.cells #[.int .i64 t412,.slice Ao10 t413.length co10,.slice Ao11 t416.length co11,.int .i64 t419,.int .i64 t420,.int .i64 t421,.int .i64 t422,.int .i64 t423,.slice Ao12 t424.length co12,.int .i64 t427] 28 (0,0)) (by (with_reducible repeat (first|refine blk_drewN ?_ _|refine blk_drew ?_|refine blk_alloc ?_ _));exact BK430.out) hb);replace HB:=Aside0.mk (below_step (by repeat (first|(with_reducible first|exact HB.out|apply below_alloc|apply pw_below_drewN|apply below_drew1|refine below_set ?_ GE430.out)|exact HB.out)) hb);(try clear hb);(try clear hb2);(try clear hk);(try clear hi)))
      go_meet
      case rel => exact ⟨_,(false),(by first|rfl|(simp;done)|(simp [*];done)),H',⟨by first|omega|exact Nat.le_refl _⟩,⟨by (with_reducible repeat (first|apply Kd.R_alloc|apply Kd.R_drewN|apply Kd.R_drew));exact HO415.out⟩,⟨by (with_reducible repeat (first|apply Kd.R_alloc|apply Kd.R_drewN|apply Kd.R_drew));exact HO418.out⟩,⟨by (with_reducible repeat (first|apply Kd.R_alloc|apply Kd.R_drewN|apply Kd.R_drew));exact HO426.out⟩,⟨by (with_reducible repeat (first|refine blk_drewN ?_ _|refine blk_drew ?_|refine blk_alloc ?_ _));exact BK430.out⟩,⟨by repeat (first|(with_reducible first|exact HB.out|apply below_alloc|apply pw_below_drewN|apply below_drew1|refine below_set ?_ GE430.out)|exact HB.out)⟩⟩
   ·rw [if_neg c15] at H
    have c15b0 : (t431 == t432) = false:=beq_eq_false_iff_ne.mpr c15
    have c15b1 : (t431 != t432) = true:=bne_iff_ne.mpr c15
    (first|rw [c15b0]|(simp only [i64_w,i32_w];rw [c15b0])|skip)
    have H':=Aside0.mk H
    clear H
    have hcz60_0 : w13.cell? ⟨gb430,0,none⟩ = some (.int .i64 t412):=(blk_cell BK430.out 0).trans rfl
    have hcz60_1 : w13.cell? ⟨gb430,1,none⟩ = some (.slice Ao10 t413.length co10):=(blk_cell BK430.out 1).trans rfl
    have hcz60_2 : w13.cell? ⟨gb430,2,none⟩ = some (.slice Ao11 t416.length co11):=(blk_cell BK430.out 2).trans rfl
    have hcz60_3 : w13.cell? ⟨gb430,3,none⟩ = some (.int .i64 t419):=(blk_cell BK430.out 3).trans rfl
    have hcz60_4 : w13.cell? ⟨gb430,4,none⟩ = some (.int .i64 t420):=(blk_cell BK430.out 4).trans rfl
    have hcz60_5 : w13.cell? ⟨gb430,5,none⟩ = some (.int .i64 t421):=(blk_cell BK430.out 5).trans rfl
    have hcz60_6 : w13.cell? ⟨gb430,6,none⟩ = some (.int .i64 t422):=(blk_cell BK430.out 6).trans rfl
    have hcz60_7 : w13.cell? ⟨gb430,7,none⟩ = some (.int .i64 t423):=(blk_cell BK430.out 7).trans rfl
    have hcz60_8 : w13.cell? ⟨gb430,8,none⟩ = some (.slice Ao12 t424.length co12):=(blk_cell BK430.out 8).trans rfl
    have hcz60_9 : w13.cell? ⟨gb430,9,none⟩ = some (.int .i64 t427):=(blk_cell BK430.out 9).trans rfl
    have hfz60_0:=blk_frozen BK430.out 0
    have hfz60_1:=blk_frozen BK430.out 1
    have hfz60_2:=blk_frozen BK430.out 2
    have hfz60_3:=blk_frozen BK430.out 3
    have hfz60_4:=blk_frozen BK430.out 4
    have hfz60_5:=blk_frozen BK430.out 5
    have hfz60_6:=blk_frozen BK430.out 6
    have hfz60_7:=blk_frozen BK430.out 7
    have hfz60_8:=blk_frozen BK430.out 8
    have hfz60_9:=blk_frozen BK430.out 9
    go_wp2_with (first|((with_reducible refine gate_callee (f:=6) rfl ?_);refine goesL_ (some 25) rfl rfl Try.func6 (by kernel_rfl) rfl #[.agg #[.int .i64 t412,.slice Ao10 t413.length co10,.slice Ao11 t416.length co11,.int .i64 t419,.int .i64 t420,.int .i64 t421,.int .i64 t422,.int .i64 t423,.slice Ao12 t424.length co12,.int .i64 t427],.int .i64 t429,.int .i64 t428] rfl (by (try simp only [List.map_toArray,List.map_cons,List.map_nil]);first|done|rfl|(simp only [List.length_drop,List.length_take];rfl)) ?_;(with_reducible refine (impl_LimitOf.calls k t412 _ _ t413 _ _ t416 t419 t420 t421 t422 t423 _ _ t424 t427 t429 t428 t432 _ ?side1 ?side2 ?side3 ?side4 ?side5 ?side6 A14.out).mono ?_);(case side1 => repeat (first|exact (Kd.R_reads' HO415.out).2.2|(with_reducible refine Kd.C_alloc ?_ _)|(with_reducible refine Kd.C_drewN ?_ _)|(with_reducible refine Kd.C_drew ?_)));(case side2 => exact (Kd.R_reads' HO415.out).2.1);(case side3 => repeat (first|exact (Kd.R_reads' HO418.out).2.2|(with_reducible refine Kd.C_alloc ?_ _)|(with_reducible refine Kd.C_drewN ?_ _)|(with_reducible refine Kd.C_drew ?_)));(case side4 => exact (Kd.R_reads' HO418.out).2.1);(case side5 => repeat (first|exact (Kd.R_reads' HO426.out).2.2|(with_reducible refine Kd.C_alloc ?_ _)|(with_reducible refine Kd.C_drewN ?_ _)|(with_reducible refine Kd.C_drew ?_)));(case side6 => exact (Kd.R_reads' HO426.out).2.1);rintro e w61 ⟨rfl,hb⟩;refine ⟨_,rfl,?_⟩;replace HO415:=Aside0.mk (Kd.R_below (by (with_reducible repeat (first|apply Kd.R_alloc|apply Kd.R_drewN|apply Kd.R_drew));exact HO415.out) hb);replace HO418:=Aside0.mk (Kd.R_below (by (with_reducible repeat (first|apply Kd.R_alloc|apply Kd.R_drewN|apply Kd.R_drew));exact HO418.out) hb);replace HO426:=Aside0.mk (Kd.R_below (by (with_reducible repeat (first|apply Kd.R_alloc|apply Kd.R_drewN|apply Kd.R_drew));exact HO426.out) hb);replace BK430:=Aside0.mk (blk_below (g:=gb430) (o:=.cells #[.int .i64 t412,.slice Ao10 t413.length co10,.slice Ao11 t416.length co11,.int .i64 t419,.int .i64 t420,.int .i64 t421,.int .i64 t422,.int .i64 t423,.slice Ao12 t424.length co12,.int .i64 t427] 28 (0,0)) (by (with_reducible repeat (first|refine blk_drewN ?_ _|refine blk_drew ?_|refine blk_alloc ?_ _));exact BK430.out) hb);replace HB:=Aside0.mk (below_step (by repeat (first|(with_reducible first|exact HB.out|apply below_alloc|apply pw_below_drewN|apply below_drew1|refine below_set ?_ GE430.out)|exact HB.out)) hb);(try clear hb);(try clear hb2);(try clear hk);(try clear hi)))
    go_meet
    case rel => exact ⟨_,(true),(by first|rfl|(simp;done)|(simp [*];done)),H',⟨by first|omega|exact Nat.le_refl _⟩,⟨by (with_reducible repeat (first|apply Kd.R_alloc|apply Kd.R_drewN|apply Kd.R_drew));exact HO415.out⟩,⟨by (with_reducible repeat (first|apply Kd.R_alloc|apply Kd.R_drewN|apply Kd.R_drew));exact HO418.out⟩,⟨by (with_reducible repeat (first|apply Kd.R_alloc|apply Kd.R_drewN|apply Kd.R_drew));exact HO426.out⟩,⟨by (with_reducible repeat (first|refine blk_drewN ?_ _|refine blk_drew ?_|refine blk_alloc ?_ _));exact BK430.out⟩,⟨by repeat (first|(with_reducible first|exact HB.out|apply below_alloc|apply pw_below_drewN|apply below_drew1|refine below_set ?_ GE430.out)|exact HB.out)⟩⟩
  case rest =>
   clear HC6
   try clear c3
   try clear hcz9_0
   try clear hcz9_1
   try clear hcz9_2
   try clear hcz9_3
   try clear hcz9_4
   try clear hcz9_5
   try clear hcz9_6
   try clear hcz9_7
   try clear hcz9_8
   try clear hcz9_9
   try clear hfz9_0
   try clear hfz9_1
   try clear hfz9_2
   try clear hfz9_3
   try clear hfz9_4
   try clear hfz9_5
   try clear hfz9_6
   try clear hfz9_7
   try clear hfz9_8
   try clear hfz9_9
   obtain ⟨kq,x49_5,rfl,HA,HJ5,HO_431001,HO_431002,HO_431008,BK430,HB⟩:=hcut
   cases kq with
   | zero => exact absurd HA.out (by simp [laws_FnSkies.j0])
   | succ kj5 =>
    have H:=HA.out
    clear HA
    simp only [laws_FnSkies.j0] at H
    by_cases c62 : x49_5 = true
    ·subst c62
     have H1 : (some false) = some r:=by rw [if_pos rfl] at H;exact H
     clear H
     have H:=H1
     clear H1
     obtain rfl:=Option.some.inj H
     go_wp2
     go_ret
     exact ⟨by first|rfl|(simp [errW_none,errW_some] <;> rfl)|(simp [*,errW_none,errW_some] <;> rfl),by repeat (first|(with_reducible first|exact HB.out|apply below_alloc|apply pw_below_drewN|apply below_drew1|refine below_set ?_ GE430.out)|exact HB.out)⟩
    ·replace c62:=Bool.eq_false_iff.mpr c62
     subst c62
     have H1 : ((impl_IsSky.f kj5 t412 t413 t416 t419 t420 t421 t422 t423 t424 t427).bind fun t437 => (if t437 = true then (laws_FnSkies.j1 kj5 (decide (t431 > 180)) t412 t413 t416 t419 t420 t421 t422 t423 t424 t427) else (laws_FnSkies.j1 kj5 false t412 t413 t416 t419 t420 t421 t422 t423 t424 t427))) = some r:=by rw [if_neg (show ¬ (false = true) by decide)] at H;exact H
     clear H
     have H:=H1
     clear H1
     have HC63:=Aside0.mk H
     clear H
     go_upto_region 7 with (fail)
     go_cut [55] (fun v55 wc => ∃ (kq : Nat) (x55_62 : Bool),v55 = .bool x55_62 ∧ Aside0 (laws_FnSkies.j1 kq x55_62 t412 t413 t416 t419 t420 t421 t422 t423 t424 t427 = some r) ∧ Aside0 (kq ≤ kj5) ∧ Aside0 (Kd.R k43 43 wc w.heap.size (fun _ => True) (.slice Ao10 t413.length co10) t413) ∧ Aside0 (Kd.R k46 46 wc w.heap.size (fun _ => True) (.slice Ao11 t416.length co11) t416) ∧ Aside0 (Kd.R k50 50 wc w.heap.size (fun _ => True) (.slice Ao12 t424.length co12) t424) ∧ Aside0 (wc.heap[gb430]? = some (.cells #[.int .i64 t412,(.slice Ao10 t413.length co10),(.slice Ao11 t416.length co11),.int .i64 t419,.int .i64 t420,.int .i64 t421,.int .i64 t422,.int .i64 t423,(.slice Ao12 t424.length co12),.int .i64 t427] 28 (0,0))) ∧ Aside0 (Below w.heap.size w wc))
     case first =>
      have H:=HC63.out
      clear HC63
      replace H:=Option.bind_eq_some_iff.mp H
      obtain ⟨t437,A640,H⟩:=H
      replace H : (if t437 = true then (laws_FnSkies.j1 kj5 (decide (t431 > 180)) t412 t413 t416 t419 t420 t421 t422 t423 t424 t427) else (laws_FnSkies.j1 kj5 false t412 t413 t416 t419 t420 t421 t422 t423 t424 t427)) = some r:=H
      have A64:=Aside0.mk A640
      clear A640
      by_cases c65 : t437 = true
      ·subst c65
       have H1 : (laws_FnSkies.j1 kj5 (decide (t431 > 180)) t412 t413 t416 t419 t420 t421 t422 t423 t424 t427) = some r:=by rw [if_pos rfl] at H;exact H
       clear H
       have H:=H1
       clear H1
       have H':=Aside0.mk H
       clear H
       have hcz66_0 : wc.cell? ⟨gb430,0,none⟩ = some (.int .i64 t412):=(blk_cell BK430.out 0).trans rfl
       have hcz66_1 : wc.cell? ⟨gb430,1,none⟩ = some (.slice Ao10 t413.length co10):=(blk_cell BK430.out 1).trans rfl
       have hcz66_2 : wc.cell? ⟨gb430,2,none⟩ = some (.slice Ao11 t416.length co11):=(blk_cell BK430.out 2).trans rfl
       have hcz66_3 : wc.cell? ⟨gb430,3,none⟩ = some (.int .i64 t419):=(blk_cell BK430.out 3).trans rfl
       have hcz66_4 : wc.cell? ⟨gb430,4,none⟩ = some (.int .i64 t420):=(blk_cell BK430.out 4).trans rfl
       have hcz66_5 : wc.cell? ⟨gb430,5,none⟩ = some (.int .i64 t421):=(blk_cell BK430.out 5).trans rfl
       have hcz66_6 : wc.cell? ⟨gb430,6,none⟩ = some (.int .i64 t422):=(blk_cell BK430.out 6).trans rfl
       have hcz66_7 : wc.cell? ⟨gb430,7,none⟩ = some (.int .i64 t423):=(blk_cell BK430.out 7).trans rfl
       have hcz66_8 : wc.cell? ⟨gb430,8,none⟩ = some (.slice Ao12 t424.length co12):=(blk_cell BK430.out 8).trans rfl
       have hcz66_9 : wc.cell? ⟨gb430,9,none⟩ = some (.int .i64 t427):=(blk_cell BK430.out 9).trans rfl
       have hfz66_0:=blk_frozen BK430.out 0
       have hfz66_1:=blk_frozen BK430.out 1
       have hfz66_2:=blk_frozen BK430.out 2
       have hfz66_3:=blk_frozen BK430.out 3
       have hfz66_4:=blk_frozen BK430.out 4
       have hfz66_5:=blk_frozen BK430.out 5
       have hfz66_6:=blk_frozen BK430.out 6
       have hfz66_7:=blk_frozen BK430.out 7
       have hfz66_8:=blk_frozen BK430.out 8
       have hfz66_9:=blk_frozen BK430.out 9
       go_wp2_with (first|((with_reducible refine gate_callee (f:=8) rfl ?_);refine goesL_ (some 51) rfl rfl Try.func8 (by kernel_rfl) rfl #[.agg #[.int .i64 t412,.slice Ao10 t413.length co10,.slice Ao11 t416.length co11,.int .i64 t419,.int .i64 t420,.int .i64 t421,.int .i64 t422,.int .i64 t423,.slice Ao12 t424.length co12,.int .i64 t427]] rfl (by (try simp only [List.map_toArray,List.map_cons,List.map_nil]);first|done|rfl|(simp only [List.length_drop,List.length_take];rfl)) ?_;(with_reducible refine (impl_IsSky.calls kj5 t412 _ _ t413 _ _ t416 t419 t420 t421 t422 t423 _ _ t424 t427 true _ ?side1 ?side2 ?side3 ?side4 ?side5 ?side6 A64.out).mono ?_);(case side1 => repeat (first|exact (Kd.R_reads' HO_431001.out).2.2|(with_reducible refine Kd.C_alloc ?_ _)|(with_reducible refine Kd.C_drewN ?_ _)|(with_reducible refine Kd.C_drew ?_)));(case side2 => exact (Kd.R_reads' HO_431001.out).2.1);(case side3 => repeat (first|exact (Kd.R_reads' HO_431002.out).2.2|(with_reducible refine Kd.C_alloc ?_ _)|(with_reducible refine Kd.C_drewN ?_ _)|(with_reducible refine Kd.C_drew ?_)));(case side4 => exact (Kd.R_reads' HO_431002.out).2.1);(case side5 => repeat (first|exact (Kd.R_reads' HO_431008.out).2.2|(with_reducible refine Kd.C_alloc ?_ _)|(with_reducible refine Kd.C_drewN ?_ _)|(with_reducible refine Kd.C_drew ?_)));(case side6 => exact (Kd.R_reads' HO_431008.out).2.1);rintro e w67 ⟨rfl,hb⟩;refine ⟨_,rfl,?_⟩;replace HO_431001:=Aside0.mk (Kd.R_below (by (with_reducible repeat (first|apply Kd.R_alloc|apply Kd.R_drewN|apply Kd.R_drew));exact HO_431001.out) hb);replace HO_431002:=Aside0.mk (Kd.R_below (by (with_reducible repeat (first|apply Kd.R_alloc|apply Kd.R_drewN|apply Kd.R_drew));exact HO_431002.out) hb);replace HO_431008:=Aside0.mk (Kd.R_below (by (with_reducible repeat (first|apply Kd.R_alloc|apply Kd.R_drewN|apply Kd.R_drew));exact HO_431008.out) hb);replace BK430:=Aside0.mk (blk_below (g:=gb430) (o:=.cells #[.int .i64 t412,.slice Ao10 t413.length co10,.slice Ao11 t416.length co11,.int .i64 t419,.int .i64 t420,.int .i64 t421,.int .i64 t422,.int .i64 t423,.slice Ao12 t424.length co12,.int .i64 t427] 28 (0,0)) (by (with_reducible repeat (first|refine blk_drewN ?_ _|refine blk_drew ?_|refine blk_alloc ?_ _));exact BK430.out) hb);replace HB:=Aside0.mk (below_step (by repeat (first|(with_reducible first|exact HB.out|apply below_alloc|apply pw_below_drewN|apply below_drew1|refine below_set ?_ GE430.out)|exact HB.out)) hb);(try clear hb);(try clear hb2);(try clear hk);(try clear hi)))
       go_meet
       case rel => exact ⟨_,(decide (t431 > 180)),(by first|rfl|(simp;done)|(simp [*];done)),H',⟨by have:=HJ5.out;first|omega|exact Nat.le_refl _⟩,⟨by (with_reducible repeat (first|apply Kd.R_alloc|apply Kd.R_drewN|apply Kd.R_drew));exact HO_431001.out⟩,⟨by (with_reducible repeat (first|apply Kd.R_alloc|apply Kd.R_drewN|apply Kd.R_drew));exact HO_431002.out⟩,⟨by (with_reducible repeat (first|apply Kd.R_alloc|apply Kd.R_drewN|apply Kd.R_drew));exact HO_431008.out⟩,⟨by (with_reducible repeat (first|refine blk_drewN ?_ _|refine blk_drew ?_|refine blk_alloc ?_ _));exact BK430.out⟩,⟨by repeat (first|(with_reducible first|exact HB.out|apply below_alloc|apply pw_below_drewN|apply below_drew1|refine below_set ?_ GE430.out)|exact HB.out)⟩⟩
      ·replace c65:=Bool.eq_false_iff.mpr c65
       subst c65
       have H1 : (laws_FnSkies.j1 kj5 false t412 t413 t416 t419 t420 t421 t422 t423 t424 t427) = some r:=by rw [if_neg (show ¬ (false = true) by decide)] at H;exact H
       clear H
       have H:=H1
       clear H1
       have H':=Aside0.mk H
       clear H
       have hcz68_0 : wc.cell? ⟨gb430,0,none⟩ = some (.int .i64 t412):=(blk_cell BK430.out 0).trans rfl
       have hcz68_1 : wc.cell? ⟨gb430,1,none⟩ = some (.slice Ao10 t413.length co10):=(blk_cell BK430.out 1).trans rfl
       have hcz68_2 : wc.cell? ⟨gb430,2,none⟩ = some (.slice Ao11 t416.length co11):=(blk_cell BK430.out 2).trans rfl
       have hcz68_3 : wc.cell? ⟨gb430,3,none⟩ = some (.int .i64 t419):=(blk_cell BK430.out 3).trans rfl
       have hcz68_4 : wc.cell? ⟨gb430,4,none⟩ = some (.int .i64 t420):=(blk_cell BK430.out 4).trans rfl
       have hcz68_5 : wc.cell? ⟨gb430,5,none⟩ = some (.int .i64 t421):=(blk_cell BK430.out 5).trans rfl
       have hcz68_6 : wc.cell? ⟨gb430,6,none⟩ = some (.int .i64 t422):=(blk_cell BK430.out 6).trans rfl
       have hcz68_7 : wc.cell? ⟨gb430,7,none⟩ = some (.int .i64 t423):=(blk_cell BK430.out 7).trans rfl
       have hcz68_8 : wc.cell? ⟨gb430,8,none⟩ = some (.slice Ao12 t424.length co12):=(blk_cell BK430.out 8).trans rfl
       have hcz68_9 : wc.cell? ⟨gb430,9,none⟩ = some (.int .i64 t427):=(blk_cell BK430.out 9).trans rfl
       have hfz68_0:=blk_frozen BK430.out 0
       have hfz68_1:=blk_frozen BK430.out 1
       have hfz68_2:=blk_frozen BK430.out 2
       have hfz68_3:=blk_frozen BK430.out 3
       have hfz68_4:=blk_frozen BK430.out 4
       have hfz68_5:=blk_frozen BK430.out 5
       have hfz68_6:=blk_frozen BK430.out 6
       have hfz68_7:=blk_frozen BK430.out 7
       have hfz68_8:=blk_frozen BK430.out 8
       have hfz68_9:=blk_frozen BK430.out 9
       go_wp2_with (first|((with_reducible refine gate_callee (f:=8) rfl ?_);refine goesL_ (some 51) rfl rfl Try.func8 (by kernel_rfl) rfl #[.agg #[.int .i64 t412,.slice Ao10 t413.length co10,.slice Ao11 t416.length co11,.int .i64 t419,.int .i64 t420,.int .i64 t421,.int .i64 t422,.int .i64 t423,.slice Ao12 t424.length co12,.int .i64 t427]] rfl (by (try simp only [List.map_toArray,List.map_cons,List.map_nil]);first|done|rfl|(simp only [List.length_drop,List.length_take];rfl)) ?_;(with_reducible refine (impl_IsSky.calls kj5 t412 _ _ t413 _ _ t416 t419 t420 t421 t422 t423 _ _ t424 t427 false _ ?side1 ?side2 ?side3 ?side4 ?side5 ?side6 A64.out).mono ?_);(case side1 => repeat (first|exact (Kd.R_reads' HO_431001.out).2.2|(with_reducible refine Kd.C_alloc ?_ _)|(with_reducible refine Kd.C_drewN ?_ _)|(with_reducible refine Kd.C_drew ?_)));(case side2 => exact (Kd.R_reads' HO_431001.out).2.1);(case side3 => repeat (first|exact (Kd.R_reads' HO_431002.out).2.2|(with_reducible refine Kd.C_alloc ?_ _)|(with_reducible refine Kd.C_drewN ?_ _)|(with_reducible refine Kd.C_drew ?_)));(case side4 => exact (Kd.R_reads' HO_431002.out).2.1);(case side5 => repeat (first|exact (Kd.R_reads' HO_431008.out).2.2|(with_reducible refine Kd.C_alloc ?_ _)|(with_reducible refine Kd.C_drewN ?_ _)|(with_reducible refine Kd.C_drew ?_)));(case side6 => exact (Kd.R_reads' HO_431008.out).2.1);rintro e w69 ⟨rfl,hb⟩;refine ⟨_,rfl,?_⟩;replace HO_431001:=Aside0.mk (Kd.R_below (by (with_reducible repeat (first|apply Kd.R_alloc|apply Kd.R_drewN|apply Kd.R_drew));exact HO_431001.out) hb);replace HO_431002:=Aside0.mk (Kd.R_below (by (with_reducible repeat (first|apply Kd.R_alloc|apply Kd.R_drewN|apply Kd.R_drew));exact HO_431002.out) hb);replace HO_431008:=Aside0.mk (Kd.R_below (by (with_reducible repeat (first|apply Kd.R_alloc|apply Kd.R_drewN|apply Kd.R_drew));exact HO_431008.out) hb);replace BK430:=Aside0.mk (blk_below (g:=gb430) (o:=.cells #[.int .i64 t412,.slice Ao10 t413.length co10,.slice Ao11 t416.length co11,.int .i64 t419,.int .i64 t420,.int .i64 t421,.int .i64 t422,.int .i64 t423,.slice Ao12 t424.length co12,.int .i64 t427] 28 (0,0)) (by (with_reducible repeat (first|refine blk_drewN ?_ _|refine blk_drew ?_|refine blk_alloc ?_ _));exact BK430.out) hb);replace HB:=Aside0.mk (below_step (by repeat (first|(with_reducible first|exact HB.out|apply below_alloc|apply pw_below_drewN|apply below_drew1|refine below_set ?_ GE430.out)|exact HB.out)) hb);(try clear hb);(try clear hb2);(try clear hk);(try clear hi)))
       go_meet
       case rel => exact ⟨_,(false),(by first|rfl|(simp;done)|(simp [*];done)),H',⟨by have:=HJ5.out;first|omega|exact Nat.le_refl _⟩,⟨by (with_reducible repeat (first|apply Kd.R_alloc|apply Kd.R_drewN|apply Kd.R_drew));exact HO_431001.out⟩,⟨by (with_reducible repeat (first|apply Kd.R_alloc|apply Kd.R_drewN|apply Kd.R_drew));exact HO_431002.out⟩,⟨by (with_reducible repeat (first|apply Kd.R_alloc|apply Kd.R_drewN|apply Kd.R_drew));exact HO_431008.out⟩,⟨by (with_reducible repeat (first|refine blk_drewN ?_ _|refine blk_drew ?_|refine blk_alloc ?_ _));exact BK430.out⟩,⟨by repeat (first|(with_reducible first|exact HB.out|apply below_alloc|apply pw_below_drewN|apply below_drew1|refine below_set ?_ GE430.out)|exact HB.out)⟩⟩
     case rest =>
      clear HC63
      try clear c3
      try clear c62
      try clear hcz9_0
      try clear hcz9_1
      try clear hcz9_2
      try clear hcz9_3
      try clear hcz9_4
      try clear hcz9_5
      try clear hcz9_6
      try clear hcz9_7
      try clear hcz9_8
      try clear hcz9_9
      try clear hfz9_0
      try clear hfz9_1
      try clear hfz9_2
      try clear hfz9_3
      try clear hfz9_4
      try clear hfz9_5
      try clear hfz9_6
      try clear hfz9_7
      try clear hfz9_8
      try clear hfz9_9
      obtain ⟨kq,x55_62,rfl,HA,HJ62,HO_431001,HO_431002,HO_431008,BK430,HB⟩:=hcut
      cases kq with
      | zero => exact absurd HA.out (by simp [laws_FnSkies.j1])
      | succ kj62 =>
       have H:=HA.out
       clear HA
       simp only [laws_FnSkies.j1] at H
       by_cases c70 : x55_62 = true
       ·subst c70
        have H1 : (some false) = some r:=by rw [if_pos rfl] at H;exact H
        clear H
        have H:=H1
        clear H1
        obtain rfl:=Option.some.inj H
        go_wp2
        go_ret
        exact ⟨by first|rfl|(simp [errW_none,errW_some] <;> rfl)|(simp [*,errW_none,errW_some] <;> rfl),by repeat (first|(with_reducible first|exact HB.out|apply below_alloc|apply pw_below_drewN|apply below_drew1|refine below_set ?_ GE430.out)|exact HB.out)⟩
       ·replace c70:=Bool.eq_false_iff.mpr c70
        subst c70
        have H1 : (laws_FnSkies.l0 kj62 0 (-1) t412 t413 t416 t419 t420 t421 t422 t423 t424 t427) = some r:=by rw [if_neg (show ¬ (false = true) by decide)] at H;exact H
        clear H
        have H:=H1
        clear H1
        have H':=Aside0.mk H
        clear H
        go_wp2
        go_loopg [7,8] kj62 (fun kq v7 v8 w' => ∃ (x7_3 : Int) (x8_3 : Int),v7 = .int .i64 x7_3 ∧ v8 = .int .i64 x8_3 ∧ Aside0 (laws_FnSkies.l0 kq x7_3 x8_3 t412 t413 t416 t419 t420 t421 t422 t423 t424 t427 = some r) ∧ Aside0 (kq ≤ kj62) ∧ Aside0 (Kd.R k43 43 w' w.heap.size (fun _ => True) (.slice Ao10 t413.length co10) t413) ∧ Aside0 (Kd.R k46 46 w' w.heap.size (fun _ => True) (.slice Ao11 t416.length co11) t416) ∧ Aside0 (Kd.R k50 50 w' w.heap.size (fun _ => True) (.slice Ao12 t424.length co12) t424) ∧ Aside0 (w'.heap[gb430]? = some (.cells #[.int .i64 t412,(.slice Ao10 t413.length co10),(.slice Ao11 t416.length co11),.int .i64 t419,.int .i64 t420,.int .i64 t421,.int .i64 t422,.int .i64 t423,(.slice Ao12 t424.length co12),.int .i64 t427] 28 (0,0))) ∧ Aside0 (Below w.heap.size w w'))
        case atStart => exact ⟨(0),((-1)),(by first|rfl|(simp;done)|(simp [*];done)),(by first|rfl|(simp;done)|(simp [*];done)),H',⟨Nat.le_refl _⟩,⟨by (with_reducible repeat (first|apply Kd.R_alloc|apply Kd.R_drewN|apply Kd.R_drew));exact HO_431001.out⟩,⟨by (with_reducible repeat (first|apply Kd.R_alloc|apply Kd.R_drewN|apply Kd.R_drew));exact HO_431002.out⟩,⟨by (with_reducible repeat (first|apply Kd.R_alloc|apply Kd.R_drewN|apply Kd.R_drew));exact HO_431008.out⟩,⟨by (with_reducible repeat (first|refine blk_drewN ?_ _|refine blk_drew ?_|refine blk_alloc ?_ _));exact BK430.out⟩,⟨by repeat (first|(with_reducible first|exact HB.out|apply below_alloc|apply pw_below_drewN|apply below_drew1|refine below_set ?_ GE430.out)|exact HB.out)⟩⟩
        case round =>
         clear H'
         try clear c3
         try clear c62
         try clear c70
         try clear hcz9_0
         try clear hcz9_1
         try clear hcz9_2
         try clear hcz9_3
         try clear hcz9_4
         try clear hcz9_5
         try clear hcz9_6
         try clear hcz9_7
         try clear hcz9_8
         try clear hcz9_9
         try clear hfz9_0
         try clear hfz9_1
         try clear hfz9_2
         try clear hfz9_3
         try clear hfz9_4
         try clear hfz9_5
         try clear hfz9_6
         try clear hfz9_7
         try clear hfz9_8
         try clear hfz9_9
         obtain ⟨x7_3,x8_3,rfl,rfl,HA,HK3,HO_431001,HO_431002,HO_431008,BK430,HB⟩:=hrel
         cases gk with
         | zero => exact absurd HA.out (by simp [laws_FnSkies.l0])
         | succ k3 =>
          have H:=HA.out
          clear HA
          simp only [laws_FnSkies.l0] at H
          by_cases c71 : x8_3 ≤ 12
          ·rw [if_pos c71] at H
           have c71b0 : decide (x8_3 ≤ 12) = true:=decide_eq_true c71
           clear c71
           replace H:=Option.bind_eq_some_iff.mp H
           obtain ⟨t438,A720,H⟩:=H
           replace H : (if t438 = true then (laws_FnSkies.j3 k3 (wrap64 (x7_3 + 1)) x8_3 t412 t413 t416 t419 t420 t421 t422 t423 t424 t427) else (laws_FnSkies.j3 k3 x7_3 x8_3 t412 t413 t416 t419 t420 t421 t422 t423 t424 t427)) = some r:=H
           have A72:=Aside0.mk A720
           clear A720
           have HC73:=Aside0.mk H
           clear H
           have hcz74_0 : wr.cell? ⟨gb430,0,none⟩ = some (.int .i64 t412):=(blk_cell BK430.out 0).trans rfl
           have hcz74_1 : wr.cell? ⟨gb430,1,none⟩ = some (.slice Ao10 t413.length co10):=(blk_cell BK430.out 1).trans rfl
           have hcz74_2 : wr.cell? ⟨gb430,2,none⟩ = some (.slice Ao11 t416.length co11):=(blk_cell BK430.out 2).trans rfl
           have hcz74_3 : wr.cell? ⟨gb430,3,none⟩ = some (.int .i64 t419):=(blk_cell BK430.out 3).trans rfl
           have hcz74_4 : wr.cell? ⟨gb430,4,none⟩ = some (.int .i64 t420):=(blk_cell BK430.out 4).trans rfl
           have hcz74_5 : wr.cell? ⟨gb430,5,none⟩ = some (.int .i64 t421):=(blk_cell BK430.out 5).trans rfl
           have hcz74_6 : wr.cell? ⟨gb430,6,none⟩ = some (.int .i64 t422):=(blk_cell BK430.out 6).trans rfl
           have hcz74_7 : wr.cell? ⟨gb430,7,none⟩ = some (.int .i64 t423):=(blk_cell BK430.out 7).trans rfl
           have hcz74_8 : wr.cell? ⟨gb430,8,none⟩ = some (.slice Ao12 t424.length co12):=(blk_cell BK430.out 8).trans rfl
           have hcz74_9 : wr.cell? ⟨gb430,9,none⟩ = some (.int .i64 t427):=(blk_cell BK430.out 9).trans rfl
           have hfz74_0:=blk_frozen BK430.out 0
           have hfz74_1:=blk_frozen BK430.out 1
           have hfz74_2:=blk_frozen BK430.out 2
           have hfz74_3:=blk_frozen BK430.out 3
           have hfz74_4:=blk_frozen BK430.out 4
           have hfz74_5:=blk_frozen BK430.out 5
           have hfz74_6:=blk_frozen BK430.out 6
           have hfz74_7:=blk_frozen BK430.out 7
           have hfz74_8:=blk_frozen BK430.out 8
           have hfz74_9:=blk_frozen BK430.out 9
           go_upto_if 62 with (first|((with_reducible refine gate_callee (f:=7) rfl ?_);refine goesL_ (some 62) rfl rfl Try.func7 (by kernel_rfl) rfl #[.agg #[.int .i64 t412,.slice Ao10 t413.length co10,.slice Ao11 t416.length co11,.int .i64 t419,.int .i64 t420,.int .i64 t421,.int .i64 t422,.int .i64 t423,.slice Ao12 t424.length co12,.int .i64 t427],.int .i64 x8_3] rfl (by (try simp only [List.map_toArray,List.map_cons,List.map_nil]);first|done|rfl|(simp only [List.length_drop,List.length_take];rfl)) ?_;(with_reducible refine (impl_IsSite.calls t412 _ _ t413 _ _ t416 t419 t420 t421 t422 t423 _ _ t424 t427 x8_3 t438 _ ?side1 ?side2 ?side3 ?side4 ?side5 ?side6 A72.out).mono ?_);(case side1 => repeat (first|exact (Kd.R_reads' HO_431001.out).2.2|(with_reducible refine Kd.C_alloc ?_ _)|(with_reducible refine Kd.C_drewN ?_ _)|(with_reducible refine Kd.C_drew ?_)));(case side2 => exact (Kd.R_reads' HO_431001.out).2.1);(case side3 => repeat (first|exact (Kd.R_reads' HO_431002.out).2.2|(with_reducible refine Kd.C_alloc ?_ _)|(with_reducible refine Kd.C_drewN ?_ _)|(with_reducible refine Kd.C_drew ?_)));(case side4 => exact (Kd.R_reads' HO_431002.out).2.1);(case side5 => repeat (first|exact (Kd.R_reads' HO_431008.out).2.2|(with_reducible refine Kd.C_alloc ?_ _)|(with_reducible refine Kd.C_drewN ?_ _)|(with_reducible refine Kd.C_drew ?_)));(case side6 => exact (Kd.R_reads' HO_431008.out).2.1);rintro e w75 ⟨rfl,hb⟩;refine ⟨_,rfl,?_⟩;replace HO_431001:=Aside0.mk (Kd.R_below (by (with_reducible repeat (first|apply Kd.R_alloc|apply Kd.R_drewN|apply Kd.R_drew));exact HO_431001.out) hb);replace HO_431002:=Aside0.mk (Kd.R_below (by (with_reducible repeat (first|apply Kd.R_alloc|apply Kd.R_drewN|apply Kd.R_drew));exact HO_431002.out) hb);replace HO_431008:=Aside0.mk (Kd.R_below (by (with_reducible repeat (first|apply Kd.R_alloc|apply Kd.R_drewN|apply Kd.R_drew));exact HO_431008.out) hb);replace BK430:=Aside0.mk (blk_below (g:=gb430) (o:=.cells #[.int .i64 t412,.slice Ao10 t413.length co10,.slice Ao11 t416.length co11,.int .i64 t419,.int .i64 t420,.int .i64 t421,.int .i64 t422,.int .i64 t423,.slice Ao12 t424.length co12,.int .i64 t427] 28 (0,0)) (by (with_reducible repeat (first|refine blk_drewN ?_ _|refine blk_drew ?_|refine blk_alloc ?_ _));exact BK430.out) hb);replace HB:=Aside0.mk (below_step (by repeat (first|(with_reducible first|exact HB.out|apply below_alloc|apply pw_below_drewN|apply below_drew1|refine below_set ?_ GE430.out)|exact HB.out)) hb);(try clear hb);(try clear hb2);(try clear hk);(try clear hi)))
           (try simp only [Act.put,List.setIfInBounds_toArray,List.set_cons_zero,List.set_cons_succ])
           go_cut [7] (fun v7 wc => ∃ (kq : Nat) (x7_72 : Int),v7 = .int .i64 x7_72 ∧ Aside0 (laws_FnSkies.j3 kq x7_72 x8_3 t412 t413 t416 t419 t420 t421 t422 t423 t424 t427 = some r) ∧ Aside0 (kq ≤ k3) ∧ Aside0 (Kd.R k43 43 wc w.heap.size (fun _ => True) (.slice Ao10 t413.length co10) t413) ∧ Aside0 (Kd.R k46 46 wc w.heap.size (fun _ => True) (.slice Ao11 t416.length co11) t416) ∧ Aside0 (Kd.R k50 50 wc w.heap.size (fun _ => True) (.slice Ao12 t424.length co12) t424) ∧ Aside0 (wc.heap[gb430]? = some (.cells #[.int .i64 t412,(.slice Ao10 t413.length co10),(.slice Ao11 t416.length co11),.int .i64 t419,.int .i64 t420,.int .i64 t421,.int .i64 t422,.int .i64 t423,(.slice Ao12 t424.length co12),.int .i64 t427] 28 (0,0))) ∧ Aside0 (Below w.heap.size w wc))
           case first =>
            have H:=HC73.out
            clear HC73
            by_cases c76 : t438 = true
            ·subst c76
             have H1 : (laws_FnSkies.j3 k3 (wrap64 (x7_3 + 1)) x8_3 t412 t413 t416 t419 t420 t421 t422 t423 t424 t427) = some r:=by rw [if_pos rfl] at H;exact H
             clear H
             have H:=H1
             clear H1
             have H':=Aside0.mk H
             clear H
             go_wp2
             go_meet
             case rel => exact ⟨_,(wrap64 (x7_3 + 1)),(by first|rfl|(simp;done)|(simp [*];done)),H',⟨by have:=HJ5.out;have:=HJ62.out;have:=HK3.out;first|omega|exact Nat.le_refl _⟩,⟨by (with_reducible repeat (first|apply Kd.R_alloc|apply Kd.R_drewN|apply Kd.R_drew));exact HO_431001.out⟩,⟨by (with_reducible repeat (first|apply Kd.R_alloc|apply Kd.R_drewN|apply Kd.R_drew));exact HO_431002.out⟩,⟨by (with_reducible repeat (first|apply Kd.R_alloc|apply Kd.R_drewN|apply Kd.R_drew));exact HO_431008.out⟩,⟨by (with_reducible repeat (first|refine blk_drewN ?_ _|refine blk_drew ?_|refine blk_alloc ?_ _));exact BK430.out⟩,⟨by repeat (first|(with_reducible first|exact HB.out|apply below_alloc|apply pw_below_drewN|apply below_drew1|refine below_set ?_ GE430.out)|exact HB.out)⟩⟩
            ·replace c76:=Bool.eq_false_iff.mpr c76
             subst c76
             have H1 : (laws_FnSkies.j3 k3 x7_3 x8_3 t412 t413 t416 t419 t420 t421 t422 t423 t424 t427) = some r:=by rw [if_neg (show ¬ (false = true) by decide)] at H;exact H
             clear H
             have H:=H1
             clear H1
             have H':=Aside0.mk H
             clear H
             go_wp2
             go_meet
             case rel => exact ⟨_,(x7_3),(by first|rfl|(simp;done)|(simp [*];done)),H',⟨by have:=HJ5.out;have:=HJ62.out;have:=HK3.out;first|omega|exact Nat.le_refl _⟩,⟨by (with_reducible repeat (first|apply Kd.R_alloc|apply Kd.R_drewN|apply Kd.R_drew));exact HO_431001.out⟩,⟨by (with_reducible repeat (first|apply Kd.R_alloc|apply Kd.R_drewN|apply Kd.R_drew));exact HO_431002.out⟩,⟨by (with_reducible repeat (first|apply Kd.R_alloc|apply Kd.R_drewN|apply Kd.R_drew));exact HO_431008.out⟩,⟨by (with_reducible repeat (first|refine blk_drewN ?_ _|refine blk_drew ?_|refine blk_alloc ?_ _));exact BK430.out⟩,⟨by repeat (first|(with_reducible first|exact HB.out|apply below_alloc|apply pw_below_drewN|apply below_drew1|refine below_set ?_ GE430.out)|exact HB.out)⟩⟩
           case rest =>
            clear HC73
            try clear c3
            try clear c62
            try clear c70
            try clear c71
            try clear c71b0
            try clear hcz74_0
            try clear hcz74_1
            try clear hcz74_2
            try clear hcz74_3
            try clear hcz74_4
            try clear hcz74_5
            try clear hcz74_6
            try clear hcz74_7
            try clear hcz74_8
            try clear hcz74_9
            try clear hcz9_0
            try clear hcz9_1
            try clear hcz9_2
            try clear hcz9_3
            try clear hcz9_4
            try clear hcz9_5
            try clear hcz9_6
            try clear hcz9_7
            try clear hcz9_8
            try clear hcz9_9
            try clear hfz74_0
            try clear hfz74_1
            try clear hfz74_2
            try clear hfz74_3
            try clear hfz74_4
            try clear hfz74_5
            try clear hfz74_6
            try clear hfz74_7
            try clear hfz74_8
            try clear hfz74_9
            try clear hfz9_0
            try clear hfz9_1
            try clear hfz9_2
            try clear hfz9_3
            try clear hfz9_4
            try clear hfz9_5
            try clear hfz9_6
            try clear hfz9_7
            try clear hfz9_8
            try clear hfz9_9
            obtain ⟨kq,x7_72,rfl,HA,HJ72,HO_431001,HO_431002,HO_431008,BK430,HB⟩:=hcut
            cases kq with
            | zero => exact absurd HA.out (by simp [laws_FnSkies.j3])
            | succ kj72 =>
             have H:=HA.out
             clear HA
             simp only [laws_FnSkies.j3] at H
             replace H:=Option.bind_eq_some_iff.mp H
             obtain ⟨t439,A770,H⟩:=H
             replace H : (if t439 = (-1) then ((impl_IsSky.f kj72 t412 t413 t416 t419 t420 t421 t422 t423 t424 t427).bind fun t440 => (if t440 = true then (if x8_3 ≥ 0 then ((impl_NodesOf.f t412 t413 t416 t419 t420 t421 t422 t423 t424 t427).bind fun t441 => (if x8_3 < t441 then (some false) else (laws_FnSkies.l0 kj72 x7_72 (wrap64 (x8_3 + 1)) t412 t413 t416 t419 t420 t421 t422 t423 t424 t427))) else (laws_FnSkies.l0 kj72 x7_72 (wrap64 (x8_3 + 1)) t412 t413 t416 t419 t420 t421 t422 t423 t424 t427)) else (laws_FnSkies.l0 kj72 x7_72 (wrap64 (x8_3 + 1)) t412 t413 t416 t419 t420 t421 t422 t423 t424 t427))) else (laws_FnSkies.l0 kj72 x7_72 (wrap64 (x8_3 + 1)) t412 t413 t416 t419 t420 t421 t422 t423 t424 t427)) = some r:=H
             have A77:=Aside0.mk A770
             clear A770
             by_cases c78 : t439 = (-1)
             ·rw [if_pos c78] at H
              have c78b0 : (t439 == (-1)) = true:=beq_iff_eq.mpr c78
              have c78b1 : (t439 != (-1)) = false:=bne_eq_false_iff_eq.mpr c78
              clear c78
              replace H:=Option.bind_eq_some_iff.mp H
              obtain ⟨t440,A790,H⟩:=H
              replace H : (if t440 = true then (if x8_3 ≥ 0 then ((impl_NodesOf.f t412 t413 t416 t419 t420 t421 t422 t423 t424 t427).bind fun t441 => (if x8_3 < t441 then (some false) else (laws_FnSkies.l0 kj72 x7_72 (wrap64 (x8_3 + 1)) t412 t413 t416 t419 t420 t421 t422 t423 t424 t427))) else (laws_FnSkies.l0 kj72 x7_72 (wrap64 (x8_3 + 1)) t412 t413 t416 t419 t420 t421 t422 t423 t424 t427)) else (laws_FnSkies.l0 kj72 x7_72 (wrap64 (x8_3 + 1)) t412 t413 t416 t419 t420 t421 t422 t423 t424 t427)) = some r:=H
              have A79:=Aside0.mk A790
              clear A790
              by_cases c80 : t440 = true
              ·subst c80
               have H1 : (if x8_3 ≥ 0 then ((impl_NodesOf.f t412 t413 t416 t419 t420 t421 t422 t423 t424 t427).bind fun t441 => (if x8_3 < t441 then (some false) else (laws_FnSkies.l0 kj72 x7_72 (wrap64 (x8_3 + 1)) t412 t413 t416 t419 t420 t421 t422 t423 t424 t427))) else (laws_FnSkies.l0 kj72 x7_72 (wrap64 (x8_3 + 1)) t412 t413 t416 t419 t420 t421 t422 t423 t424 t427)) = some r:=by rw [if_pos rfl] at H;exact H
               clear H
               have H:=H1
               clear H1
               by_cases c81 : x8_3 ≥ 0
               ·rw [if_pos c81] at H
                have c81b0 : decide (0 ≤ x8_3) = true:=decide_eq_true c81
                clear c81
                replace H:=Option.bind_eq_some_iff.mp H
                obtain ⟨t441,A820,H⟩:=H
                replace H : (if x8_3 < t441 then (some false) else (laws_FnSkies.l0 kj72 x7_72 (wrap64 (x8_3 + 1)) t412 t413 t416 t419 t420 t421 t422 t423 t424 t427)) = some r:=H
                have A82:=Aside0.mk A820
                clear A820
                by_cases c83 : x8_3 < t441
                ·rw [if_pos c83] at H
                 have c83b0 : decide (x8_3 < t441) = true:=decide_eq_true c83
                 clear c83
                 obtain rfl:=Option.some.inj H
                 have hcz84_0 : wc.cell? ⟨gb430,0,none⟩ = some (.int .i64 t412):=(blk_cell BK430.out 0).trans rfl
                 have hcz84_1 : wc.cell? ⟨gb430,1,none⟩ = some (.slice Ao10 t413.length co10):=(blk_cell BK430.out 1).trans rfl
                 have hcz84_2 : wc.cell? ⟨gb430,2,none⟩ = some (.slice Ao11 t416.length co11):=(blk_cell BK430.out 2).trans rfl
                 have hcz84_3 : wc.cell? ⟨gb430,3,none⟩ = some (.int .i64 t419):=(blk_cell BK430.out 3).trans rfl
                 have hcz84_4 : wc.cell? ⟨gb430,4,none⟩ = some (.int .i64 t420):=(blk_cell BK430.out 4).trans rfl
                 have hcz84_5 : wc.cell? ⟨gb430,5,none⟩ = some (.int .i64 t421):=(blk_cell BK430.out 5).trans rfl
                 have hcz84_6 : wc.cell? ⟨gb430,6,none⟩ = some (.int .i64 t422):=(blk_cell BK430.out 6).trans rfl
                 have hcz84_7 : wc.cell? ⟨gb430,7,none⟩ = some (.int .i64 t423):=(blk_cell BK430.out 7).trans rfl
                 have hcz84_8 : wc.cell? ⟨gb430,8,none⟩ = some (.slice Ao12 t424.length co12):=(blk_cell BK430.out 8).trans rfl
                 have hcz84_9 : wc.cell? ⟨gb430,9,none⟩ = some (.int .i64 t427):=(blk_cell BK430.out 9).trans rfl
                 have hfz84_0:=blk_frozen BK430.out 0
                 have hfz84_1:=blk_frozen BK430.out 1
                 have hfz84_2:=blk_frozen BK430.out 2
                 have hfz84_3:=blk_frozen BK430.out 3
                 have hfz84_4:=blk_frozen BK430.out 4
                 have hfz84_5:=blk_frozen BK430.out 5
                 have hfz84_6:=blk_frozen BK430.out 6
                 have hfz84_7:=blk_frozen BK430.out 7
                 have hfz84_8:=blk_frozen BK430.out 8
                 have hfz84_9:=blk_frozen BK430.out 9
                 go_wp2_with (first|((with_reducible refine gate_callee (f:=9) rfl ?_);refine goesL_ (some 67) rfl rfl Try.func9 (by kernel_rfl) rfl #[.agg #[.int .i64 t412,.slice Ao10 t413.length co10,.slice Ao11 t416.length co11,.int .i64 t419,.int .i64 t420,.int .i64 t421,.int .i64 t422,.int .i64 t423,.slice Ao12 t424.length co12,.int .i64 t427],.int .i64 x8_3] rfl (by (try simp only [List.map_toArray,List.map_cons,List.map_nil]);first|done|rfl|(simp only [List.length_drop,List.length_take];rfl)) ?_;(with_reducible refine (impl_PlaneOf.calls t412 _ _ t413 _ _ t416 t419 t420 t421 t422 t423 _ _ t424 t427 x8_3 t439 _ ?side1 ?side2 ?side3 ?side4 ?side5 ?side6 A77.out).mono ?_);(case side1 => repeat (first|exact (Kd.R_reads' HO_431001.out).2.2|(with_reducible refine Kd.C_alloc ?_ _)|(with_reducible refine Kd.C_drewN ?_ _)|(with_reducible refine Kd.C_drew ?_)));(case side2 => exact (Kd.R_reads' HO_431001.out).2.1);(case side3 => repeat (first|exact (Kd.R_reads' HO_431002.out).2.2|(with_reducible refine Kd.C_alloc ?_ _)|(with_reducible refine Kd.C_drewN ?_ _)|(with_reducible refine Kd.C_drew ?_)));(case side4 => exact (Kd.R_reads' HO_431002.out).2.1);(case side5 => repeat (first|exact (Kd.R_reads' HO_431008.out).2.2|(with_reducible refine Kd.C_alloc ?_ _)|(with_reducible refine Kd.C_drewN ?_ _)|(with_reducible refine Kd.C_drew ?_)));(case side6 => exact (Kd.R_reads' HO_431008.out).2.1);rintro e w85 ⟨rfl,hb⟩;refine ⟨_,rfl,?_⟩;replace HO_431001:=Aside0.mk (Kd.R_below (by (with_reducible repeat (first|apply Kd.R_alloc|apply Kd.R_drewN|apply Kd.R_drew));exact HO_431001.out) hb);replace HO_431002:=Aside0.mk (Kd.R_below (by (with_reducible repeat (first|apply Kd.R_alloc|apply Kd.R_drewN|apply Kd.R_drew));exact HO_431002.out) hb);replace HO_431008:=Aside0.mk (Kd.R_below (by (with_reducible repeat (first|apply Kd.R_alloc|apply Kd.R_drewN|apply Kd.R_drew));exact HO_431008.out) hb);replace BK430:=Aside0.mk (blk_below (g:=gb430) (o:=.cells #[.int .i64 t412,.slice Ao10 t413.length co10,.slice Ao11 t416.length co11,.int .i64 t419,.int .i64 t420,.int .i64 t421,.int .i64 t422,.int .i64 t423,.slice Ao12 t424.length co12,.int .i64 t427] 28 (0,0)) (by (with_reducible repeat (first|refine blk_drewN ?_ _|refine blk_drew ?_|refine blk_alloc ?_ _));exact BK430.out) hb);replace HB:=Aside0.mk (below_step (by repeat (first|(with_reducible first|exact HB.out|apply below_alloc|apply pw_below_drewN|apply below_drew1|refine below_set ?_ GE430.out)|exact HB.out)) hb);(try clear hb);(try clear hb2);(try clear hk);(try clear hi);have hcz86_0 : w85.cell? ⟨gb430,0,none⟩ = some (.int .i64 t412):=(blk_cell BK430.out 0).trans rfl;have hcz86_1 : w85.cell? ⟨gb430,1,none⟩ = some (.slice Ao10 t413.length co10):=(blk_cell BK430.out 1).trans rfl;have hcz86_2 : w85.cell? ⟨gb430,2,none⟩ = some (.slice Ao11 t416.length co11):=(blk_cell BK430.out 2).trans rfl;have hcz86_3 : w85.cell? ⟨gb430,3,none⟩ = some (.int .i64 t419):=(blk_cell BK430.out 3).trans rfl;have hcz86_4 : w85.cell? ⟨gb430,4,none⟩ = some (.int .i64 t420):=(blk_cell BK430.out 4).trans rfl;have hcz86_5 : w85.cell? ⟨gb430,5,none⟩ = some (.int .i64 t421):=(blk_cell BK430.out 5).trans rfl;have hcz86_6 : w85.cell? ⟨gb430,6,none⟩ = some (.int .i64 t422):=(blk_cell BK430.out 6).trans rfl;have hcz86_7 : w85.cell? ⟨gb430,7,none⟩ = some (.int .i64 t423):=(blk_cell BK430.out 7).trans rfl;have hcz86_8 : w85.cell? ⟨gb430,8,none⟩ = some (.slice Ao12 t424.length co12):=(blk_cell BK430.out 8).trans rfl;have hcz86_9 : w85.cell? ⟨gb430,9,none⟩ = some (.int .i64 t427):=(blk_cell BK430.out 9).trans rfl;have hfz86_0:=blk_frozen BK430.out 0;have hfz86_1:=blk_frozen BK430.out 1;have hfz86_2:=blk_frozen BK430.out 2;have hfz86_3:=blk_frozen BK430.out 3;have hfz86_4:=blk_frozen BK430.out 4;have hfz86_5:=blk_frozen BK430.out 5;have hfz86_6:=blk_frozen BK430.out 6;have hfz86_7:=blk_frozen BK430.out 7;have hfz86_8:=blk_frozen BK430.out 8;have hfz86_9:=blk_frozen BK430.out 9)|(go_at_call 8;(with_reducible refine (impl_IsSky.calls kj72 t412 _ _ t413 _ _ t416 t419 t420 t421 t422 t423 _ _ t424 t427 true _ ?side1 ?side2 ?side3 ?side4 ?side5 ?side6 A79.out).mono ?_);(case side1 => repeat (first|exact (Kd.R_reads' HO_431001.out).2.2|(with_reducible refine Kd.C_alloc ?_ _)|(with_reducible refine Kd.C_drewN ?_ _)|(with_reducible refine Kd.C_drew ?_)));(case side2 => exact (Kd.R_reads' HO_431001.out).2.1);(case side3 => repeat (first|exact (Kd.R_reads' HO_431002.out).2.2|(with_reducible refine Kd.C_alloc ?_ _)|(with_reducible refine Kd.C_drewN ?_ _)|(with_reducible refine Kd.C_drew ?_)));(case side4 => exact (Kd.R_reads' HO_431002.out).2.1);(case side5 => repeat (first|exact (Kd.R_reads' HO_431008.out).2.2|(with_reducible refine Kd.C_alloc ?_ _)|(with_reducible refine Kd.C_drewN ?_ _)|(with_reducible refine Kd.C_drew ?_)));(case side6 => exact (Kd.R_reads' HO_431008.out).2.1);rintro e w87 ⟨rfl,hb⟩;replace HO_431001:=Aside0.mk (Kd.R_below (by (with_reducible repeat (first|apply Kd.R_alloc|apply Kd.R_drewN|apply Kd.R_drew));exact HO_431001.out) hb);replace HO_431002:=Aside0.mk (Kd.R_below (by (with_reducible repeat (first|apply Kd.R_alloc|apply Kd.R_drewN|apply Kd.R_drew));exact HO_431002.out) hb);replace HO_431008:=Aside0.mk (Kd.R_below (by (with_reducible repeat (first|apply Kd.R_alloc|apply Kd.R_drewN|apply Kd.R_drew));exact HO_431008.out) hb);replace BK430:=Aside0.mk (blk_below (g:=gb430) (o:=.cells #[.int .i64 t412,.slice Ao10 t413.length co10,.slice Ao11 t416.length co11,.int .i64 t419,.int .i64 t420,.int .i64 t421,.int .i64 t422,.int .i64 t423,.slice Ao12 t424.length co12,.int .i64 t427] 28 (0,0)) (by (with_reducible repeat (first|refine blk_drewN ?_ _|refine blk_drew ?_|refine blk_alloc ?_ _));exact BK430.out) hb);replace HB:=Aside0.mk (below_step (by repeat (first|(with_reducible first|exact HB.out|apply below_alloc|apply pw_below_drewN|apply below_drew1|refine below_set ?_ GE430.out)|exact HB.out)) hb);(try clear hb);(try clear hb2);(try clear hk);(try clear hi);have hcz88_0 : w87.cell? ⟨gb430,0,none⟩ = some (.int .i64 t412):=(blk_cell BK430.out 0).trans rfl;have hcz88_1 : w87.cell? ⟨gb430,1,none⟩ = some (.slice Ao10 t413.length co10):=(blk_cell BK430.out 1).trans rfl;have hcz88_2 : w87.cell? ⟨gb430,2,none⟩ = some (.slice Ao11 t416.length co11):=(blk_cell BK430.out 2).trans rfl;have hcz88_3 : w87.cell? ⟨gb430,3,none⟩ = some (.int .i64 t419):=(blk_cell BK430.out 3).trans rfl;have hcz88_4 : w87.cell? ⟨gb430,4,none⟩ = some (.int .i64 t420):=(blk_cell BK430.out 4).trans rfl;have hcz88_5 : w87.cell? ⟨gb430,5,none⟩ = some (.int .i64 t421):=(blk_cell BK430.out 5).trans rfl;have hcz88_6 : w87.cell? ⟨gb430,6,none⟩ = some (.int .i64 t422):=(blk_cell BK430.out 6).trans rfl;have hcz88_7 : w87.cell? ⟨gb430,7,none⟩ = some (.int .i64 t423):=(blk_cell BK430.out 7).trans rfl;have hcz88_8 : w87.cell? ⟨gb430,8,none⟩ = some (.slice Ao12 t424.length co12):=(blk_cell BK430.out 8).trans rfl;have hcz88_9 : w87.cell? ⟨gb430,9,none⟩ = some (.int .i64 t427):=(blk_cell BK430.out 9).trans rfl;have hfz88_0:=blk_frozen BK430.out 0;have hfz88_1:=blk_frozen BK430.out 1;have hfz88_2:=blk_frozen BK430.out 2;have hfz88_3:=blk_frozen BK430.out 3;have hfz88_4:=blk_frozen BK430.out 4;have hfz88_5:=blk_frozen BK430.out 5;have hfz88_6:=blk_frozen BK430.out 6;have hfz88_7:=blk_frozen BK430.out 7;have hfz88_8:=blk_frozen BK430.out 8;have hfz88_9:=blk_frozen BK430.out 9)|(go_at_call 10;(with_reducible refine (impl_NodesOf.calls t412 _ _ t413 _ _ t416 t419 t420 t421 t422 t423 _ _ t424 t427 t441 _ ?side1 ?side2 ?side3 ?side4 ?side5 ?side6 A82.out).mono ?_);(case side1 => repeat (first|exact (Kd.R_reads' HO_431001.out).2.2|(with_reducible refine Kd.C_alloc ?_ _)|(with_reducible refine Kd.C_drewN ?_ _)|(with_reducible refine Kd.C_drew ?_)));(case side2 => exact (Kd.R_reads' HO_431001.out).2.1);(case side3 => repeat (first|exact (Kd.R_reads' HO_431002.out).2.2|(with_reducible refine Kd.C_alloc ?_ _)|(with_reducible refine Kd.C_drewN ?_ _)|(with_reducible refine Kd.C_drew ?_)));(case side4 => exact (Kd.R_reads' HO_431002.out).2.1);(case side5 => repeat (first|exact (Kd.R_reads' HO_431008.out).2.2|(with_reducible refine Kd.C_alloc ?_ _)|(with_reducible refine Kd.C_drewN ?_ _)|(with_reducible refine Kd.C_drew ?_)));(case side6 => exact (Kd.R_reads' HO_431008.out).2.1);rintro e w89 ⟨rfl,hb⟩;replace HO_431001:=Aside0.mk (Kd.R_below (by (with_reducible repeat (first|apply Kd.R_alloc|apply Kd.R_drewN|apply Kd.R_drew));exact HO_431001.out) hb);replace HO_431002:=Aside0.mk (Kd.R_below (by (with_reducible repeat (first|apply Kd.R_alloc|apply Kd.R_drewN|apply Kd.R_drew));exact HO_431002.out) hb);replace HO_431008:=Aside0.mk (Kd.R_below (by (with_reducible repeat (first|apply Kd.R_alloc|apply Kd.R_drewN|apply Kd.R_drew));exact HO_431008.out) hb);replace BK430:=Aside0.mk (blk_below (g:=gb430) (o:=.cells #[.int .i64 t412,.slice Ao10 t413.length co10,.slice Ao11 t416.length co11,.int .i64 t419,.int .i64 t420,.int .i64 t421,.int .i64 t422,.int .i64 t423,.slice Ao12 t424.length co12,.int .i64 t427] 28 (0,0)) (by (with_reducible repeat (first|refine blk_drewN ?_ _|refine blk_drew ?_|refine blk_alloc ?_ _));exact BK430.out) hb);replace HB:=Aside0.mk (below_step (by repeat (first|(with_reducible first|exact HB.out|apply below_alloc|apply pw_below_drewN|apply below_drew1|refine below_set ?_ GE430.out)|exact HB.out)) hb);(try clear hb);(try clear hb2);(try clear hk);(try clear hi)))
                 go_ret
                 exact ⟨by first|rfl|(simp [errW_none,errW_some] <;> rfl)|(simp [*,errW_none,errW_some] <;> rfl),by repeat (first|(with_reducible first|exact HB.out|apply below_alloc|apply pw_below_drewN|apply below_drew1|refine below_set ?_ GE430.out)|exact HB.out)⟩
                ·rw [if_neg c83] at H
                 have c83b0 : decide (x8_3 < t441) = false:=decide_eq_false c83
                 clear c83
                 have H':=Aside0.mk H
                 clear H
                 have hcz90_0 : wc.cell? ⟨gb430,0,none⟩ = some (.int .i64 t412):=(blk_cell BK430.out 0).trans rfl
                 have hcz90_1 : wc.cell? ⟨gb430,1,none⟩ = some (.slice Ao10 t413.length co10):=(blk_cell BK430.out 1).trans rfl
                 have hcz90_2 : wc.cell? ⟨gb430,2,none⟩ = some (.slice Ao11 t416.length co11):=(blk_cell BK430.out 2).trans rfl
                 have hcz90_3 : wc.cell? ⟨gb430,3,none⟩ = some (.int .i64 t419):=(blk_cell BK430.out 3).trans rfl
                 have hcz90_4 : wc.cell? ⟨gb430,4,none⟩ = some (.int .i64 t420):=(blk_cell BK430.out 4).trans rfl
                 have hcz90_5 : wc.cell? ⟨gb430,5,none⟩ = some (.int .i64 t421):=(blk_cell BK430.out 5).trans rfl
                 have hcz90_6 : wc.cell? ⟨gb430,6,none⟩ = some (.int .i64 t422):=(blk_cell BK430.out 6).trans rfl
                 have hcz90_7 : wc.cell? ⟨gb430,7,none⟩ = some (.int .i64 t423):=(blk_cell BK430.out 7).trans rfl
                 have hcz90_8 : wc.cell? ⟨gb430,8,none⟩ = some (.slice Ao12 t424.length co12):=(blk_cell BK430.out 8).trans rfl
                 have hcz90_9 : wc.cell? ⟨gb430,9,none⟩ = some (.int .i64 t427):=(blk_cell BK430.out 9).trans rfl
                 have hfz90_0:=blk_frozen BK430.out 0
                 have hfz90_1:=blk_frozen BK430.out 1
                 have hfz90_2:=blk_frozen BK430.out 2
                 have hfz90_3:=blk_frozen BK430.out 3
                 have hfz90_4:=blk_frozen BK430.out 4
                 have hfz90_5:=blk_frozen BK430.out 5
                 have hfz90_6:=blk_frozen BK430.out 6
                 have hfz90_7:=blk_frozen BK430.out 7
                 have hfz90_8:=blk_frozen BK430.out 8
                 have hfz90_9:=blk_frozen BK430.out 9
                 go_wp2_with (first|((with_reducible refine gate_callee (f:=9) rfl ?_);refine goesL_ (some 67) rfl rfl Try.func9 (by kernel_rfl) rfl #[.agg #[.int .i64 t412,.slice Ao10 t413.length co10,.slice Ao11 t416.length co11,.int .i64 t419,.int .i64 t420,.int .i64 t421,.int .i64 t422,.int .i64 t423,.slice Ao12 t424.length co12,.int .i64 t427],.int .i64 x8_3] rfl (by (try simp only [List.map_toArray,List.map_cons,List.map_nil]);first|done|rfl|(simp only [List.length_drop,List.length_take];rfl)) ?_;(with_reducible refine (impl_PlaneOf.calls t412 _ _ t413 _ _ t416 t419 t420 t421 t422 t423 _ _ t424 t427 x8_3 t439 _ ?side1 ?side2 ?side3 ?side4 ?side5 ?side6 A77.out).mono ?_);(case side1 => repeat (first|exact (Kd.R_reads' HO_431001.out).2.2|(with_reducible refine Kd.C_alloc ?_ _)|(with_reducible refine Kd.C_drewN ?_ _)|(with_reducible refine Kd.C_drew ?_)));(case side2 => exact (Kd.R_reads' HO_431001.out).2.1);(case side3 => repeat (first|exact (Kd.R_reads' HO_431002.out).2.2|(with_reducible refine Kd.C_alloc ?_ _)|(with_reducible refine Kd.C_drewN ?_ _)|(with_reducible refine Kd.C_drew ?_)));(case side4 => exact (Kd.R_reads' HO_431002.out).2.1);(case side5 => repeat (first|exact (Kd.R_reads' HO_431008.out).2.2|(with_reducible refine Kd.C_alloc ?_ _)|(with_reducible refine Kd.C_drewN ?_ _)|(with_reducible refine Kd.C_drew ?_)));(case side6 => exact (Kd.R_reads' HO_431008.out).2.1);rintro e w91 ⟨rfl,hb⟩;refine ⟨_,rfl,?_⟩;replace HO_431001:=Aside0.mk (Kd.R_below (by (with_reducible repeat (first|apply Kd.R_alloc|apply Kd.R_drewN|apply Kd.R_drew));exact HO_431001.out) hb);replace HO_431002:=Aside0.mk (Kd.R_below (by (with_reducible repeat (first|apply Kd.R_alloc|apply Kd.R_drewN|apply Kd.R_drew));exact HO_431002.out) hb);replace HO_431008:=Aside0.mk (Kd.R_below (by (with_reducible repeat (first|apply Kd.R_alloc|apply Kd.R_drewN|apply Kd.R_drew));exact HO_431008.out) hb);replace BK430:=Aside0.mk (blk_below (g:=gb430) (o:=.cells #[.int .i64 t412,.slice Ao10 t413.length co10,.slice Ao11 t416.length co11,.int .i64 t419,.int .i64 t420,.int .i64 t421,.int .i64 t422,.int .i64 t423,.slice Ao12 t424.length co12,.int .i64 t427] 28 (0,0)) (by (with_reducible repeat (first|refine blk_drewN ?_ _|refine blk_drew ?_|refine blk_alloc ?_ _));exact BK430.out) hb);replace HB:=Aside0.mk (below_step (by repeat (first|(with_reducible first|exact HB.out|apply below_alloc|apply pw_below_drewN|apply below_drew1|refine below_set ?_ GE430.out)|exact HB.out)) hb);(try clear hb);(try clear hb2);(try clear hk);(try clear hi);have hcz92_0 : w91.cell? ⟨gb430,0,none⟩ = some (.int .i64 t412):=(blk_cell BK430.out 0).trans rfl;have hcz92_1 : w91.cell? ⟨gb430,1,none⟩ = some (.slice Ao10 t413.length co10):=(blk_cell BK430.out 1).trans rfl;have hcz92_2 : w91.cell? ⟨gb430,2,none⟩ = some (.slice Ao11 t416.length co11):=(blk_cell BK430.out 2).trans rfl;have hcz92_3 : w91.cell? ⟨gb430,3,none⟩ = some (.int .i64 t419):=(blk_cell BK430.out 3).trans rfl;have hcz92_4 : w91.cell? ⟨gb430,4,none⟩ = some (.int .i64 t420):=(blk_cell BK430.out 4).trans rfl;have hcz92_5 : w91.cell? ⟨gb430,5,none⟩ = some (.int .i64 t421):=(blk_cell BK430.out 5).trans rfl;have hcz92_6 : w91.cell? ⟨gb430,6,none⟩ = some (.int .i64 t422):=(blk_cell BK430.out 6).trans rfl;have hcz92_7 : w91.cell? ⟨gb430,7,none⟩ = some (.int .i64 t423):=(blk_cell BK430.out 7).trans rfl;have hcz92_8 : w91.cell? ⟨gb430,8,none⟩ = some (.slice Ao12 t424.length co12):=(blk_cell BK430.out 8).trans rfl;have hcz92_9 : w91.cell? ⟨gb430,9,none⟩ = some (.int .i64 t427):=(blk_cell BK430.out 9).trans rfl;have hfz92_0:=blk_frozen BK430.out 0;have hfz92_1:=blk_frozen BK430.out 1;have hfz92_2:=blk_frozen BK430.out 2;have hfz92_3:=blk_frozen BK430.out 3;have hfz92_4:=blk_frozen BK430.out 4;have hfz92_5:=blk_frozen BK430.out 5;have hfz92_6:=blk_frozen BK430.out 6;have hfz92_7:=blk_frozen BK430.out 7;have hfz92_8:=blk_frozen BK430.out 8;have hfz92_9:=blk_frozen BK430.out 9)|(go_at_call 8;(with_reducible refine (impl_IsSky.calls kj72 t412 _ _ t413 _ _ t416 t419 t420 t421 t422 t423 _ _ t424 t427 true _ ?side1 ?side2 ?side3 ?side4 ?side5 ?side6 A79.out).mono ?_);(case side1 => repeat (first|exact (Kd.R_reads' HO_431001.out).2.2|(with_reducible refine Kd.C_alloc ?_ _)|(with_reducible refine Kd.C_drewN ?_ _)|(with_reducible refine Kd.C_drew ?_)));(case side2 => exact (Kd.R_reads' HO_431001.out).2.1);(case side3 => repeat (first|exact (Kd.R_reads' HO_431002.out).2.2|(with_reducible refine Kd.C_alloc ?_ _)|(with_reducible refine Kd.C_drewN ?_ _)|(with_reducible refine Kd.C_drew ?_)));(case side4 => exact (Kd.R_reads' HO_431002.out).2.1);(case side5 => repeat (first|exact (Kd.R_reads' HO_431008.out).2.2|(with_reducible refine Kd.C_alloc ?_ _)|(with_reducible refine Kd.C_drewN ?_ _)|(with_reducible refine Kd.C_drew ?_)));(case side6 => exact (Kd.R_reads' HO_431008.out).2.1);rintro e w93 ⟨rfl,hb⟩;replace HO_431001:=Aside0.mk (Kd.R_below (by (with_reducible repeat (first|apply Kd.R_alloc|apply Kd.R_drewN|apply Kd.R_drew));exact HO_431001.out) hb);replace HO_431002:=Aside0.mk (Kd.R_below (by (with_reducible repeat (first|apply Kd.R_alloc|apply Kd.R_drewN|apply Kd.R_drew));exact HO_431002.out) hb);replace HO_431008:=Aside0.mk (Kd.R_below (by (with_reducible repeat (first|apply Kd.R_alloc|apply Kd.R_drewN|apply Kd.R_drew));exact HO_431008.out) hb);replace BK430:=Aside0.mk (blk_below (g:=gb430) (o:=.cells #[.int .i64 t412,.slice Ao10 t413.length co10,.slice Ao11 t416.length co11,.int .i64 t419,.int .i64 t420,.int .i64 t421,.int .i64 t422,.int .i64 t423,.slice Ao12 t424.length co12,.int .i64 t427] 28 (0,0)) (by (with_reducible repeat (first|refine blk_drewN ?_ _|refine blk_drew ?_|refine blk_alloc ?_ _));exact BK430.out) hb);replace HB:=Aside0.mk (below_step (by repeat (first|(with_reducible first|exact HB.out|apply below_alloc|apply pw_below_drewN|apply below_drew1|refine below_set ?_ GE430.out)|exact HB.out)) hb);(try clear hb);(try clear hb2);(try clear hk);(try clear hi);have hcz94_0 : w93.cell? ⟨gb430,0,none⟩ = some (.int .i64 t412):=(blk_cell BK430.out 0).trans rfl;have hcz94_1 : w93.cell? ⟨gb430,1,none⟩ = some (.slice Ao10 t413.length co10):=(blk_cell BK430.out 1).trans rfl;have hcz94_2 : w93.cell? ⟨gb430,2,none⟩ = some (.slice Ao11 t416.length co11):=(blk_cell BK430.out 2).trans rfl;have hcz94_3 : w93.cell? ⟨gb430,3,none⟩ = some (.int .i64 t419):=(blk_cell BK430.out 3).trans rfl;have hcz94_4 : w93.cell? ⟨gb430,4,none⟩ = some (.int .i64 t420):=(blk_cell BK430.out 4).trans rfl;have hcz94_5 : w93.cell? ⟨gb430,5,none⟩ = some (.int .i64 t421):=(blk_cell BK430.out 5).trans rfl;have hcz94_6 : w93.cell? ⟨gb430,6,none⟩ = some (.int .i64 t422):=(blk_cell BK430.out 6).trans rfl;have hcz94_7 : w93.cell? ⟨gb430,7,none⟩ = some (.int .i64 t423):=(blk_cell BK430.out 7).trans rfl;have hcz94_8 : w93.cell? ⟨gb430,8,none⟩ = some (.slice Ao12 t424.length co12):=(blk_cell BK430.out 8).trans rfl;have hcz94_9 : w93.cell? ⟨gb430,9,none⟩ = some (.int .i64 t427):=(blk_cell BK430.out 9).trans rfl;have hfz94_0:=blk_frozen BK430.out 0;have hfz94_1:=blk_frozen BK430.out 1;have hfz94_2:=blk_frozen BK430.out 2;have hfz94_3:=blk_frozen BK430.out 3;have hfz94_4:=blk_frozen BK430.out 4;have hfz94_5:=blk_frozen BK430.out 5;have hfz94_6:=blk_frozen BK430.out 6;have hfz94_7:=blk_frozen BK430.out 7;have hfz94_8:=blk_frozen BK430.out 8;have hfz94_9:=blk_frozen BK430.out 9)|(go_at_call 10;(with_reducible refine (impl_NodesOf.calls t412 _ _ t413 _ _ t416 t419 t420 t421 t422 t423 _ _ t424 t427 t441 _ ?side1 ?side2 ?side3 ?side4 ?side5 ?side6 A82.out).mono ?_);(case side1 => repeat (first|exact (Kd.R_reads' HO_431001.out).2.2|(with_reducible refine Kd.C_alloc ?_ _)|(with_reducible refine Kd.C_drewN ?_ _)|(with_reducible refine Kd.C_drew ?_)));(case side2 => exact (Kd.R_reads' HO_431001.out).2.1);(case side3 => repeat (first|exact (Kd.R_reads' HO_431002.out).2.2|(with_reducible refine Kd.C_alloc ?_ _)|(with_reducible refine Kd.C_drewN ?_ _)|(with_reducible refine Kd.C_drew ?_)));(case side4 => exact (Kd.R_reads' HO_431002.out).2.1);(case side5 => repeat (first|exact (Kd.R_reads' HO_431008.out).2.2|(with_reducible refine Kd.C_alloc ?_ _)|(with_reducible refine Kd.C_drewN ?_ _)|(with_reducible refine Kd.C_drew ?_)));(case side6 => exact (Kd.R_reads' HO_431008.out).2.1);rintro e w95 ⟨rfl,hb⟩;replace HO_431001:=Aside0.mk (Kd.R_below (by (with_reducible repeat (first|apply Kd.R_alloc|apply Kd.R_drewN|apply Kd.R_drew));exact HO_431001.out) hb);replace HO_431002:=Aside0.mk (Kd.R_below (by (with_reducible repeat (first|apply Kd.R_alloc|apply Kd.R_drewN|apply Kd.R_drew));exact HO_431002.out) hb);replace HO_431008:=Aside0.mk (Kd.R_below (by (with_reducible repeat (first|apply Kd.R_alloc|apply Kd.R_drewN|apply Kd.R_drew));exact HO_431008.out) hb);replace BK430:=Aside0.mk (blk_below (g:=gb430) (o:=.cells #[.int .i64 t412,.slice Ao10 t413.length co10,.slice Ao11 t416.length co11,.int .i64 t419,.int .i64 t420,.int .i64 t421,.int .i64 t422,.int .i64 t423,.slice Ao12 t424.length co12,.int .i64 t427] 28 (0,0)) (by (with_reducible repeat (first|refine blk_drewN ?_ _|refine blk_drew ?_|refine blk_alloc ?_ _));exact BK430.out) hb);replace HB:=Aside0.mk (below_step (by repeat (first|(with_reducible first|exact HB.out|apply below_alloc|apply pw_below_drewN|apply below_drew1|refine below_set ?_ GE430.out)|exact HB.out)) hb);(try clear hb);(try clear hb2);(try clear hk);(try clear hi)))
                 go_roundg kj72
                 case measure => have:=HJ5.out;have:=HJ62.out;have:=HK3.out;have:=HJ72.out;omega
                 case rel => exact ⟨(x7_72),(wrap64 (x8_3 + 1)),(by first|rfl|(simp;done)|(simp [*];done)),(by first|rfl|(simp;done)|(simp [*];done)),H',⟨by have:=HJ5.out;have:=HJ62.out;have:=HK3.out;have:=HJ72.out;omega⟩,⟨by (with_reducible repeat (first|apply Kd.R_alloc|apply Kd.R_drewN|apply Kd.R_drew));exact HO_431001.out⟩,⟨by (with_reducible repeat (first|apply Kd.R_alloc|apply Kd.R_drewN|apply Kd.R_drew));exact HO_431002.out⟩,⟨by (with_reducible repeat (first|apply Kd.R_alloc|apply Kd.R_drewN|apply Kd.R_drew));exact HO_431008.out⟩,⟨by (with_reducible repeat (first|refine blk_drewN ?_ _|refine blk_drew ?_|refine blk_alloc ?_ _));exact BK430.out⟩,⟨by repeat (first|(with_reducible first|exact HB.out|apply below_alloc|apply pw_below_drewN|apply below_drew1|refine below_set ?_ GE430.out)|exact HB.out)⟩⟩
               ·rw [if_neg c81] at H
                have c81b0 : decide (0 ≤ x8_3) = false:=decide_eq_false c81
                clear c81
                have H':=Aside0.mk H
                clear H
                have hcz96_0 : wc.cell? ⟨gb430,0,none⟩ = some (.int .i64 t412):=(blk_cell BK430.out 0).trans rfl
                have hcz96_1 : wc.cell? ⟨gb430,1,none⟩ = some (.slice Ao10 t413.length co10):=(blk_cell BK430.out 1).trans rfl
                have hcz96_2 : wc.cell? ⟨gb430,2,none⟩ = some (.slice Ao11 t416.length co11):=(blk_cell BK430.out 2).trans rfl
                have hcz96_3 : wc.cell? ⟨gb430,3,none⟩ = some (.int .i64 t419):=(blk_cell BK430.out 3).trans rfl
                have hcz96_4 : wc.cell? ⟨gb430,4,none⟩ = some (.int .i64 t420):=(blk_cell BK430.out 4).trans rfl
                have hcz96_5 : wc.cell? ⟨gb430,5,none⟩ = some (.int .i64 t421):=(blk_cell BK430.out 5).trans rfl
                have hcz96_6 : wc.cell? ⟨gb430,6,none⟩ = some (.int .i64 t422):=(blk_cell BK430.out 6).trans rfl
                have hcz96_7 : wc.cell? ⟨gb430,7,none⟩ = some (.int .i64 t423):=(blk_cell BK430.out 7).trans rfl
                have hcz96_8 : wc.cell? ⟨gb430,8,none⟩ = some (.slice Ao12 t424.length co12):=(blk_cell BK430.out 8).trans rfl
                have hcz96_9 : wc.cell? ⟨gb430,9,none⟩ = some (.int .i64 t427):=(blk_cell BK430.out 9).trans rfl
                have hfz96_0:=blk_frozen BK430.out 0
                have hfz96_1:=blk_frozen BK430.out 1
                have hfz96_2:=blk_frozen BK430.out 2
                have hfz96_3:=blk_frozen BK430.out 3
                have hfz96_4:=blk_frozen BK430.out 4
                have hfz96_5:=blk_frozen BK430.out 5
                have hfz96_6:=blk_frozen BK430.out 6
                have hfz96_7:=blk_frozen BK430.out 7
                have hfz96_8:=blk_frozen BK430.out 8
                have hfz96_9:=blk_frozen BK430.out 9
                go_wp2_with (first|((with_reducible refine gate_callee (f:=9) rfl ?_);refine goesL_ (some 67) rfl rfl Try.func9 (by kernel_rfl) rfl #[.agg #[.int .i64 t412,.slice Ao10 t413.length co10,.slice Ao11 t416.length co11,.int .i64 t419,.int .i64 t420,.int .i64 t421,.int .i64 t422,.int .i64 t423,.slice Ao12 t424.length co12,.int .i64 t427],.int .i64 x8_3] rfl (by (try simp only [List.map_toArray,List.map_cons,List.map_nil]);first|done|rfl|(simp only [List.length_drop,List.length_take];rfl)) ?_;(with_reducible refine (impl_PlaneOf.calls t412 _ _ t413 _ _ t416 t419 t420 t421 t422 t423 _ _ t424 t427 x8_3 t439 _ ?side1 ?side2 ?side3 ?side4 ?side5 ?side6 A77.out).mono ?_);(case side1 => repeat (first|exact (Kd.R_reads' HO_431001.out).2.2|(with_reducible refine Kd.C_alloc ?_ _)|(with_reducible refine Kd.C_drewN ?_ _)|(with_reducible refine Kd.C_drew ?_)));(case side2 => exact (Kd.R_reads' HO_431001.out).2.1);(case side3 => repeat (first|exact (Kd.R_reads' HO_431002.out).2.2|(with_reducible refine Kd.C_alloc ?_ _)|(with_reducible refine Kd.C_drewN ?_ _)|(with_reducible refine Kd.C_drew ?_)));(case side4 => exact (Kd.R_reads' HO_431002.out).2.1);(case side5 => repeat (first|exact (Kd.R_reads' HO_431008.out).2.2|(with_reducible refine Kd.C_alloc ?_ _)|(with_reducible refine Kd.C_drewN ?_ _)|(with_reducible refine Kd.C_drew ?_)));(case side6 => exact (Kd.R_reads' HO_431008.out).2.1);rintro e w97 ⟨rfl,hb⟩;refine ⟨_,rfl,?_⟩;replace HO_431001:=Aside0.mk (Kd.R_below (by (with_reducible repeat (first|apply Kd.R_alloc|apply Kd.R_drewN|apply Kd.R_drew));exact HO_431001.out) hb);replace HO_431002:=Aside0.mk (Kd.R_below (by (with_reducible repeat (first|apply Kd.R_alloc|apply Kd.R_drewN|apply Kd.R_drew));exact HO_431002.out) hb);replace HO_431008:=Aside0.mk (Kd.R_below (by (with_reducible repeat (first|apply Kd.R_alloc|apply Kd.R_drewN|apply Kd.R_drew));exact HO_431008.out) hb);replace BK430:=Aside0.mk (blk_below (g:=gb430) (o:=.cells #[.int .i64 t412,.slice Ao10 t413.length co10,.slice Ao11 t416.length co11,.int .i64 t419,.int .i64 t420,.int .i64 t421,.int .i64 t422,.int .i64 t423,.slice Ao12 t424.length co12,.int .i64 t427] 28 (0,0)) (by (with_reducible repeat (first|refine blk_drewN ?_ _|refine blk_drew ?_|refine blk_alloc ?_ _));exact BK430.out) hb);replace HB:=Aside0.mk (below_step (by repeat (first|(with_reducible first|exact HB.out|apply below_alloc|apply pw_below_drewN|apply below_drew1|refine below_set ?_ GE430.out)|exact HB.out)) hb);(try clear hb);(try clear hb2);(try clear hk);(try clear hi);have hcz98_0 : w97.cell? ⟨gb430,0,none⟩ = some (.int .i64 t412):=(blk_cell BK430.out 0).trans rfl;have hcz98_1 : w97.cell? ⟨gb430,1,none⟩ = some (.slice Ao10 t413.length co10):=(blk_cell BK430.out 1).trans rfl;have hcz98_2 : w97.cell? ⟨gb430,2,none⟩ = some (.slice Ao11 t416.length co11):=(blk_cell BK430.out 2).trans rfl;have hcz98_3 : w97.cell? ⟨gb430,3,none⟩ = some (.int .i64 t419):=(blk_cell BK430.out 3).trans rfl;have hcz98_4 : w97.cell? ⟨gb430,4,none⟩ = some (.int .i64 t420):=(blk_cell BK430.out 4).trans rfl;have hcz98_5 : w97.cell? ⟨gb430,5,none⟩ = some (.int .i64 t421):=(blk_cell BK430.out 5).trans rfl;have hcz98_6 : w97.cell? ⟨gb430,6,none⟩ = some (.int .i64 t422):=(blk_cell BK430.out 6).trans rfl;have hcz98_7 : w97.cell? ⟨gb430,7,none⟩ = some (.int .i64 t423):=(blk_cell BK430.out 7).trans rfl;have hcz98_8 : w97.cell? ⟨gb430,8,none⟩ = some (.slice Ao12 t424.length co12):=(blk_cell BK430.out 8).trans rfl;have hcz98_9 : w97.cell? ⟨gb430,9,none⟩ = some (.int .i64 t427):=(blk_cell BK430.out 9).trans rfl;have hfz98_0:=blk_frozen BK430.out 0;have hfz98_1:=blk_frozen BK430.out 1;have hfz98_2:=blk_frozen BK430.out 2;have hfz98_3:=blk_frozen BK430.out 3;have hfz98_4:=blk_frozen BK430.out 4;have hfz98_5:=blk_frozen BK430.out 5;have hfz98_6:=blk_frozen BK430.out 6;have hfz98_7:=blk_frozen BK430.out 7;have hfz98_8:=blk_frozen BK430.out 8;have hfz98_9:=blk_frozen BK430.out 9)|(go_at_call 8;(with_reducible refine (impl_IsSky.calls kj72 t412 _ _ t413 _ _ t416 t419 t420 t421 t422 t423 _ _ t424 t427 true _ ?side1 ?side2 ?side3 ?side4 ?side5 ?side6 A79.out).mono ?_);(case side1 => repeat (first|exact (Kd.R_reads' HO_431001.out).2.2|(with_reducible refine Kd.C_alloc ?_ _)|(with_reducible refine Kd.C_drewN ?_ _)|(with_reducible refine Kd.C_drew ?_)));(case side2 => exact (Kd.R_reads' HO_431001.out).2.1);(case side3 => repeat (first|exact (Kd.R_reads' HO_431002.out).2.2|(with_reducible refine Kd.C_alloc ?_ _)|(with_reducible refine Kd.C_drewN ?_ _)|(with_reducible refine Kd.C_drew ?_)));(case side4 => exact (Kd.R_reads' HO_431002.out).2.1);(case side5 => repeat (first|exact (Kd.R_reads' HO_431008.out).2.2|(with_reducible refine Kd.C_alloc ?_ _)|(with_reducible refine Kd.C_drewN ?_ _)|(with_reducible refine Kd.C_drew ?_)));(case side6 => exact (Kd.R_reads' HO_431008.out).2.1);rintro e w99 ⟨rfl,hb⟩;replace HO_431001:=Aside0.mk (Kd.R_below (by (with_reducible repeat (first|apply Kd.R_alloc|apply Kd.R_drewN|apply Kd.R_drew));exact HO_431001.out) hb);replace HO_431002:=Aside0.mk (Kd.R_below (by (with_reducible repeat (first|apply Kd.R_alloc|apply Kd.R_drewN|apply Kd.R_drew));exact HO_431002.out) hb);replace HO_431008:=Aside0.mk (Kd.R_below (by (with_reducible repeat (first|apply Kd.R_alloc|apply Kd.R_drewN|apply Kd.R_drew));exact HO_431008.out) hb);replace BK430:=Aside0.mk (blk_below (g:=gb430) (o:=.cells #[.int .i64 t412,.slice Ao10 t413.length co10,.slice Ao11 t416.length co11,.int .i64 t419,.int .i64 t420,.int .i64 t421,.int .i64 t422,.int .i64 t423,.slice Ao12 t424.length co12,.int .i64 t427] 28 (0,0)) (by (with_reducible repeat (first|refine blk_drewN ?_ _|refine blk_drew ?_|refine blk_alloc ?_ _));exact BK430.out) hb);replace HB:=Aside0.mk (below_step (by repeat (first|(with_reducible first|exact HB.out|apply below_alloc|apply pw_below_drewN|apply below_drew1|refine below_set ?_ GE430.out)|exact HB.out)) hb);(try clear hb);(try clear hb2);(try clear hk);(try clear hi)))
                go_roundg kj72
                case measure => have:=HJ5.out;have:=HJ62.out;have:=HK3.out;have:=HJ72.out;omega
                case rel => exact ⟨(x7_72),(wrap64 (x8_3 + 1)),(by first|rfl|(simp;done)|(simp [*];done)),(by first|rfl|(simp;done)|(simp [*];done)),H',⟨by have:=HJ5.out;have:=HJ62.out;have:=HK3.out;have:=HJ72.out;omega⟩,⟨by (with_reducible repeat (first|apply Kd.R_alloc|apply Kd.R_drewN|apply Kd.R_drew));exact HO_431001.out⟩,⟨by (with_reducible repeat (first|apply Kd.R_alloc|apply Kd.R_drewN|apply Kd.R_drew));exact HO_431002.out⟩,⟨by (with_reducible repeat (first|apply Kd.R_alloc|apply Kd.R_drewN|apply Kd.R_drew));exact HO_431008.out⟩,⟨by (with_reducible repeat (first|refine blk_drewN ?_ _|refine blk_drew ?_|refine blk_alloc ?_ _));exact BK430.out⟩,⟨by repeat (first|(with_reducible first|exact HB.out|apply below_alloc|apply pw_below_drewN|apply below_drew1|refine below_set ?_ GE430.out)|exact HB.out)⟩⟩
              ·replace c80:=Bool.eq_false_iff.mpr c80
               subst c80
               have H1 : (laws_FnSkies.l0 kj72 x7_72 (wrap64 (x8_3 + 1)) t412 t413 t416 t419 t420 t421 t422 t423 t424 t427) = some r:=by rw [if_neg (show ¬ (false = true) by decide)] at H;exact H
               clear H
               have H:=H1
               clear H1
               have H':=Aside0.mk H
               clear H
               have hcz100_0 : wc.cell? ⟨gb430,0,none⟩ = some (.int .i64 t412):=(blk_cell BK430.out 0).trans rfl
               have hcz100_1 : wc.cell? ⟨gb430,1,none⟩ = some (.slice Ao10 t413.length co10):=(blk_cell BK430.out 1).trans rfl
               have hcz100_2 : wc.cell? ⟨gb430,2,none⟩ = some (.slice Ao11 t416.length co11):=(blk_cell BK430.out 2).trans rfl
               have hcz100_3 : wc.cell? ⟨gb430,3,none⟩ = some (.int .i64 t419):=(blk_cell BK430.out 3).trans rfl
               have hcz100_4 : wc.cell? ⟨gb430,4,none⟩ = some (.int .i64 t420):=(blk_cell BK430.out 4).trans rfl
               have hcz100_5 : wc.cell? ⟨gb430,5,none⟩ = some (.int .i64 t421):=(blk_cell BK430.out 5).trans rfl
               have hcz100_6 : wc.cell? ⟨gb430,6,none⟩ = some (.int .i64 t422):=(blk_cell BK430.out 6).trans rfl
               have hcz100_7 : wc.cell? ⟨gb430,7,none⟩ = some (.int .i64 t423):=(blk_cell BK430.out 7).trans rfl
               have hcz100_8 : wc.cell? ⟨gb430,8,none⟩ = some (.slice Ao12 t424.length co12):=(blk_cell BK430.out 8).trans rfl
               have hcz100_9 : wc.cell? ⟨gb430,9,none⟩ = some (.int .i64 t427):=(blk_cell BK430.out 9).trans rfl
               have hfz100_0:=blk_frozen BK430.out 0
               have hfz100_1:=blk_frozen BK430.out 1
               have hfz100_2:=blk_frozen BK430.out 2
               have hfz100_3:=blk_frozen BK430.out 3
               have hfz100_4:=blk_frozen BK430.out 4
               have hfz100_5:=blk_frozen BK430.out 5
               have hfz100_6:=blk_frozen BK430.out 6
               have hfz100_7:=blk_frozen BK430.out 7
               have hfz100_8:=blk_frozen BK430.out 8
               have hfz100_9:=blk_frozen BK430.out 9
               go_wp2_with (first|((with_reducible refine gate_callee (f:=9) rfl ?_);refine goesL_ (some 67) rfl rfl Try.func9 (by kernel_rfl) rfl #[.agg #[.int .i64 t412,.slice Ao10 t413.length co10,.slice Ao11 t416.length co11,.int .i64 t419,.int .i64 t420,.int .i64 t421,.int .i64 t422,.int .i64 t423,.slice Ao12 t424.length co12,.int .i64 t427],.int .i64 x8_3] rfl (by (try simp only [List.map_toArray,List.map_cons,List.map_nil]);first|done|rfl|(simp only [List.length_drop,List.length_take];rfl)) ?_;(with_reducible refine (impl_PlaneOf.calls t412 _ _ t413 _ _ t416 t419 t420 t421 t422 t423 _ _ t424 t427 x8_3 t439 _ ?side1 ?side2 ?side3 ?side4 ?side5 ?side6 A77.out).mono ?_);(case side1 => repeat (first|exact (Kd.R_reads' HO_431001.out).2.2|(with_reducible refine Kd.C_alloc ?_ _)|(with_reducible refine Kd.C_drewN ?_ _)|(with_reducible refine Kd.C_drew ?_)));(case side2 => exact (Kd.R_reads' HO_431001.out).2.1);(case side3 => repeat (first|exact (Kd.R_reads' HO_431002.out).2.2|(with_reducible refine Kd.C_alloc ?_ _)|(with_reducible refine Kd.C_drewN ?_ _)|(with_reducible refine Kd.C_drew ?_)));(case side4 => exact (Kd.R_reads' HO_431002.out).2.1);(case side5 => repeat (first|exact (Kd.R_reads' HO_431008.out).2.2|(with_reducible refine Kd.C_alloc ?_ _)|(with_reducible refine Kd.C_drewN ?_ _)|(with_reducible refine Kd.C_drew ?_)));(case side6 => exact (Kd.R_reads' HO_431008.out).2.1);rintro e w101 ⟨rfl,hb⟩;refine ⟨_,rfl,?_⟩;replace HO_431001:=Aside0.mk (Kd.R_below (by (with_reducible repeat (first|apply Kd.R_alloc|apply Kd.R_drewN|apply Kd.R_drew));exact HO_431001.out) hb);replace HO_431002:=Aside0.mk (Kd.R_below (by (with_reducible repeat (first|apply Kd.R_alloc|apply Kd.R_drewN|apply Kd.R_drew));exact HO_431002.out) hb);replace HO_431008:=Aside0.mk (Kd.R_below (by (with_reducible repeat (first|apply Kd.R_alloc|apply Kd.R_drewN|apply Kd.R_drew));exact HO_431008.out) hb);replace BK430:=Aside0.mk (blk_below (g:=gb430) (o:=.cells #[.int .i64 t412,.slice Ao10 t413.length co10,.slice Ao11 t416.length co11,.int .i64 t419,.int .i64 t420,.int .i64 t421,.int .i64 t422,.int .i64 t423,.slice Ao12 t424.length co12,.int .i64 t427] 28 (0,0)) (by (with_reducible repeat (first|refine blk_drewN ?_ _|refine blk_drew ?_|refine blk_alloc ?_ _));exact BK430.out) hb);replace HB:=Aside0.mk (below_step (by repeat (first|(with_reducible first|exact HB.out|apply below_alloc|apply pw_below_drewN|apply below_drew1|refine below_set ?_ GE430.out)|exact HB.out)) hb);(try clear hb);(try clear hb2);(try clear hk);(try clear hi);have hcz102_0 : w101.cell? ⟨gb430,0,none⟩ = some (.int .i64 t412):=(blk_cell BK430.out 0).trans rfl;have hcz102_1 : w101.cell? ⟨gb430,1,none⟩ = some (.slice Ao10 t413.length co10):=(blk_cell BK430.out 1).trans rfl;have hcz102_2 : w101.cell? ⟨gb430,2,none⟩ = some (.slice Ao11 t416.length co11):=(blk_cell BK430.out 2).trans rfl;have hcz102_3 : w101.cell? ⟨gb430,3,none⟩ = some (.int .i64 t419):=(blk_cell BK430.out 3).trans rfl;have hcz102_4 : w101.cell? ⟨gb430,4,none⟩ = some (.int .i64 t420):=(blk_cell BK430.out 4).trans rfl;have hcz102_5 : w101.cell? ⟨gb430,5,none⟩ = some (.int .i64 t421):=(blk_cell BK430.out 5).trans rfl;have hcz102_6 : w101.cell? ⟨gb430,6,none⟩ = some (.int .i64 t422):=(blk_cell BK430.out 6).trans rfl;have hcz102_7 : w101.cell? ⟨gb430,7,none⟩ = some (.int .i64 t423):=(blk_cell BK430.out 7).trans rfl;have hcz102_8 : w101.cell? ⟨gb430,8,none⟩ = some (.slice Ao12 t424.length co12):=(blk_cell BK430.out 8).trans rfl;have hcz102_9 : w101.cell? ⟨gb430,9,none⟩ = some (.int .i64 t427):=(blk_cell BK430.out 9).trans rfl;have hfz102_0:=blk_frozen BK430.out 0;have hfz102_1:=blk_frozen BK430.out 1;have hfz102_2:=blk_frozen BK430.out 2;have hfz102_3:=blk_frozen BK430.out 3;have hfz102_4:=blk_frozen BK430.out 4;have hfz102_5:=blk_frozen BK430.out 5;have hfz102_6:=blk_frozen BK430.out 6;have hfz102_7:=blk_frozen BK430.out 7;have hfz102_8:=blk_frozen BK430.out 8;have hfz102_9:=blk_frozen BK430.out 9)|(go_at_call 8;(with_reducible refine (impl_IsSky.calls kj72 t412 _ _ t413 _ _ t416 t419 t420 t421 t422 t423 _ _ t424 t427 false _ ?side1 ?side2 ?side3 ?side4 ?side5 ?side6 A79.out).mono ?_);(case side1 => repeat (first|exact (Kd.R_reads' HO_431001.out).2.2|(with_reducible refine Kd.C_alloc ?_ _)|(with_reducible refine Kd.C_drewN ?_ _)|(with_reducible refine Kd.C_drew ?_)));(case side2 => exact (Kd.R_reads' HO_431001.out).2.1);(case side3 => repeat (first|exact (Kd.R_reads' HO_431002.out).2.2|(with_reducible refine Kd.C_alloc ?_ _)|(with_reducible refine Kd.C_drewN ?_ _)|(with_reducible refine Kd.C_drew ?_)));(case side4 => exact (Kd.R_reads' HO_431002.out).2.1);(case side5 => repeat (first|exact (Kd.R_reads' HO_431008.out).2.2|(with_reducible refine Kd.C_alloc ?_ _)|(with_reducible refine Kd.C_drewN ?_ _)|(with_reducible refine Kd.C_drew ?_)));(case side6 => exact (Kd.R_reads' HO_431008.out).2.1);rintro e w103 ⟨rfl,hb⟩;replace HO_431001:=Aside0.mk (Kd.R_below (by (with_reducible repeat (first|apply Kd.R_alloc|apply Kd.R_drewN|apply Kd.R_drew));exact HO_431001.out) hb);replace HO_431002:=Aside0.mk (Kd.R_below (by (with_reducible repeat (first|apply Kd.R_alloc|apply Kd.R_drewN|apply Kd.R_drew));exact HO_431002.out) hb);replace HO_431008:=Aside0.mk (Kd.R_below (by (with_reducible repeat (first|apply Kd.R_alloc|apply Kd.R_drewN|apply Kd.R_drew));exact HO_431008.out) hb);replace BK430:=Aside0.mk (blk_below (g:=gb430) (o:=.cells #[.int .i64 t412,.slice Ao10 t413.length co10,.slice Ao11 t416.length co11,.int .i64 t419,.int .i64 t420,.int .i64 t421,.int .i64 t422,.int .i64 t423,.slice Ao12 t424.length co12,.int .i64 t427] 28 (0,0)) (by (with_reducible repeat (first|refine blk_drewN ?_ _|refine blk_drew ?_|refine blk_alloc ?_ _));exact BK430.out) hb);replace HB:=Aside0.mk (below_step (by repeat (first|(with_reducible first|exact HB.out|apply below_alloc|apply pw_below_drewN|apply below_drew1|refine below_set ?_ GE430.out)|exact HB.out)) hb);(try clear hb);(try clear hb2);(try clear hk);(try clear hi)))
               go_roundg kj72
               case measure => have:=HJ5.out;have:=HJ62.out;have:=HK3.out;have:=HJ72.out;omega
               case rel => exact ⟨(x7_72),(wrap64 (x8_3 + 1)),(by first|rfl|(simp;done)|(simp [*];done)),(by first|rfl|(simp;done)|(simp [*];done)),H',⟨by have:=HJ5.out;have:=HJ62.out;have:=HK3.out;have:=HJ72.out;omega⟩,⟨by (with_reducible repeat (first|apply Kd.R_alloc|apply Kd.R_drewN|apply Kd.R_drew));exact HO_431001.out⟩,⟨by (with_reducible repeat (first|apply Kd.R_alloc|apply Kd.R_drewN|apply Kd.R_drew));exact HO_431002.out⟩,⟨by (with_reducible repeat (first|apply Kd.R_alloc|apply Kd.R_drewN|apply Kd.R_drew));exact HO_431008.out⟩,⟨by (with_reducible repeat (first|refine blk_drewN ?_ _|refine blk_drew ?_|refine blk_alloc ?_ _));exact BK430.out⟩,⟨by repeat (first|(with_reducible first|exact HB.out|apply below_alloc|apply pw_below_drewN|apply below_drew1|refine below_set ?_ GE430.out)|exact HB.out)⟩⟩
             ·rw [if_neg c78] at H
              have c78b0 : (t439 == (-1)) = false:=beq_eq_false_iff_ne.mpr c78
              have c78b1 : (t439 != (-1)) = true:=bne_iff_ne.mpr c78
              have H':=Aside0.mk H
              clear H
              have hcz104_0 : wc.cell? ⟨gb430,0,none⟩ = some (.int .i64 t412):=(blk_cell BK430.out 0).trans rfl
              have hcz104_1 : wc.cell? ⟨gb430,1,none⟩ = some (.slice Ao10 t413.length co10):=(blk_cell BK430.out 1).trans rfl
              have hcz104_2 : wc.cell? ⟨gb430,2,none⟩ = some (.slice Ao11 t416.length co11):=(blk_cell BK430.out 2).trans rfl
              have hcz104_3 : wc.cell? ⟨gb430,3,none⟩ = some (.int .i64 t419):=(blk_cell BK430.out 3).trans rfl
              have hcz104_4 : wc.cell? ⟨gb430,4,none⟩ = some (.int .i64 t420):=(blk_cell BK430.out 4).trans rfl
              have hcz104_5 : wc.cell? ⟨gb430,5,none⟩ = some (.int .i64 t421):=(blk_cell BK430.out 5).trans rfl
              have hcz104_6 : wc.cell? ⟨gb430,6,none⟩ = some (.int .i64 t422):=(blk_cell BK430.out 6).trans rfl
              have hcz104_7 : wc.cell? ⟨gb430,7,none⟩ = some (.int .i64 t423):=(blk_cell BK430.out 7).trans rfl
              have hcz104_8 : wc.cell? ⟨gb430,8,none⟩ = some (.slice Ao12 t424.length co12):=(blk_cell BK430.out 8).trans rfl
              have hcz104_9 : wc.cell? ⟨gb430,9,none⟩ = some (.int .i64 t427):=(blk_cell BK430.out 9).trans rfl
              have hfz104_0:=blk_frozen BK430.out 0
              have hfz104_1:=blk_frozen BK430.out 1
              have hfz104_2:=blk_frozen BK430.out 2
              have hfz104_3:=blk_frozen BK430.out 3
              have hfz104_4:=blk_frozen BK430.out 4
              have hfz104_5:=blk_frozen BK430.out 5
              have hfz104_6:=blk_frozen BK430.out 6
              have hfz104_7:=blk_frozen BK430.out 7
              have hfz104_8:=blk_frozen BK430.out 8
              have hfz104_9:=blk_frozen BK430.out 9
              go_wp2_with (first|((with_reducible refine gate_callee (f:=9) rfl ?_);refine goesL_ (some 67) rfl rfl Try.func9 (by kernel_rfl) rfl #[.agg #[.int .i64 t412,.slice Ao10 t413.length co10,.slice Ao11 t416.length co11,.int .i64 t419,.int .i64 t420,.int .i64 t421,.int .i64 t422,.int .i64 t423,.slice Ao12 t424.length co12,.int .i64 t427],.int .i64 x8_3] rfl (by (try simp only [List.map_toArray,List.map_cons,List.map_nil]);first|done|rfl|(simp only [List.length_drop,List.length_take];rfl)) ?_;(with_reducible refine (impl_PlaneOf.calls t412 _ _ t413 _ _ t416 t419 t420 t421 t422 t423 _ _ t424 t427 x8_3 t439 _ ?side1 ?side2 ?side3 ?side4 ?side5 ?side6 A77.out).mono ?_);(case side1 => repeat (first|exact (Kd.R_reads' HO_431001.out).2.2|(with_reducible refine Kd.C_alloc ?_ _)|(with_reducible refine Kd.C_drewN ?_ _)|(with_reducible refine Kd.C_drew ?_)));(case side2 => exact (Kd.R_reads' HO_431001.out).2.1);(case side3 => repeat (first|exact (Kd.R_reads' HO_431002.out).2.2|(with_reducible refine Kd.C_alloc ?_ _)|(with_reducible refine Kd.C_drewN ?_ _)|(with_reducible refine Kd.C_drew ?_)));(case side4 => exact (Kd.R_reads' HO_431002.out).2.1);(case side5 => repeat (first|exact (Kd.R_reads' HO_431008.out).2.2|(with_reducible refine Kd.C_alloc ?_ _)|(with_reducible refine Kd.C_drewN ?_ _)|(with_reducible refine Kd.C_drew ?_)));(case side6 => exact (Kd.R_reads' HO_431008.out).2.1);rintro e w105 ⟨rfl,hb⟩;refine ⟨_,rfl,?_⟩;replace HO_431001:=Aside0.mk (Kd.R_below (by (with_reducible repeat (first|apply Kd.R_alloc|apply Kd.R_drewN|apply Kd.R_drew));exact HO_431001.out) hb);replace HO_431002:=Aside0.mk (Kd.R_below (by (with_reducible repeat (first|apply Kd.R_alloc|apply Kd.R_drewN|apply Kd.R_drew));exact HO_431002.out) hb);replace HO_431008:=Aside0.mk (Kd.R_below (by (with_reducible repeat (first|apply Kd.R_alloc|apply Kd.R_drewN|apply Kd.R_drew));exact HO_431008.out) hb);replace BK430:=Aside0.mk (blk_below (g:=gb430) (o:=.cells #[.int .i64 t412,.slice Ao10 t413.length co10,.slice Ao11 t416.length co11,.int .i64 t419,.int .i64 t420,.int .i64 t421,.int .i64 t422,.int .i64 t423,.slice Ao12 t424.length co12,.int .i64 t427] 28 (0,0)) (by (with_reducible repeat (first|refine blk_drewN ?_ _|refine blk_drew ?_|refine blk_alloc ?_ _));exact BK430.out) hb);replace HB:=Aside0.mk (below_step (by repeat (first|(with_reducible first|exact HB.out|apply below_alloc|apply pw_below_drewN|apply below_drew1|refine below_set ?_ GE430.out)|exact HB.out)) hb);(try clear hb);(try clear hb2);(try clear hk);(try clear hi)))
              go_roundg kj72
              case measure => have:=HJ5.out;have:=HJ62.out;have:=HK3.out;have:=HJ72.out;omega
              case rel => exact ⟨(x7_72),(wrap64 (x8_3 + 1)),(by first|rfl|(simp;done)|(simp [*];done)),(by first|rfl|(simp;done)|(simp [*];done)),H',⟨by have:=HJ5.out;have:=HJ62.out;have:=HK3.out;have:=HJ72.out;omega⟩,⟨by (with_reducible repeat (first|apply Kd.R_alloc|apply Kd.R_drewN|apply Kd.R_drew));exact HO_431001.out⟩,⟨by (with_reducible repeat (first|apply Kd.R_alloc|apply Kd.R_drewN|apply Kd.R_drew));exact HO_431002.out⟩,⟨by (with_reducible repeat (first|apply Kd.R_alloc|apply Kd.R_drewN|apply Kd.R_drew));exact HO_431008.out⟩,⟨by (with_reducible repeat (first|refine blk_drewN ?_ _|refine blk_drew ?_|refine blk_alloc ?_ _));exact BK430.out⟩,⟨by repeat (first|(with_reducible first|exact HB.out|apply below_alloc|apply pw_below_drewN|apply below_drew1|refine below_set ?_ GE430.out)|exact HB.out)⟩⟩
          ·rw [if_neg c71] at H
           have c71b0 : decide (x8_3 ≤ 12) = false:=decide_eq_false c71
           clear c71
           obtain rfl:=Option.some.inj H
           have hcz106_0 : wr.cell? ⟨gb430,0,none⟩ = some (.int .i64 t412):=(blk_cell BK430.out 0).trans rfl
           have hcz106_1 : wr.cell? ⟨gb430,1,none⟩ = some (.slice Ao10 t413.length co10):=(blk_cell BK430.out 1).trans rfl
           have hcz106_2 : wr.cell? ⟨gb430,2,none⟩ = some (.slice Ao11 t416.length co11):=(blk_cell BK430.out 2).trans rfl
           have hcz106_3 : wr.cell? ⟨gb430,3,none⟩ = some (.int .i64 t419):=(blk_cell BK430.out 3).trans rfl
           have hcz106_4 : wr.cell? ⟨gb430,4,none⟩ = some (.int .i64 t420):=(blk_cell BK430.out 4).trans rfl
           have hcz106_5 : wr.cell? ⟨gb430,5,none⟩ = some (.int .i64 t421):=(blk_cell BK430.out 5).trans rfl
           have hcz106_6 : wr.cell? ⟨gb430,6,none⟩ = some (.int .i64 t422):=(blk_cell BK430.out 6).trans rfl
           have hcz106_7 : wr.cell? ⟨gb430,7,none⟩ = some (.int .i64 t423):=(blk_cell BK430.out 7).trans rfl
           have hcz106_8 : wr.cell? ⟨gb430,8,none⟩ = some (.slice Ao12 t424.length co12):=(blk_cell BK430.out 8).trans rfl
           have hcz106_9 : wr.cell? ⟨gb430,9,none⟩ = some (.int .i64 t427):=(blk_cell BK430.out 9).trans rfl
           have hfz106_0:=blk_frozen BK430.out 0
           have hfz106_1:=blk_frozen BK430.out 1
           have hfz106_2:=blk_frozen BK430.out 2
           have hfz106_3:=blk_frozen BK430.out 3
           have hfz106_4:=blk_frozen BK430.out 4
           have hfz106_5:=blk_frozen BK430.out 5
           have hfz106_6:=blk_frozen BK430.out 6
           have hfz106_7:=blk_frozen BK430.out 7
           have hfz106_8:=blk_frozen BK430.out 8
           have hfz106_9:=blk_frozen BK430.out 9
           go_wp2
           go_ret
           exact ⟨by first|rfl|(simp [errW_none,errW_some] <;> rfl)|(simp [*,errW_none,errW_some] <;> rfl),by repeat (first|(with_reducible first|exact HB.out|apply below_alloc|apply pw_below_drewN|apply below_drew1|refine below_set ?_ GE430.out)|exact HB.out)⟩

/-- THE ONE PURE STATEMENT of laws_FnSkies: yours. -/
def laws_FnSkies.Pure : Prop:=∀ (l0 : List Int),l0.length ≤ maxLen → l0.length * 1 ≤ 140737488351232 → (∀ x ∈ l0,(Lit.int .u8 x).wf = true) → ∃ k,laws_FnSkies.f k l0 = some true
theorem laws_FnSkies.walk (P : laws_FnSkies.Pure) (a0 : Option Addr) (len0 cap0 : Nat) (z0 : List Int) (w : World) (w0 : (a0 = none ∧ len0 = 0 ∧ cap0 = 0 ∧ z0 = []) ∨ ∃ x,a0 = some x ∧ len0 ≤ cap0 ∧ cap0 ≤ maxLen ∧ z0.length = cap0 ∧ (∀ i,i < z0.length → w.cell? (x.add i) = some (.int .u8 (z0.getD i 0))) ∧ ∀ n ∈ z0,(Lit.int .u8 n).wf = true) (y0 : len0 * 1 ≤ 140737488351232) :
  Calls Try.prog 3 #[.slice a0 len0 cap0] w fun e w' => e = .returned (.bool true) ∧ Below w.heap.size w w':=by
 obtain ⟨l0,rfl,hr0,hm0,hw0,hc0⟩:=ReadsInt.ofRowC w0
 obtain ⟨k,h⟩:=P l0 hm0 y0 hw0
 refine (laws_FnSkies.calls k _ _ l0 true w (Kd.C_of_reads (d:=(0 : Int)) (h1:=fun _ => rfl) hr0) hc0 h).mono ?_
 rintro e w' ⟨rfl,hd⟩
 exact ⟨rfl,hd⟩

end Go.Proofs.Ytpkmgdjhimkiiaa.PFnSkies
