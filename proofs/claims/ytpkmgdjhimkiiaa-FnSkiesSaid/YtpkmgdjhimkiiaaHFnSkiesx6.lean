/- The functions that FnSkies reaches: each Go function with a Lean function of the same answers; conditions: none beyond what each theorem states. Out of the lines of print.sh, mended. -/
import Derived.Test.YtpkmgdjhimkiiaaHFnSkiesx0
import Derived.Test.YtpkmgdjhimkiiaaHFnSkiesx5
namespace Go.Proofs.Ytpkmgdjhimkiiaa.PFnSkies
open Go.RowKit Go.Proofs.YtpkmgdjhimkiiaaW.PrintWords Go.Proofs.YtpkmgdjhimkiiaaW.PrintLast Go.Proofs.YtpkmgdjhimkiiaaW.PrintMore
attribute [local go_sem] max2_int min2_int max_two min_two max_three min_three max_four min_four   -- for this text's walks alone
set_option linter.unusedVariables false
set_option linter.unusedSimpArgs false

/-! ### impl_LimitOf: function 6 -/
mutual
def impl_LimitOf.j0 : Nat → Int → Int → Bool → Bool → Bool → Int → List (S43) → List (S46) → Int → Int → Int → Int → Int → List (S50) → Int → Option (Int)
 | 0,_,_,_,_,_,_,_,_,_,_,_,_,_,_,_ => none
 | k + 1,x7,x8,x9,x10,x45,x375000,x375001,x375002,x375003,x375004,x375005,x375006,x375007,x375008,x375009 => if x45 = true then (some (-1)) else (if x9 = true then (if x10 = true then (impl_LimitOf.j1 k x7 x8 x9 x10 (x7 == x8) x375000 x375001 x375002 x375003 x375004 x375005 x375006 x375007 x375008 x375009) else (impl_LimitOf.j1 k x7 x8 x9 x10 false x375000 x375001 x375002 x375003 x375004 x375005 x375006 x375007 x375008 x375009)) else (impl_LimitOf.j1 k x7 x8 x9 x10 false x375000 x375001 x375002 x375003 x375004 x375005 x375006 x375007 x375008 x375009))
def impl_LimitOf.j1 : Nat → Int → Int → Bool → Bool → Bool → Int → List (S43) → List (S46) → Int → Int → Int → Int → Int → List (S50) → Int → Option (Int)
 | 0,_,_,_,_,_,_,_,_,_,_,_,_,_,_,_ => none
 | k + 1,x7,x8,x9,x10,x46,x375000,x375001,x375002,x375003,x375004,x375005,x375006,x375007,x375008,x375009 => if x46 = true then (some x375003) else (if x9 = true then (if x10 = true then ((impl_areNeighbors.f x375000 x375001 x375002 x375003 x375004 x375005 x375006 x375007 x375008 x375009 x7 x8).bind fun t382 => (impl_LimitOf.j2 k x7 x8 x9 x10 t382 x375000 x375001 x375002 x375003 x375004 x375005 x375006 x375007 x375008 x375009)) else (impl_LimitOf.j2 k x7 x8 x9 x10 false x375000 x375001 x375002 x375003 x375004 x375005 x375006 x375007 x375008 x375009)) else (impl_LimitOf.j2 k x7 x8 x9 x10 false x375000 x375001 x375002 x375003 x375004 x375005 x375006 x375007 x375008 x375009))
def impl_LimitOf.j2 : Nat → Int → Int → Bool → Bool → Bool → Int → List (S43) → List (S46) → Int → Int → Int → Int → Int → List (S50) → Int → Option (Int)
 | 0,_,_,_,_,_,_,_,_,_,_,_,_,_,_,_ => none
 | k + 1,x7,x8,x9,x10,x58,x375000,x375001,x375002,x375003,x375004,x375005,x375006,x375007,x375008,x375009 => if x58 = true then (some x375004) else (if (x9 != x10) = true then (if x7 = x8 then (some x375005) else ((impl_areNeighbors.f x375000 x375001 x375002 x375003 x375004 x375005 x375006 x375007 x375008 x375009 x7 x8).bind fun t383 => (if t383 = true then (some x375005) else (some (-1))))) else (some (-1)))
end
def impl_LimitOf.f (k : Nat) (a0_0 : Int) (l0_1 : List (S43)) (l0_2 : List (S46)) (a0_3 : Int) (a0_4 : Int) (a0_5 : Int) (a0_6 : Int) (a0_7 : Int) (l0_8 : List (S50)) (a0_9 : Int) (a1 : Int) (a2 : Int) : Option (Int):=(impl_PlaneOf.f a0_0 l0_1 l0_2 a0_3 a0_4 a0_5 a0_6 a0_7 l0_8 a0_9 a1).bind fun t375 => ((impl_PlaneOf.f a0_0 l0_1 l0_2 a0_3 a0_4 a0_5 a0_6 a0_7 l0_8 a0_9 a2).bind fun t376 => ((impl_isSatellite.f a0_0 l0_1 l0_2 a0_3 a0_4 a0_5 a0_6 a0_7 l0_8 a0_9 a1).bind fun t377 => ((impl_isSatellite.f a0_0 l0_1 l0_2 a0_3 a0_4 a0_5 a0_6 a0_7 l0_8 a0_9 a2).bind fun t378 => (if a1 = a2 then (impl_LimitOf.j0 k t375 t376 t377 t378 true a0_0 l0_1 l0_2 a0_3 a0_4 a0_5 a0_6 a0_7 l0_8 a0_9) else (if t377 = true then (if t378 = true then (impl_LimitOf.j0 k t375 t376 t377 t378 false a0_0 l0_1 l0_2 a0_3 a0_4 a0_5 a0_6 a0_7 l0_8 a0_9) else ((impl_IsSite.f a0_0 l0_1 l0_2 a0_3 a0_4 a0_5 a0_6 a0_7 l0_8 a0_9 a2).bind fun t379 => (impl_LimitOf.j0 k t375 t376 t377 t378 (!t379) a0_0 l0_1 l0_2 a0_3 a0_4 a0_5 a0_6 a0_7 l0_8 a0_9))) else ((impl_IsSite.f a0_0 l0_1 l0_2 a0_3 a0_4 a0_5 a0_6 a0_7 l0_8 a0_9 a1).bind fun t380 => (if t380 = true then (if t378 = true then (impl_LimitOf.j0 k t375 t376 t377 t378 false a0_0 l0_1 l0_2 a0_3 a0_4 a0_5 a0_6 a0_7 l0_8 a0_9) else ((impl_IsSite.f a0_0 l0_1 l0_2 a0_3 a0_4 a0_5 a0_6 a0_7 l0_8 a0_9 a2).bind fun t381 => (impl_LimitOf.j0 k t375 t376 t377 t378 (!t381) a0_0 l0_1 l0_2 a0_3 a0_4 a0_5 a0_6 a0_7 l0_8 a0_9))) else (impl_LimitOf.j0 k t375 t376 t377 t378 true a0_0 l0_1 l0_2 a0_3 a0_4 a0_5 a0_6 a0_7 l0_8 a0_9))))))))
theorem impl_LimitOf.mono_l : ∀ k,(∀ y0 y1 y2 y3 y4 y5 y6 y7 y8 y9 y10 y11 y12 y13 y14,LeO (impl_LimitOf.j0 k y0 y1 y2 y3 y4 y5 y6 y7 y8 y9 y10 y11 y12 y13 y14) (impl_LimitOf.j0 (k + 1) y0 y1 y2 y3 y4 y5 y6 y7 y8 y9 y10 y11 y12 y13 y14)) ∧ (∀ y0 y1 y2 y3 y4 y5 y6 y7 y8 y9 y10 y11 y12 y13 y14,LeO (impl_LimitOf.j1 k y0 y1 y2 y3 y4 y5 y6 y7 y8 y9 y10 y11 y12 y13 y14) (impl_LimitOf.j1 (k + 1) y0 y1 y2 y3 y4 y5 y6 y7 y8 y9 y10 y11 y12 y13 y14)) ∧ (∀ y0 y1 y2 y3 y4 y5 y6 y7 y8 y9 y10 y11 y12 y13 y14,LeO (impl_LimitOf.j2 k y0 y1 y2 y3 y4 y5 y6 y7 y8 y9 y10 y11 y12 y13 y14) (impl_LimitOf.j2 (k + 1) y0 y1 y2 y3 y4 y5 y6 y7 y8 y9 y10 y11 y12 y13 y14))
 | 0 => ⟨fun _ _ _ _ _ _ _ _ _ _ _ _ _ _ _ r h => by simp [impl_LimitOf.j0] at h,fun _ _ _ _ _ _ _ _ _ _ _ _ _ _ _ r h => by simp [impl_LimitOf.j1] at h,fun _ _ _ _ _ _ _ _ _ _ _ _ _ _ _ r h => by simp [impl_LimitOf.j2] at h⟩
 | k + 1 => by
  obtain ⟨ih0,ih1,ih2⟩:=impl_LimitOf.mono_l k
  refine ⟨?_,?_,?_⟩
  ·intro y0 y1 y2 y3 y4 y5 y6 y7 y8 y9 y10 y11 y12 y13 y14
   unfold impl_LimitOf.j0
   repeat' first
   | (with_reducible exact ih0 _ _ _ _ _ _ _ _ _ _ _ _ _ _ _)
   | (with_reducible exact ih1 _ _ _ _ _ _ _ _ _ _ _ _ _ _ _)
   | (with_reducible exact ih2 _ _ _ _ _ _ _ _ _ _ _ _ _ _ _)
   | (with_reducible exact LeO.refl _)
   | (with_reducible exact LeO.none _)
   | (with_reducible refine LeO.ite ?_ ?_)
   | (with_reducible refine LeO.bind ?_ (fun _ => ?_))
   | exact ih0 _ _ _ _ _ _ _ _ _ _ _ _ _ _ _
   | exact ih1 _ _ _ _ _ _ _ _ _ _ _ _ _ _ _
   | exact ih2 _ _ _ _ _ _ _ _ _ _ _ _ _ _ _
   | exact LeO.none _
   | refine LeO.ite ?_ ?_
   | refine LeO.bind ?_ (fun _ => ?_)
  ·intro y0 y1 y2 y3 y4 y5 y6 y7 y8 y9 y10 y11 y12 y13 y14
   unfold impl_LimitOf.j1
   repeat' first
   | (with_reducible exact ih0 _ _ _ _ _ _ _ _ _ _ _ _ _ _ _)
   | (with_reducible exact ih1 _ _ _ _ _ _ _ _ _ _ _ _ _ _ _)
   | (with_reducible exact ih2 _ _ _ _ _ _ _ _ _ _ _ _ _ _ _)
   | (with_reducible exact LeO.refl _)
   | (with_reducible exact LeO.none _)
   | (with_reducible refine LeO.ite ?_ ?_)
   | (with_reducible refine LeO.bind ?_ (fun _ => ?_))
   | exact ih0 _ _ _ _ _ _ _ _ _ _ _ _ _ _ _
   | exact ih1 _ _ _ _ _ _ _ _ _ _ _ _ _ _ _
   | exact ih2 _ _ _ _ _ _ _ _ _ _ _ _ _ _ _
   | exact LeO.none _
   | refine LeO.ite ?_ ?_
   | refine LeO.bind ?_ (fun _ => ?_)
  ·intro y0 y1 y2 y3 y4 y5 y6 y7 y8 y9 y10 y11 y12 y13 y14
   unfold impl_LimitOf.j2
   repeat' first
   | (with_reducible exact ih0 _ _ _ _ _ _ _ _ _ _ _ _ _ _ _)
   | (with_reducible exact ih1 _ _ _ _ _ _ _ _ _ _ _ _ _ _ _)
   | (with_reducible exact ih2 _ _ _ _ _ _ _ _ _ _ _ _ _ _ _)
   | (with_reducible exact LeO.refl _)
   | (with_reducible exact LeO.none _)
   | (with_reducible refine LeO.ite ?_ ?_)
   | (with_reducible refine LeO.bind ?_ (fun _ => ?_))
   | exact ih0 _ _ _ _ _ _ _ _ _ _ _ _ _ _ _
   | exact ih1 _ _ _ _ _ _ _ _ _ _ _ _ _ _ _
   | exact ih2 _ _ _ _ _ _ _ _ _ _ _ _ _ _ _
   | exact LeO.none _
   | refine LeO.ite ?_ ?_
   | refine LeO.bind ?_ (fun _ => ?_)
theorem impl_LimitOf.mono : ∀ a0 a1 a2 a3 a4 a5 a6 a7 a8 a9 a10 a11 k,LeO (impl_LimitOf.f k a0 a1 a2 a3 a4 a5 a6 a7 a8 a9 a10 a11) (impl_LimitOf.f (k + 1) a0 a1 a2 a3 a4 a5 a6 a7 a8 a9 a10 a11):=by
 intro a0 a1 a2 a3 a4 a5 a6 a7 a8 a9 a10 a11 k
 obtain ⟨ih0,ih1,ih2⟩:=impl_LimitOf.mono_l k
 unfold impl_LimitOf.f
 repeat' first
   | (with_reducible exact ih0 _ _ _ _ _ _ _ _ _ _ _ _ _ _ _)
   | (with_reducible exact ih1 _ _ _ _ _ _ _ _ _ _ _ _ _ _ _)
   | (with_reducible exact ih2 _ _ _ _ _ _ _ _ _ _ _ _ _ _ _)
   | (with_reducible exact LeO.refl _)
   | (with_reducible exact LeO.none _)
   | (with_reducible refine LeO.ite ?_ ?_)
   | (with_reducible refine LeO.bind ?_ (fun _ => ?_))
   | exact ih0 _ _ _ _ _ _ _ _ _ _ _ _ _ _ _
   | exact ih1 _ _ _ _ _ _ _ _ _ _ _ _ _ _ _
   | exact ih2 _ _ _ _ _ _ _ _ _ _ _ _ _ _ _
   | exact LeO.none _
   | refine LeO.ite ?_ ?_
   | refine LeO.bind ?_ (fun _ => ?_)
def impl_LimitOf.T1 : Bool × List (List Nat × List Nat):=(true,[([],[]),([],[]),([0,1],[0,1]),([],[]),([],[]),([3,4,2],[3,4]),([2,5,0,1,2],[2]),([5,6,0,1,2,3,4,5,6],[5])])
def impl_LimitOf.B1 : List Nat:=[0,0,3,0,0,31,63,127]
theorem impl_LimitOf.tab1 : rtab .any (opsOf Try.f6 1) = impl_LimitOf.T1:=by kernel_rfl
theorem impl_LimitOf.bits1 : waitsOk impl_LimitOf.T1.2 impl_LimitOf.B1 = true:=by kernel_rfl
def impl_LimitOf.T2 : Bool × List (List Nat × List Nat):=(true,[([],[]),([],[]),([0,1],[0,1]),([],[]),([],[]),([3,4,2],[3,4]),([2,5,0,1,2],[2]),([5,6,0,1,2,3,4,5,6],[5])])
def impl_LimitOf.B2 : List Nat:=[0,0,3,0,0,31,63,127]
theorem impl_LimitOf.tab2 : rtab .any (opsOf Try.f6 2) = impl_LimitOf.T2:=by kernel_rfl
theorem impl_LimitOf.bits2 : waitsOk impl_LimitOf.T2.2 impl_LimitOf.B2 = true:=by kernel_rfl
set_option maxHeartbeats 8000000 in
set_option maxRecDepth 100000 in
theorem impl_LimitOf.calls (k : Nat) (a0_0 : Int) (A0_1 : Option Addr) (c0_1 : Nat) (l0_1 : List (S43)) (A0_2 : Option Addr) (c0_2 : Nat) (l0_2 : List (S46)) (a0_3 : Int) (a0_4 : Int) (a0_5 : Int) (a0_6 : Int) (a0_7 : Int) (A0_8 : Option Addr) (c0_8 : Nat) (l0_8 : List (S50)) (a0_9 : Int) (a1 : Int) (a2 : Int) (r : Int) (w : World) (hr0_1 : Kd.C k43 w A0_1 l0_1.length l0_1) (hc0_1 : l0_1.length ≤ c0_1) (hr0_2 : Kd.C k46 w A0_2 l0_2.length l0_2) (hc0_2 : l0_2.length ≤ c0_2) (hr0_8 : Kd.C k50 w A0_8 l0_8.length l0_8) (hc0_8 : l0_8.length ≤ c0_8) (h : impl_LimitOf.f k a0_0 l0_1 l0_2 a0_3 a0_4 a0_5 a0_6 a0_7 l0_8 a0_9 a1 a2 = some r) :
  Calls Try.prog 6 #[.agg #[.int .i64 a0_0,.slice A0_1 l0_1.length c0_1,.slice A0_2 l0_2.length c0_2,.int .i64 a0_3,.int .i64 a0_4,.int .i64 a0_5,.int .i64 a0_6,.int .i64 a0_7,.slice A0_8 l0_8.length c0_8,.int .i64 a0_9],.int .i64 a1,.int .i64 a2] w fun e w' => e = .returned (.int .i64 r) ∧ Below w.heap.size w w':=by
 have hu28:=Try.underlying28
 have HR0_1:=Aside0.mk hr0_1
 have HC0_1:=Aside0.mk hc0_1
 clear hr0_1 hc0_1
 have HR0_2:=Aside0.mk hr0_2
 have HC0_2:=Aside0.mk hc0_2
 clear hr0_2 hc0_2
 have HR0_8:=Aside0.mk hr0_8
 have HC0_8:=Aside0.mk hc0_8
 clear hr0_8 hc0_8
 have HB:=Aside0.mk (Below.refl w.heap.size w)
 have H : ((impl_PlaneOf.f a0_0 l0_1 l0_2 a0_3 a0_4 a0_5 a0_6 a0_7 l0_8 a0_9 a1).bind fun t375 => ((impl_PlaneOf.f a0_0 l0_1 l0_2 a0_3 a0_4 a0_5 a0_6 a0_7 l0_8 a0_9 a2).bind fun t376 => ((impl_isSatellite.f a0_0 l0_1 l0_2 a0_3 a0_4 a0_5 a0_6 a0_7 l0_8 a0_9 a1).bind fun t377 => ((impl_isSatellite.f a0_0 l0_1 l0_2 a0_3 a0_4 a0_5 a0_6 a0_7 l0_8 a0_9 a2).bind fun t378 => (if a1 = a2 then (impl_LimitOf.j0 k t375 t376 t377 t378 true a0_0 l0_1 l0_2 a0_3 a0_4 a0_5 a0_6 a0_7 l0_8 a0_9) else (if t377 = true then (if t378 = true then (impl_LimitOf.j0 k t375 t376 t377 t378 false a0_0 l0_1 l0_2 a0_3 a0_4 a0_5 a0_6 a0_7 l0_8 a0_9) else ((impl_IsSite.f a0_0 l0_1 l0_2 a0_3 a0_4 a0_5 a0_6 a0_7 l0_8 a0_9 a2).bind fun t379 => (impl_LimitOf.j0 k t375 t376 t377 t378 (!t379) a0_0 l0_1 l0_2 a0_3 a0_4 a0_5 a0_6 a0_7 l0_8 a0_9))) else ((impl_IsSite.f a0_0 l0_1 l0_2 a0_3 a0_4 a0_5 a0_6 a0_7 l0_8 a0_9 a1).bind fun t380 => (if t380 = true then (if t378 = true then (impl_LimitOf.j0 k t375 t376 t377 t378 false a0_0 l0_1 l0_2 a0_3 a0_4 a0_5 a0_6 a0_7 l0_8 a0_9) else ((impl_IsSite.f a0_0 l0_1 l0_2 a0_3 a0_4 a0_5 a0_6 a0_7 l0_8 a0_9 a2).bind fun t381 => (impl_LimitOf.j0 k t375 t376 t377 t378 (!t381) a0_0 l0_1 l0_2 a0_3 a0_4 a0_5 a0_6 a0_7 l0_8 a0_9))) else (impl_LimitOf.j0 k t375 t376 t377 t378 true a0_0 l0_1 l0_2 a0_3 a0_4 a0_5 a0_6 a0_7 l0_8 a0_9))))))))) = some r:=h
 clear h
 replace H:=Option.bind_eq_some_iff.mp H
 obtain ⟨t375,A40,H⟩:=H
 replace H : ((impl_PlaneOf.f a0_0 l0_1 l0_2 a0_3 a0_4 a0_5 a0_6 a0_7 l0_8 a0_9 a2).bind fun t376 => ((impl_isSatellite.f a0_0 l0_1 l0_2 a0_3 a0_4 a0_5 a0_6 a0_7 l0_8 a0_9 a1).bind fun t377 => ((impl_isSatellite.f a0_0 l0_1 l0_2 a0_3 a0_4 a0_5 a0_6 a0_7 l0_8 a0_9 a2).bind fun t378 => (if a1 = a2 then (impl_LimitOf.j0 k t375 t376 t377 t378 true a0_0 l0_1 l0_2 a0_3 a0_4 a0_5 a0_6 a0_7 l0_8 a0_9) else (if t377 = true then (if t378 = true then (impl_LimitOf.j0 k t375 t376 t377 t378 false a0_0 l0_1 l0_2 a0_3 a0_4 a0_5 a0_6 a0_7 l0_8 a0_9) else ((impl_IsSite.f a0_0 l0_1 l0_2 a0_3 a0_4 a0_5 a0_6 a0_7 l0_8 a0_9 a2).bind fun t379 => (impl_LimitOf.j0 k t375 t376 t377 t378 (!t379) a0_0 l0_1 l0_2 a0_3 a0_4 a0_5 a0_6 a0_7 l0_8 a0_9))) else ((impl_IsSite.f a0_0 l0_1 l0_2 a0_3 a0_4 a0_5 a0_6 a0_7 l0_8 a0_9 a1).bind fun t380 => (if t380 = true then (if t378 = true then (impl_LimitOf.j0 k t375 t376 t377 t378 false a0_0 l0_1 l0_2 a0_3 a0_4 a0_5 a0_6 a0_7 l0_8 a0_9) else ((impl_IsSite.f a0_0 l0_1 l0_2 a0_3 a0_4 a0_5 a0_6 a0_7 l0_8 a0_9 a2).bind fun t381 => (impl_LimitOf.j0 k t375 t376 t377 t378 (!t381) a0_0 l0_1 l0_2 a0_3 a0_4 a0_5 a0_6 a0_7 l0_8 a0_9))) else (impl_LimitOf.j0 k t375 t376 t377 t378 true a0_0 l0_1 l0_2 a0_3 a0_4 a0_5 a0_6 a0_7 l0_8 a0_9)))))))) = some r:=H
 have A4:=Aside0.mk A40
 clear A40
 replace H:=Option.bind_eq_some_iff.mp H
 obtain ⟨t376,A50,H⟩:=H
 replace H : ((impl_isSatellite.f a0_0 l0_1 l0_2 a0_3 a0_4 a0_5 a0_6 a0_7 l0_8 a0_9 a1).bind fun t377 => ((impl_isSatellite.f a0_0 l0_1 l0_2 a0_3 a0_4 a0_5 a0_6 a0_7 l0_8 a0_9 a2).bind fun t378 => (if a1 = a2 then (impl_LimitOf.j0 k t375 t376 t377 t378 true a0_0 l0_1 l0_2 a0_3 a0_4 a0_5 a0_6 a0_7 l0_8 a0_9) else (if t377 = true then (if t378 = true then (impl_LimitOf.j0 k t375 t376 t377 t378 false a0_0 l0_1 l0_2 a0_3 a0_4 a0_5 a0_6 a0_7 l0_8 a0_9) else ((impl_IsSite.f a0_0 l0_1 l0_2 a0_3 a0_4 a0_5 a0_6 a0_7 l0_8 a0_9 a2).bind fun t379 => (impl_LimitOf.j0 k t375 t376 t377 t378 (!t379) a0_0 l0_1 l0_2 a0_3 a0_4 a0_5 a0_6 a0_7 l0_8 a0_9))) else ((impl_IsSite.f a0_0 l0_1 l0_2 a0_3 a0_4 a0_5 a0_6 a0_7 l0_8 a0_9 a1).bind fun t380 => (if t380 = true then (if t378 = true then (impl_LimitOf.j0 k t375 t376 t377 t378 false a0_0 l0_1 l0_2 a0_3 a0_4 a0_5 a0_6 a0_7 l0_8 a0_9) else ((impl_IsSite.f a0_0 l0_1 l0_2 a0_3 a0_4 a0_5 a0_6 a0_7 l0_8 a0_9 a2).bind fun t381 => (impl_LimitOf.j0 k t375 t376 t377 t378 (!t381) a0_0 l0_1 l0_2 a0_3 a0_4 a0_5 a0_6 a0_7 l0_8 a0_9))) else (impl_LimitOf.j0 k t375 t376 t377 t378 true a0_0 l0_1 l0_2 a0_3 a0_4 a0_5 a0_6 a0_7 l0_8 a0_9))))))) = some r:=H
 have A5:=Aside0.mk A50
 clear A50
 replace H:=Option.bind_eq_some_iff.mp H
 obtain ⟨t377,A60,H⟩:=H
 replace H : ((impl_isSatellite.f a0_0 l0_1 l0_2 a0_3 a0_4 a0_5 a0_6 a0_7 l0_8 a0_9 a2).bind fun t378 => (if a1 = a2 then (impl_LimitOf.j0 k t375 t376 t377 t378 true a0_0 l0_1 l0_2 a0_3 a0_4 a0_5 a0_6 a0_7 l0_8 a0_9) else (if t377 = true then (if t378 = true then (impl_LimitOf.j0 k t375 t376 t377 t378 false a0_0 l0_1 l0_2 a0_3 a0_4 a0_5 a0_6 a0_7 l0_8 a0_9) else ((impl_IsSite.f a0_0 l0_1 l0_2 a0_3 a0_4 a0_5 a0_6 a0_7 l0_8 a0_9 a2).bind fun t379 => (impl_LimitOf.j0 k t375 t376 t377 t378 (!t379) a0_0 l0_1 l0_2 a0_3 a0_4 a0_5 a0_6 a0_7 l0_8 a0_9))) else ((impl_IsSite.f a0_0 l0_1 l0_2 a0_3 a0_4 a0_5 a0_6 a0_7 l0_8 a0_9 a1).bind fun t380 => (if t380 = true then (if t378 = true then (impl_LimitOf.j0 k t375 t376 t377 t378 false a0_0 l0_1 l0_2 a0_3 a0_4 a0_5 a0_6 a0_7 l0_8 a0_9) else ((impl_IsSite.f a0_0 l0_1 l0_2 a0_3 a0_4 a0_5 a0_6 a0_7 l0_8 a0_9 a2).bind fun t381 => (impl_LimitOf.j0 k t375 t376 t377 t378 (!t381) a0_0 l0_1 l0_2 a0_3 a0_4 a0_5 a0_6 a0_7 l0_8 a0_9))) else (impl_LimitOf.j0 k t375 t376 t377 t378 true a0_0 l0_1 l0_2 a0_3 a0_4 a0_5 a0_6 a0_7 l0_8 a0_9)))))) = some r:=H
 have A6:=Aside0.mk A60
 clear A60
 replace H:=Option.bind_eq_some_iff.mp H
 obtain ⟨t378,A70,H⟩:=H
 replace H : (if a1 = a2 then (impl_LimitOf.j0 k t375 t376 t377 t378 true a0_0 l0_1 l0_2 a0_3 a0_4 a0_5 a0_6 a0_7 l0_8 a0_9) else (if t377 = true then (if t378 = true then (impl_LimitOf.j0 k t375 t376 t377 t378 false a0_0 l0_1 l0_2 a0_3 a0_4 a0_5 a0_6 a0_7 l0_8 a0_9) else ((impl_IsSite.f a0_0 l0_1 l0_2 a0_3 a0_4 a0_5 a0_6 a0_7 l0_8 a0_9 a2).bind fun t379 => (impl_LimitOf.j0 k t375 t376 t377 t378 (!t379) a0_0 l0_1 l0_2 a0_3 a0_4 a0_5 a0_6 a0_7 l0_8 a0_9))) else ((impl_IsSite.f a0_0 l0_1 l0_2 a0_3 a0_4 a0_5 a0_6 a0_7 l0_8 a0_9 a1).bind fun t380 => (if t380 = true then (if t378 = true then (impl_LimitOf.j0 k t375 t376 t377 t378 false a0_0 l0_1 l0_2 a0_3 a0_4 a0_5 a0_6 a0_7 l0_8 a0_9) else ((impl_IsSite.f a0_0 l0_1 l0_2 a0_3 a0_4 a0_5 a0_6 a0_7 l0_8 a0_9 a2).bind fun t381 => (impl_LimitOf.j0 k t375 t376 t377 t378 (!t381) a0_0 l0_1 l0_2 a0_3 a0_4 a0_5 a0_6 a0_7 l0_8 a0_9))) else (impl_LimitOf.j0 k t375 t376 t377 t378 true a0_0 l0_1 l0_2 a0_3 a0_4 a0_5 a0_6 a0_7 l0_8 a0_9))))) = some r:=H
 have A7:=Aside0.mk A70
 clear A70
 have HC8:=Aside0.mk H
 clear H
 go_enter Try.func6,Try.ntmps6
 try go_wp2_with (first|((with_reducible refine gate_dst (N:=3) rfl ?_);refine box_event ?hg (N:=3) ?hd (cs:=#[.int .i64 a0_0,.slice A0_1 l0_1.length c0_1,.slice A0_2 l0_2.length c0_2,.int .i64 a0_3,.int .i64 a0_4,.int .i64 a0_5,.int .i64 a0_6,.int .i64 a0_7,.slice A0_8 l0_8.length c0_8,.int .i64 a0_9]) (t:=28) ?hr ?_;(case hd => rfl);(case hg => rfl);(case hr => first|(go_simp;done)|(go_simp;rfl));intro gb374 hg w9 hbox hb;have BK374:=Aside0.mk (hbox);have GE374:=Aside0.mk ((by rw [hg];exact (below_size (by repeat (first|(with_reducible first|exact HB.out|apply below_alloc|apply pw_below_drewN|apply below_drew1)|exact HB.out))) : w.heap.size ≤ gb374));replace HB:=Aside0.mk (below_step (by repeat (first|(with_reducible first|exact HB.out|apply below_alloc|apply pw_below_drewN|apply below_drew1)|exact HB.out)) hb);clear hb hbox hg))
 replace BK374:=Aside0.mk (blk_drew BK374.out)
 replace HB:=Aside0.mk (below_drew1 HB.out)
 refine start_ (n:=8) (S:=fun w' => w'.cell? ⟨gb374,0,none⟩ = some (.int .i64 a0_0) ∧ w'.cell? ⟨gb374,1,none⟩ = some (.slice A0_1 l0_1.length c0_1) ∧ w'.cell? ⟨gb374,2,none⟩ = some (.slice A0_2 l0_2.length c0_2) ∧ w'.cell? ⟨gb374,3,none⟩ = some (.int .i64 a0_3) ∧ w'.cell? ⟨gb374,4,none⟩ = some (.int .i64 a0_4) ∧ w'.cell? ⟨gb374,5,none⟩ = some (.int .i64 a0_5) ∧ w'.cell? ⟨gb374,6,none⟩ = some (.int .i64 a0_6) ∧ w'.cell? ⟨gb374,7,none⟩ = some (.int .i64 a0_7) ∧ w'.cell? ⟨gb374,8,none⟩ = some (.slice A0_8 l0_8.length c0_8) ∧ w'.cell? ⟨gb374,9,none⟩ = some (.int .i64 a0_9)) (ds:=[]) #[false,false,false,false,false,false,false,false] (by kernel_rfl) rfl rfl ⟨(blk_cell BK374.out 0).trans rfl,(blk_cell BK374.out 1).trans rfl,(blk_cell BK374.out 2).trans rfl,(blk_cell BK374.out 3).trans rfl,(blk_cell BK374.out 4).trans rfl,(blk_cell BK374.out 5).trans rfl,(blk_cell BK374.out 6).trans rfl,(blk_cell BK374.out 7).trans rfl,(blk_cell BK374.out 8).trans rfl,(blk_cell BK374.out 9).trans rfl⟩ (fun hHeld => ?_);refine with_tabW impl_LimitOf.tab1 impl_LimitOf.bits1 (fun HT_ HW_ => ?_)
 generalize w9.drew = w10 at BK374 HB hHeld ⊢
 refine pure_ (i:=1) (N:=some 12) (v:=?_) (a':=?_) #[false,true,false,false,false,false,false,false] rfl rfl (any_of HT_.out (by kernel_rfl)) (fun _ _ _ h => h) (Or.inl ⟨by rfl,?_⟩) ?_ ?_
 rotate_left
 ·intro w'
  go_simp
  with_reducible rfl
 rotate_left
 ·simp only [Act.put,List.setIfInBounds_toArray,List.set_cons_zero,List.set_cons_succ,i64_w,i32_w]
  rfl
 refine pure_ (i:=4) (N:=some 15) (v:=?_) (a':=?_) #[false,true,false,false,true,false,false,false] rfl rfl (any_of HT_.out (by kernel_rfl)) (fun _ _ _ h => h) (Or.inl ⟨by rfl,?_⟩) ?_ ?_
 rotate_left
 ·intro w'
  go_simp
  with_reducible rfl
 rotate_left
 ·simp only [Act.put,List.setIfInBounds_toArray,List.set_cons_zero,List.set_cons_succ,i64_w,i32_w]
  rfl
 refine take_ (i:=0) (N:=some 11) (v:=?_) (a':=?_) #[true,true,false,false,true,false,false,false] rfl rfl (take_ofW HT_.out HW_.out (by kernel_rfl)) (fun _ _ _ h => h) (Or.inl ⟨by rfl,?_⟩) hHeld ?_ ?_
 rotate_left
 ·rintro w' ⟨s0,s1,s2,s3,s4,s5,s6,s7,s8,s9⟩
  go_simp
  with_reducible rfl
 rotate_left
 ·simp only [Act.put,List.setIfInBounds_toArray,List.set_cons_zero,List.set_cons_succ,i64_w,i32_w]
  rfl
 refine take_ (i:=3) (N:=some 14) (v:=?_) (a':=?_) #[true,true,false,true,true,false,false,false] rfl rfl (take_ofW HT_.out HW_.out (by kernel_rfl)) (fun _ _ _ h => h) (Or.inl ⟨by rfl,?_⟩) hHeld ?_ ?_
 rotate_left
 ·rintro w' ⟨s0,s1,s2,s3,s4,s5,s6,s7,s8,s9⟩
  go_simp
  with_reducible rfl
 rotate_left
 ·simp only [Act.put,List.setIfInBounds_toArray,List.set_cons_zero,List.set_cons_succ,i64_w,i32_w]
  rfl
 refine one_ (i:=2) (N:=some 13) #[true,true,true,true,true,false,false,false] rfl rfl (one_of HT_.out (by kernel_rfl)) (by decide) (fun K hK => ?_)
 refine goes_ Try.func9 (by kernel_rfl) rfl #[.agg #[.int .i64 a0_0,.slice A0_1 l0_1.length c0_1,.slice A0_2 l0_2.length c0_2,.int .i64 a0_3,.int .i64 a0_4,.int .i64 a0_5,.int .i64 a0_6,.int .i64 a0_7,.slice A0_8 l0_8.length c0_8,.int .i64 a0_9],.int .i64 a1] (by rfl) rfl rfl (by (try simp only [List.map_toArray,List.map_cons,List.map_nil]);first|done|rfl|(simp only [List.length_drop,List.length_take];rfl)) ?_
 with_reducible refine (impl_PlaneOf.calls a0_0 _ _ l0_1 _ _ l0_2 a0_3 a0_4 a0_5 a0_6 a0_7 _ _ l0_8 a0_9 a1 t375 _ ?side1 ?side2 ?side3 ?side4 ?side5 ?side6 A4.out).mono ?_
 (case side1 => repeat (first|exact (Kd.C_below HR0_1.out HB.out)|(with_reducible refine Kd.C_alloc ?_ _)|(with_reducible refine Kd.C_drewN ?_ _)|(with_reducible refine Kd.C_drew ?_)))
 (case side2 => exact HC0_1.out)
 (case side3 => repeat (first|exact (Kd.C_below HR0_2.out HB.out)|(with_reducible refine Kd.C_alloc ?_ _)|(with_reducible refine Kd.C_drewN ?_ _)|(with_reducible refine Kd.C_drew ?_)))
 (case side4 => exact HC0_2.out)
 (case side5 => repeat (first|exact (Kd.C_below HR0_8.out HB.out)|(with_reducible refine Kd.C_alloc ?_ _)|(with_reducible refine Kd.C_drewN ?_ _)|(with_reducible refine Kd.C_drew ?_)))
 (case side6 => exact HC0_8.out)
 rintro e w11 ⟨rfl,hb⟩
 refine ⟨_,rfl,?_⟩
 replace BK374:=Aside0.mk (blk_below (g:=gb374) (o:=.cells #[.int .i64 a0_0,.slice A0_1 l0_1.length c0_1,.slice A0_2 l0_2.length c0_2,.int .i64 a0_3,.int .i64 a0_4,.int .i64 a0_5,.int .i64 a0_6,.int .i64 a0_7,.slice A0_8 l0_8.length c0_8,.int .i64 a0_9] 28 (0,0)) (by (with_reducible repeat (first|refine blk_drewN ?_ _|refine blk_drew ?_|refine blk_alloc ?_ _));exact BK374.out) hb)
 replace HB:=Aside0.mk (below_step (by repeat (first|(with_reducible first|exact HB.out|apply below_alloc|apply pw_below_drewN|apply below_drew1|refine below_set ?_ GE374.out)|exact HB.out)) hb)
 (try clear hb)
 refine hK.out _ _ ⟨(blk_cell BK374.out 0).trans rfl,(blk_cell BK374.out 1).trans rfl,(blk_cell BK374.out 2).trans rfl,(blk_cell BK374.out 3).trans rfl,(blk_cell BK374.out 4).trans rfl,(blk_cell BK374.out 5).trans rfl,(blk_cell BK374.out 6).trans rfl,(blk_cell BK374.out 7).trans rfl,(blk_cell BK374.out 8).trans rfl,(blk_cell BK374.out 9).trans rfl⟩ (fun hHeld => ?_)
 clear hK K
 refine norm_ (a':=?_) ?_ ?_
 rotate_left
 ·show Act.put _ (some 13) _ = _
  simp only [Act.put,List.setIfInBounds_toArray,List.set_cons_zero,List.set_cons_succ,i64_w,i32_w]
  rfl
 refine one_ (i:=5) (N:=some 16) #[true,true,true,true,true,true,false,false] rfl rfl (one_of HT_.out (by kernel_rfl)) (by decide) (fun K hK => ?_)
 refine goes_ Try.func9 (by kernel_rfl) rfl #[.agg #[.int .i64 a0_0,.slice A0_1 l0_1.length c0_1,.slice A0_2 l0_2.length c0_2,.int .i64 a0_3,.int .i64 a0_4,.int .i64 a0_5,.int .i64 a0_6,.int .i64 a0_7,.slice A0_8 l0_8.length c0_8,.int .i64 a0_9],.int .i64 a2] (by rfl) rfl rfl (by (try simp only [List.map_toArray,List.map_cons,List.map_nil]);first|done|rfl|(simp only [List.length_drop,List.length_take];rfl)) ?_
 with_reducible refine (impl_PlaneOf.calls a0_0 _ _ l0_1 _ _ l0_2 a0_3 a0_4 a0_5 a0_6 a0_7 _ _ l0_8 a0_9 a2 t376 _ ?side1 ?side2 ?side3 ?side4 ?side5 ?side6 A5.out).mono ?_
 (case side1 => repeat (first|exact (Kd.C_below HR0_1.out HB.out)|(with_reducible refine Kd.C_alloc ?_ _)|(with_reducible refine Kd.C_drewN ?_ _)|(with_reducible refine Kd.C_drew ?_)))
 (case side2 => exact HC0_1.out)
 (case side3 => repeat (first|exact (Kd.C_below HR0_2.out HB.out)|(with_reducible refine Kd.C_alloc ?_ _)|(with_reducible refine Kd.C_drewN ?_ _)|(with_reducible refine Kd.C_drew ?_)))
 (case side4 => exact HC0_2.out)
 (case side5 => repeat (first|exact (Kd.C_below HR0_8.out HB.out)|(with_reducible refine Kd.C_alloc ?_ _)|(with_reducible refine Kd.C_drewN ?_ _)|(with_reducible refine Kd.C_drew ?_)))
 (case side6 => exact HC0_8.out)
 rintro e w12 ⟨rfl,hb⟩
 refine ⟨_,rfl,?_⟩
 replace BK374:=Aside0.mk (blk_below (g:=gb374) (o:=.cells #[.int .i64 a0_0,.slice A0_1 l0_1.length c0_1,.slice A0_2 l0_2.length c0_2,.int .i64 a0_3,.int .i64 a0_4,.int .i64 a0_5,.int .i64 a0_6,.int .i64 a0_7,.slice A0_8 l0_8.length c0_8,.int .i64 a0_9] 28 (0,0)) (by (with_reducible repeat (first|refine blk_drewN ?_ _|refine blk_drew ?_|refine blk_alloc ?_ _));exact BK374.out) hb)
 replace HB:=Aside0.mk (below_step (by repeat (first|(with_reducible first|exact HB.out|apply below_alloc|apply pw_below_drewN|apply below_drew1|refine below_set ?_ GE374.out)|exact HB.out)) hb)
 (try clear hb)
 refine hK.out _ _ ⟨(blk_cell BK374.out 0).trans rfl,(blk_cell BK374.out 1).trans rfl,(blk_cell BK374.out 2).trans rfl,(blk_cell BK374.out 3).trans rfl,(blk_cell BK374.out 4).trans rfl,(blk_cell BK374.out 5).trans rfl,(blk_cell BK374.out 6).trans rfl,(blk_cell BK374.out 7).trans rfl,(blk_cell BK374.out 8).trans rfl,(blk_cell BK374.out 9).trans rfl⟩ (fun hHeld => ?_)
 clear hK K
 refine norm_ (a':=?_) ?_ ?_
 rotate_left
 ·show Act.put _ (some 16) _ = _
  simp only [Act.put,List.setIfInBounds_toArray,List.set_cons_zero,List.set_cons_succ,i64_w,i32_w]
  rfl
 refine pure_ (i:=6) (N:=some 7) (v:=?_) (a':=?_) #[true,true,true,true,true,true,true,false] rfl rfl (any_of HT_.out (by kernel_rfl)) (fun _ _ _ h => h) (Or.inl ⟨by rfl,?_⟩) ?_ ?_
 rotate_left
 ·intro w'
  go_simp
  with_reducible rfl
 rotate_left
 ·simp only [Act.put,List.setIfInBounds_toArray,List.set_cons_zero,List.set_cons_succ,i64_w,i32_w]
  rfl
 refine pure_ (i:=7) (N:=some 8) (v:=?_) (a':=?_) #[true,true,true,true,true,true,true,true] rfl rfl (any_of HT_.out (by kernel_rfl)) (fun _ _ _ h => h) (Or.inl ⟨by rfl,?_⟩) ?_ ?_
 rotate_left
 ·intro w'
  go_simp
  with_reducible rfl
 rotate_left
 ·simp only [Act.put,List.setIfInBounds_toArray,List.set_cons_zero,List.set_cons_succ,i64_w,i32_w]
  rfl
 refine done_ (done_of HT_.out (by kernel_rfl)) ?_
 try go_wp2
 replace BK374:=Aside0.mk (blk_drew BK374.out)
 replace HB:=Aside0.mk (below_drew1 HB.out)
 refine start_ (n:=8) (S:=fun w' => w'.cell? ⟨gb374,0,none⟩ = some (.int .i64 a0_0) ∧ w'.cell? ⟨gb374,1,none⟩ = some (.slice A0_1 l0_1.length c0_1) ∧ w'.cell? ⟨gb374,2,none⟩ = some (.slice A0_2 l0_2.length c0_2) ∧ w'.cell? ⟨gb374,3,none⟩ = some (.int .i64 a0_3) ∧ w'.cell? ⟨gb374,4,none⟩ = some (.int .i64 a0_4) ∧ w'.cell? ⟨gb374,5,none⟩ = some (.int .i64 a0_5) ∧ w'.cell? ⟨gb374,6,none⟩ = some (.int .i64 a0_6) ∧ w'.cell? ⟨gb374,7,none⟩ = some (.int .i64 a0_7) ∧ w'.cell? ⟨gb374,8,none⟩ = some (.slice A0_8 l0_8.length c0_8) ∧ w'.cell? ⟨gb374,9,none⟩ = some (.int .i64 a0_9)) (ds:=[]) #[false,false,false,false,false,false,false,false] (by kernel_rfl) rfl rfl ⟨(blk_cell BK374.out 0).trans rfl,(blk_cell BK374.out 1).trans rfl,(blk_cell BK374.out 2).trans rfl,(blk_cell BK374.out 3).trans rfl,(blk_cell BK374.out 4).trans rfl,(blk_cell BK374.out 5).trans rfl,(blk_cell BK374.out 6).trans rfl,(blk_cell BK374.out 7).trans rfl,(blk_cell BK374.out 8).trans rfl,(blk_cell BK374.out 9).trans rfl⟩ (fun hHeld => ?_);refine with_tabW impl_LimitOf.tab2 impl_LimitOf.bits2 (fun HT_ HW_ => ?_)
 generalize w12.drew = w13 at BK374 HB hHeld ⊢
 refine pure_ (i:=1) (N:=some 18) (v:=?_) (a':=?_) #[false,true,false,false,false,false,false,false] rfl rfl (any_of HT_.out (by kernel_rfl)) (fun _ _ _ h => h) (Or.inl ⟨by rfl,?_⟩) ?_ ?_
 rotate_left
 ·intro w'
  go_simp
  with_reducible rfl
 rotate_left
 ·simp only [Act.put,List.setIfInBounds_toArray,List.set_cons_zero,List.set_cons_succ,i64_w,i32_w]
  rfl
 refine pure_ (i:=4) (N:=some 21) (v:=?_) (a':=?_) #[false,true,false,false,true,false,false,false] rfl rfl (any_of HT_.out (by kernel_rfl)) (fun _ _ _ h => h) (Or.inl ⟨by rfl,?_⟩) ?_ ?_
 rotate_left
 ·intro w'
  go_simp
  with_reducible rfl
 rotate_left
 ·simp only [Act.put,List.setIfInBounds_toArray,List.set_cons_zero,List.set_cons_succ,i64_w,i32_w]
  rfl
 refine take_ (i:=0) (N:=some 17) (v:=?_) (a':=?_) #[true,true,false,false,true,false,false,false] rfl rfl (take_ofW HT_.out HW_.out (by kernel_rfl)) (fun _ _ _ h => h) (Or.inl ⟨by rfl,?_⟩) hHeld ?_ ?_
 rotate_left
 ·rintro w' ⟨s0,s1,s2,s3,s4,s5,s6,s7,s8,s9⟩
  go_simp
  with_reducible rfl
 rotate_left
 ·simp only [Act.put,List.setIfInBounds_toArray,List.set_cons_zero,List.set_cons_succ,i64_w,i32_w]
  rfl
 refine take_ (i:=3) (N:=some 20) (v:=?_) (a':=?_) #[true,true,false,true,true,false,false,false] rfl rfl (take_ofW HT_.out HW_.out (by kernel_rfl)) (fun _ _ _ h => h) (Or.inl ⟨by rfl,?_⟩) hHeld ?_ ?_
 rotate_left
 ·rintro w' ⟨s0,s1,s2,s3,s4,s5,s6,s7,s8,s9⟩
  go_simp
  with_reducible rfl
 rotate_left
 ·simp only [Act.put,List.setIfInBounds_toArray,List.set_cons_zero,List.set_cons_succ,i64_w,i32_w]
  rfl
 refine one_ (i:=2) (N:=some 19) #[true,true,true,true,true,false,false,false] rfl rfl (one_of HT_.out (by kernel_rfl)) (by decide) (fun K hK => ?_)
 refine goes_ Try.func14 (by kernel_rfl) rfl #[.agg #[.int .i64 a0_0,.slice A0_1 l0_1.length c0_1,.slice A0_2 l0_2.length c0_2,.int .i64 a0_3,.int .i64 a0_4,.int .i64 a0_5,.int .i64 a0_6,.int .i64 a0_7,.slice A0_8 l0_8.length c0_8,.int .i64 a0_9],.int .i64 a1] (by rfl) rfl rfl (by (try simp only [List.map_toArray,List.map_cons,List.map_nil]);first|done|rfl|(simp only [List.length_drop,List.length_take];rfl)) ?_
 with_reducible refine (impl_isSatellite.calls a0_0 _ _ l0_1 _ _ l0_2 a0_3 a0_4 a0_5 a0_6 a0_7 _ _ l0_8 a0_9 a1 t377 _ ?side1 ?side2 ?side3 ?side4 ?side5 ?side6 A6.out).mono ?_
 (case side1 => repeat (first|exact (Kd.C_below HR0_1.out HB.out)|(with_reducible refine Kd.C_alloc ?_ _)|(with_reducible refine Kd.C_drewN ?_ _)|(with_reducible refine Kd.C_drew ?_)))
 (case side2 => exact HC0_1.out)
 (case side3 => repeat (first|exact (Kd.C_below HR0_2.out HB.out)|(with_reducible refine Kd.C_alloc ?_ _)|(with_reducible refine Kd.C_drewN ?_ _)|(with_reducible refine Kd.C_drew ?_)))
 (case side4 => exact HC0_2.out)
 (case side5 => repeat (first|exact (Kd.C_below HR0_8.out HB.out)|(with_reducible refine Kd.C_alloc ?_ _)|(with_reducible refine Kd.C_drewN ?_ _)|(with_reducible refine Kd.C_drew ?_)))
 (case side6 => exact HC0_8.out)
 rintro e w14 ⟨rfl,hb⟩
 refine ⟨_,rfl,?_⟩
 replace BK374:=Aside0.mk (blk_below (g:=gb374) (o:=.cells #[.int .i64 a0_0,.slice A0_1 l0_1.length c0_1,.slice A0_2 l0_2.length c0_2,.int .i64 a0_3,.int .i64 a0_4,.int .i64 a0_5,.int .i64 a0_6,.int .i64 a0_7,.slice A0_8 l0_8.length c0_8,.int .i64 a0_9] 28 (0,0)) (by (with_reducible repeat (first|refine blk_drewN ?_ _|refine blk_drew ?_|refine blk_alloc ?_ _));exact BK374.out) hb)
 replace HB:=Aside0.mk (below_step (by repeat (first|(with_reducible first|exact HB.out|apply below_alloc|apply pw_below_drewN|apply below_drew1|refine below_set ?_ GE374.out)|exact HB.out)) hb)
 (try clear hb)
 refine hK.out _ _ ⟨(blk_cell BK374.out 0).trans rfl,(blk_cell BK374.out 1).trans rfl,(blk_cell BK374.out 2).trans rfl,(blk_cell BK374.out 3).trans rfl,(blk_cell BK374.out 4).trans rfl,(blk_cell BK374.out 5).trans rfl,(blk_cell BK374.out 6).trans rfl,(blk_cell BK374.out 7).trans rfl,(blk_cell BK374.out 8).trans rfl,(blk_cell BK374.out 9).trans rfl⟩ (fun hHeld => ?_)
 clear hK K
 refine norm_ (a':=?_) ?_ ?_
 rotate_left
 ·show Act.put _ (some 19) _ = _
  simp only [Act.put,List.setIfInBounds_toArray,List.set_cons_zero,List.set_cons_succ,i64_w,i32_w]
  rfl
 refine one_ (i:=5) (N:=some 22) #[true,true,true,true,true,true,false,false] rfl rfl (one_of HT_.out (by kernel_rfl)) (by decide) (fun K hK => ?_)
 refine goes_ Try.func14 (by kernel_rfl) rfl #[.agg #[.int .i64 a0_0,.slice A0_1 l0_1.length c0_1,.slice A0_2 l0_2.length c0_2,.int .i64 a0_3,.int .i64 a0_4,.int .i64 a0_5,.int .i64 a0_6,.int .i64 a0_7,.slice A0_8 l0_8.length c0_8,.int .i64 a0_9],.int .i64 a2] (by rfl) rfl rfl (by (try simp only [List.map_toArray,List.map_cons,List.map_nil]);first|done|rfl|(simp only [List.length_drop,List.length_take];rfl)) ?_
 with_reducible refine (impl_isSatellite.calls a0_0 _ _ l0_1 _ _ l0_2 a0_3 a0_4 a0_5 a0_6 a0_7 _ _ l0_8 a0_9 a2 t378 _ ?side1 ?side2 ?side3 ?side4 ?side5 ?side6 A7.out).mono ?_
 (case side1 => repeat (first|exact (Kd.C_below HR0_1.out HB.out)|(with_reducible refine Kd.C_alloc ?_ _)|(with_reducible refine Kd.C_drewN ?_ _)|(with_reducible refine Kd.C_drew ?_)))
 (case side2 => exact HC0_1.out)
 (case side3 => repeat (first|exact (Kd.C_below HR0_2.out HB.out)|(with_reducible refine Kd.C_alloc ?_ _)|(with_reducible refine Kd.C_drewN ?_ _)|(with_reducible refine Kd.C_drew ?_)))
 (case side4 => exact HC0_2.out)
 (case side5 => repeat (first|exact (Kd.C_below HR0_8.out HB.out)|(with_reducible refine Kd.C_alloc ?_ _)|(with_reducible refine Kd.C_drewN ?_ _)|(with_reducible refine Kd.C_drew ?_)))
 (case side6 => exact HC0_8.out)
 rintro e w15 ⟨rfl,hb⟩
 refine ⟨_,rfl,?_⟩
 replace BK374:=Aside0.mk (blk_below (g:=gb374) (o:=.cells #[.int .i64 a0_0,.slice A0_1 l0_1.length c0_1,.slice A0_2 l0_2.length c0_2,.int .i64 a0_3,.int .i64 a0_4,.int .i64 a0_5,.int .i64 a0_6,.int .i64 a0_7,.slice A0_8 l0_8.length c0_8,.int .i64 a0_9] 28 (0,0)) (by (with_reducible repeat (first|refine blk_drewN ?_ _|refine blk_drew ?_|refine blk_alloc ?_ _));exact BK374.out) hb)
 replace HB:=Aside0.mk (below_step (by repeat (first|(with_reducible first|exact HB.out|apply below_alloc|apply pw_below_drewN|apply below_drew1|refine below_set ?_ GE374.out)|exact HB.out)) hb)
 (try clear hb)
 refine hK.out _ _ ⟨(blk_cell BK374.out 0).trans rfl,(blk_cell BK374.out 1).trans rfl,(blk_cell BK374.out 2).trans rfl,(blk_cell BK374.out 3).trans rfl,(blk_cell BK374.out 4).trans rfl,(blk_cell BK374.out 5).trans rfl,(blk_cell BK374.out 6).trans rfl,(blk_cell BK374.out 7).trans rfl,(blk_cell BK374.out 8).trans rfl,(blk_cell BK374.out 9).trans rfl⟩ (fun hHeld => ?_)
 clear hK K
 refine norm_ (a':=?_) ?_ ?_
 rotate_left
 ·show Act.put _ (some 22) _ = _
  simp only [Act.put,List.setIfInBounds_toArray,List.set_cons_zero,List.set_cons_succ,i64_w,i32_w]
  rfl
 refine pure_ (i:=6) (N:=some 9) (v:=?_) (a':=?_) #[true,true,true,true,true,true,true,false] rfl rfl (any_of HT_.out (by kernel_rfl)) (fun _ _ _ h => h) (Or.inl ⟨by rfl,?_⟩) ?_ ?_
 rotate_left
 ·intro w'
  go_simp
  with_reducible rfl
 rotate_left
 ·simp only [Act.put,List.setIfInBounds_toArray,List.set_cons_zero,List.set_cons_succ,i64_w,i32_w]
  rfl
 refine pure_ (i:=7) (N:=some 10) (v:=?_) (a':=?_) #[true,true,true,true,true,true,true,true] rfl rfl (any_of HT_.out (by kernel_rfl)) (fun _ _ _ h => h) (Or.inl ⟨by rfl,?_⟩) ?_ ?_
 rotate_left
 ·intro w'
  go_simp
  with_reducible rfl
 rotate_left
 ·simp only [Act.put,List.setIfInBounds_toArray,List.set_cons_zero,List.set_cons_succ,i64_w,i32_w]
  rfl
 refine done_ (done_of HT_.out (by kernel_rfl)) ?_
 go_upto_region 3 with (fail)
 go_cut [45] (fun v45 wc => ∃ (kq : Nat) (x45_7 : Bool),v45 = .bool x45_7 ∧ Aside0 (impl_LimitOf.j0 kq t375 t376 t377 t378 x45_7 a0_0 l0_1 l0_2 a0_3 a0_4 a0_5 a0_6 a0_7 l0_8 a0_9 = some r) ∧ Aside0 (kq ≤ k) ∧ Aside0 (wc.heap[gb374]? = some (.cells #[.int .i64 a0_0,(.slice A0_1 l0_1.length c0_1),(.slice A0_2 l0_2.length c0_2),.int .i64 a0_3,.int .i64 a0_4,.int .i64 a0_5,.int .i64 a0_6,.int .i64 a0_7,(.slice A0_8 l0_8.length c0_8),.int .i64 a0_9] 28 (0,0))) ∧ Aside0 (Below w.heap.size w wc))
 case first =>
  have H:=HC8.out
  clear HC8
  by_cases c16 : a1 = a2
  ·rw [if_pos c16] at H
   have c16b0 : (a1 == a2) = true:=beq_iff_eq.mpr c16
   have c16b1 : (a1 != a2) = false:=bne_eq_false_iff_eq.mpr c16
   clear c16
   (first|rw [c16b0]|(simp only [i64_w,i32_w];rw [c16b0])|skip)
   have H':=Aside0.mk H
   clear H
   go_wp2
   go_meet
   case rel => exact ⟨_,(true),(by first|rfl|(simp;done)|(simp [*];done)),H',⟨by first|omega|exact Nat.le_refl _⟩,⟨by (with_reducible repeat (first|refine blk_drewN ?_ _|refine blk_drew ?_|refine blk_alloc ?_ _));exact BK374.out⟩,⟨by repeat (first|(with_reducible first|exact HB.out|apply below_alloc|apply pw_below_drewN|apply below_drew1|refine below_set ?_ GE374.out)|exact HB.out)⟩⟩
  ·rw [if_neg c16] at H
   have c16b0 : (a1 == a2) = false:=beq_eq_false_iff_ne.mpr c16
   have c16b1 : (a1 != a2) = true:=bne_iff_ne.mpr c16
   (first|rw [c16b0]|(simp only [i64_w,i32_w];rw [c16b0])|skip)
   by_cases c17 : t377 = true
   ·subst c17
    have H1 : (if t378 = true then (impl_LimitOf.j0 k t375 t376 true t378 false a0_0 l0_1 l0_2 a0_3 a0_4 a0_5 a0_6 a0_7 l0_8 a0_9) else ((impl_IsSite.f a0_0 l0_1 l0_2 a0_3 a0_4 a0_5 a0_6 a0_7 l0_8 a0_9 a2).bind fun t379 => (impl_LimitOf.j0 k t375 t376 true t378 (!t379) a0_0 l0_1 l0_2 a0_3 a0_4 a0_5 a0_6 a0_7 l0_8 a0_9))) = some r:=by rw [if_pos rfl] at H;exact H
    clear H
    have H:=H1
    clear H1
    by_cases c18 : t378 = true
    ·subst c18
     have H1 : (impl_LimitOf.j0 k t375 t376 true true false a0_0 l0_1 l0_2 a0_3 a0_4 a0_5 a0_6 a0_7 l0_8 a0_9) = some r:=by rw [if_pos rfl] at H;exact H
     clear H
     have H:=H1
     clear H1
     have H':=Aside0.mk H
     clear H
     go_wp2
     go_meet
     case rel => exact ⟨_,(false),(by first|rfl|(simp;done)|(simp [*];done)),H',⟨by first|omega|exact Nat.le_refl _⟩,⟨by (with_reducible repeat (first|refine blk_drewN ?_ _|refine blk_drew ?_|refine blk_alloc ?_ _));exact BK374.out⟩,⟨by repeat (first|(with_reducible first|exact HB.out|apply below_alloc|apply pw_below_drewN|apply below_drew1|refine below_set ?_ GE374.out)|exact HB.out)⟩⟩
    ·replace c18:=Bool.eq_false_iff.mpr c18
     subst c18
     have H1 : ((impl_IsSite.f a0_0 l0_1 l0_2 a0_3 a0_4 a0_5 a0_6 a0_7 l0_8 a0_9 a2).bind fun t379 => (impl_LimitOf.j0 k t375 t376 true false (!t379) a0_0 l0_1 l0_2 a0_3 a0_4 a0_5 a0_6 a0_7 l0_8 a0_9)) = some r:=by rw [if_neg (show ¬ (false = true) by decide)] at H;exact H
     clear H
     have H:=H1
     clear H1
     replace H:=Option.bind_eq_some_iff.mp H
     obtain ⟨t379,A190,H⟩:=H
     replace H : (impl_LimitOf.j0 k t375 t376 true false (!t379) a0_0 l0_1 l0_2 a0_3 a0_4 a0_5 a0_6 a0_7 l0_8 a0_9) = some r:=H
     have A19:=Aside0.mk A190
     clear A190
     have H':=Aside0.mk H
     clear H
     have hcz20_0 : w15.cell? ⟨gb374,0,none⟩ = some (.int .i64 a0_0):=(blk_cell BK374.out 0).trans rfl
     have hcz20_1 : w15.cell? ⟨gb374,1,none⟩ = some (.slice A0_1 l0_1.length c0_1):=(blk_cell BK374.out 1).trans rfl
     have hcz20_2 : w15.cell? ⟨gb374,2,none⟩ = some (.slice A0_2 l0_2.length c0_2):=(blk_cell BK374.out 2).trans rfl
     have hcz20_3 : w15.cell? ⟨gb374,3,none⟩ = some (.int .i64 a0_3):=(blk_cell BK374.out 3).trans rfl
     have hcz20_4 : w15.cell? ⟨gb374,4,none⟩ = some (.int .i64 a0_4):=(blk_cell BK374.out 4).trans rfl
     have hcz20_5 : w15.cell? ⟨gb374,5,none⟩ = some (.int .i64 a0_5):=(blk_cell BK374.out 5).trans rfl
     have hcz20_6 : w15.cell? ⟨gb374,6,none⟩ = some (.int .i64 a0_6):=(blk_cell BK374.out 6).trans rfl
     have hcz20_7 : w15.cell? ⟨gb374,7,none⟩ = some (.int .i64 a0_7):=(blk_cell BK374.out 7).trans rfl
     have hcz20_8 : w15.cell? ⟨gb374,8,none⟩ = some (.slice A0_8 l0_8.length c0_8):=(blk_cell BK374.out 8).trans rfl
     have hcz20_9 : w15.cell? ⟨gb374,9,none⟩ = some (.int .i64 a0_9):=(blk_cell BK374.out 9).trans rfl
     have hfz20_0:=blk_frozen BK374.out 0
     have hfz20_1:=blk_frozen BK374.out 1
     have hfz20_2:=blk_frozen BK374.out 2
     have hfz20_3:=blk_frozen BK374.out 3
     have hfz20_4:=blk_frozen BK374.out 4
     have hfz20_5:=blk_frozen BK374.out 5
     have hfz20_6:=blk_frozen BK374.out 6
     have hfz20_7:=blk_frozen BK374.out 7
     have hfz20_8:=blk_frozen BK374.out 8
     have hfz20_9:=blk_frozen BK374.out 9
     go_wp2_with (first|(go_at_call 7;(with_reducible refine (impl_IsSite.calls a0_0 _ _ l0_1 _ _ l0_2 a0_3 a0_4 a0_5 a0_6 a0_7 _ _ l0_8 a0_9 a2 t379 _ ?side1 ?side2 ?side3 ?side4 ?side5 ?side6 A19.out).mono ?_);(case side1 => repeat (first|exact (Kd.C_below HR0_1.out HB.out)|(with_reducible refine Kd.C_alloc ?_ _)|(with_reducible refine Kd.C_drewN ?_ _)|(with_reducible refine Kd.C_drew ?_)));(case side2 => exact HC0_1.out);(case side3 => repeat (first|exact (Kd.C_below HR0_2.out HB.out)|(with_reducible refine Kd.C_alloc ?_ _)|(with_reducible refine Kd.C_drewN ?_ _)|(with_reducible refine Kd.C_drew ?_)));(case side4 => exact HC0_2.out);(case side5 => repeat (first|exact (Kd.C_below HR0_8.out HB.out)|(with_reducible refine Kd.C_alloc ?_ _)|(with_reducible refine Kd.C_drewN ?_ _)|(with_reducible refine Kd.C_drew ?_)));(case side6 => exact HC0_8.out);rintro e w21 ⟨rfl,hb⟩;replace BK374:=Aside0.mk (blk_below (g:=gb374) (o:=.cells #[.int .i64 a0_0,.slice A0_1 l0_1.length c0_1,.slice A0_2 l0_2.length c0_2,.int .i64 a0_3,.int .i64 a0_4,.int .i64 a0_5,.int .i64 a0_6,.int .i64 a0_7,.slice A0_8 l0_8.length c0_8,.int .i64 a0_9] 28 (0,0)) (by (with_reducible repeat (first|refine blk_drewN ?_ _|refine blk_drew ?_|refine blk_alloc ?_ _));exact BK374.out) hb);replace HB:=Aside0.mk (below_step (by repeat (first|(with_reducible first|exact HB.out|apply below_alloc|apply pw_below_drewN|apply below_drew1|refine below_set ?_ GE374.out)|exact HB.out)) hb);(try clear hb);(try clear hb2);(try clear hk);(try clear hi)))
     go_meet
     case rel => exact ⟨_,(!t379),(by first|rfl|(simp;done)|(simp [*];done)),H',⟨by first|omega|exact Nat.le_refl _⟩,⟨by (with_reducible repeat (first|refine blk_drewN ?_ _|refine blk_drew ?_|refine blk_alloc ?_ _));exact BK374.out⟩,⟨by repeat (first|(with_reducible first|exact HB.out|apply below_alloc|apply pw_below_drewN|apply below_drew1|refine below_set ?_ GE374.out)|exact HB.out)⟩⟩
   ·replace c17:=Bool.eq_false_iff.mpr c17
    subst c17
    have H1 : ((impl_IsSite.f a0_0 l0_1 l0_2 a0_3 a0_4 a0_5 a0_6 a0_7 l0_8 a0_9 a1).bind fun t380 => (if t380 = true then (if t378 = true then (impl_LimitOf.j0 k t375 t376 false t378 false a0_0 l0_1 l0_2 a0_3 a0_4 a0_5 a0_6 a0_7 l0_8 a0_9) else ((impl_IsSite.f a0_0 l0_1 l0_2 a0_3 a0_4 a0_5 a0_6 a0_7 l0_8 a0_9 a2).bind fun t381 => (impl_LimitOf.j0 k t375 t376 false t378 (!t381) a0_0 l0_1 l0_2 a0_3 a0_4 a0_5 a0_6 a0_7 l0_8 a0_9))) else (impl_LimitOf.j0 k t375 t376 false t378 true a0_0 l0_1 l0_2 a0_3 a0_4 a0_5 a0_6 a0_7 l0_8 a0_9))) = some r:=by rw [if_neg (show ¬ (false = true) by decide)] at H;exact H
    clear H
    have H:=H1
    clear H1
    replace H:=Option.bind_eq_some_iff.mp H
    obtain ⟨t380,A220,H⟩:=H
    replace H : (if t380 = true then (if t378 = true then (impl_LimitOf.j0 k t375 t376 false t378 false a0_0 l0_1 l0_2 a0_3 a0_4 a0_5 a0_6 a0_7 l0_8 a0_9) else ((impl_IsSite.f a0_0 l0_1 l0_2 a0_3 a0_4 a0_5 a0_6 a0_7 l0_8 a0_9 a2).bind fun t381 => (impl_LimitOf.j0 k t375 t376 false t378 (!t381) a0_0 l0_1 l0_2 a0_3 a0_4 a0_5 a0_6 a0_7 l0_8 a0_9))) else (impl_LimitOf.j0 k t375 t376 false t378 true a0_0 l0_1 l0_2 a0_3 a0_4 a0_5 a0_6 a0_7 l0_8 a0_9)) = some r:=H
    have A22:=Aside0.mk A220
    clear A220
    by_cases c23 : t380 = true
    ·subst c23
     have H1 : (if t378 = true then (impl_LimitOf.j0 k t375 t376 false t378 false a0_0 l0_1 l0_2 a0_3 a0_4 a0_5 a0_6 a0_7 l0_8 a0_9) else ((impl_IsSite.f a0_0 l0_1 l0_2 a0_3 a0_4 a0_5 a0_6 a0_7 l0_8 a0_9 a2).bind fun t381 => (impl_LimitOf.j0 k t375 t376 false t378 (!t381) a0_0 l0_1 l0_2 a0_3 a0_4 a0_5 a0_6 a0_7 l0_8 a0_9))) = some r:=by rw [if_pos rfl] at H;exact H
     clear H
     have H:=H1
     clear H1
     by_cases c24 : t378 = true
     ·subst c24
      have H1 : (impl_LimitOf.j0 k t375 t376 false true false a0_0 l0_1 l0_2 a0_3 a0_4 a0_5 a0_6 a0_7 l0_8 a0_9) = some r:=by rw [if_pos rfl] at H;exact H
      clear H
      have H:=H1
      clear H1
      have H':=Aside0.mk H
      clear H
      have hcz25_0 : w15.cell? ⟨gb374,0,none⟩ = some (.int .i64 a0_0):=(blk_cell BK374.out 0).trans rfl
      have hcz25_1 : w15.cell? ⟨gb374,1,none⟩ = some (.slice A0_1 l0_1.length c0_1):=(blk_cell BK374.out 1).trans rfl
      have hcz25_2 : w15.cell? ⟨gb374,2,none⟩ = some (.slice A0_2 l0_2.length c0_2):=(blk_cell BK374.out 2).trans rfl
      have hcz25_3 : w15.cell? ⟨gb374,3,none⟩ = some (.int .i64 a0_3):=(blk_cell BK374.out 3).trans rfl
      have hcz25_4 : w15.cell? ⟨gb374,4,none⟩ = some (.int .i64 a0_4):=(blk_cell BK374.out 4).trans rfl
      have hcz25_5 : w15.cell? ⟨gb374,5,none⟩ = some (.int .i64 a0_5):=(blk_cell BK374.out 5).trans rfl
      have hcz25_6 : w15.cell? ⟨gb374,6,none⟩ = some (.int .i64 a0_6):=(blk_cell BK374.out 6).trans rfl
      have hcz25_7 : w15.cell? ⟨gb374,7,none⟩ = some (.int .i64 a0_7):=(blk_cell BK374.out 7).trans rfl
      have hcz25_8 : w15.cell? ⟨gb374,8,none⟩ = some (.slice A0_8 l0_8.length c0_8):=(blk_cell BK374.out 8).trans rfl
      have hcz25_9 : w15.cell? ⟨gb374,9,none⟩ = some (.int .i64 a0_9):=(blk_cell BK374.out 9).trans rfl
      have hfz25_0:=blk_frozen BK374.out 0
      have hfz25_1:=blk_frozen BK374.out 1
      have hfz25_2:=blk_frozen BK374.out 2
      have hfz25_3:=blk_frozen BK374.out 3
      have hfz25_4:=blk_frozen BK374.out 4
      have hfz25_5:=blk_frozen BK374.out 5
      have hfz25_6:=blk_frozen BK374.out 6
      have hfz25_7:=blk_frozen BK374.out 7
      have hfz25_8:=blk_frozen BK374.out 8
      have hfz25_9:=blk_frozen BK374.out 9
      go_wp2_with (first|(go_at_call 7;(with_reducible refine (impl_IsSite.calls a0_0 _ _ l0_1 _ _ l0_2 a0_3 a0_4 a0_5 a0_6 a0_7 _ _ l0_8 a0_9 a1 true _ ?side1 ?side2 ?side3 ?side4 ?side5 ?side6 A22.out).mono ?_);(case side1 => repeat (first|exact (Kd.C_below HR0_1.out HB.out)|(with_reducible refine Kd.C_alloc ?_ _)|(with_reducible refine Kd.C_drewN ?_ _)|(with_reducible refine Kd.C_drew ?_)));(case side2 => exact HC0_1.out);(case side3 => repeat (first|exact (Kd.C_below HR0_2.out HB.out)|(with_reducible refine Kd.C_alloc ?_ _)|(with_reducible refine Kd.C_drewN ?_ _)|(with_reducible refine Kd.C_drew ?_)));(case side4 => exact HC0_2.out);(case side5 => repeat (first|exact (Kd.C_below HR0_8.out HB.out)|(with_reducible refine Kd.C_alloc ?_ _)|(with_reducible refine Kd.C_drewN ?_ _)|(with_reducible refine Kd.C_drew ?_)));(case side6 => exact HC0_8.out);rintro e w26 ⟨rfl,hb⟩;replace BK374:=Aside0.mk (blk_below (g:=gb374) (o:=.cells #[.int .i64 a0_0,.slice A0_1 l0_1.length c0_1,.slice A0_2 l0_2.length c0_2,.int .i64 a0_3,.int .i64 a0_4,.int .i64 a0_5,.int .i64 a0_6,.int .i64 a0_7,.slice A0_8 l0_8.length c0_8,.int .i64 a0_9] 28 (0,0)) (by (with_reducible repeat (first|refine blk_drewN ?_ _|refine blk_drew ?_|refine blk_alloc ?_ _));exact BK374.out) hb);replace HB:=Aside0.mk (below_step (by repeat (first|(with_reducible first|exact HB.out|apply below_alloc|apply pw_below_drewN|apply below_drew1|refine below_set ?_ GE374.out)|exact HB.out)) hb);(try clear hb);(try clear hb2);(try clear hk);(try clear hi)))
      go_meet
      case rel => exact ⟨_,(false),(by first|rfl|(simp;done)|(simp [*];done)),H',⟨by first|omega|exact Nat.le_refl _⟩,⟨by (with_reducible repeat (first|refine blk_drewN ?_ _|refine blk_drew ?_|refine blk_alloc ?_ _));exact BK374.out⟩,⟨by repeat (first|(with_reducible first|exact HB.out|apply below_alloc|apply pw_below_drewN|apply below_drew1|refine below_set ?_ GE374.out)|exact HB.out)⟩⟩
     ·replace c24:=Bool.eq_false_iff.mpr c24
      subst c24
      have H1 : ((impl_IsSite.f a0_0 l0_1 l0_2 a0_3 a0_4 a0_5 a0_6 a0_7 l0_8 a0_9 a2).bind fun t381 => (impl_LimitOf.j0 k t375 t376 false false (!t381) a0_0 l0_1 l0_2 a0_3 a0_4 a0_5 a0_6 a0_7 l0_8 a0_9)) = some r:=by rw [if_neg (show ¬ (false = true) by decide)] at H;exact H
      clear H
      have H:=H1
      clear H1
      replace H:=Option.bind_eq_some_iff.mp H
      obtain ⟨t381,A270,H⟩:=H
      replace H : (impl_LimitOf.j0 k t375 t376 false false (!t381) a0_0 l0_1 l0_2 a0_3 a0_4 a0_5 a0_6 a0_7 l0_8 a0_9) = some r:=H
      have A27:=Aside0.mk A270
      clear A270
      have H':=Aside0.mk H
      clear H
      have hcz28_0 : w15.cell? ⟨gb374,0,none⟩ = some (.int .i64 a0_0):=(blk_cell BK374.out 0).trans rfl
      have hcz28_1 : w15.cell? ⟨gb374,1,none⟩ = some (.slice A0_1 l0_1.length c0_1):=(blk_cell BK374.out 1).trans rfl
      have hcz28_2 : w15.cell? ⟨gb374,2,none⟩ = some (.slice A0_2 l0_2.length c0_2):=(blk_cell BK374.out 2).trans rfl
      have hcz28_3 : w15.cell? ⟨gb374,3,none⟩ = some (.int .i64 a0_3):=(blk_cell BK374.out 3).trans rfl
      have hcz28_4 : w15.cell? ⟨gb374,4,none⟩ = some (.int .i64 a0_4):=(blk_cell BK374.out 4).trans rfl
      have hcz28_5 : w15.cell? ⟨gb374,5,none⟩ = some (.int .i64 a0_5):=(blk_cell BK374.out 5).trans rfl
      have hcz28_6 : w15.cell? ⟨gb374,6,none⟩ = some (.int .i64 a0_6):=(blk_cell BK374.out 6).trans rfl
      have hcz28_7 : w15.cell? ⟨gb374,7,none⟩ = some (.int .i64 a0_7):=(blk_cell BK374.out 7).trans rfl
      have hcz28_8 : w15.cell? ⟨gb374,8,none⟩ = some (.slice A0_8 l0_8.length c0_8):=(blk_cell BK374.out 8).trans rfl
      have hcz28_9 : w15.cell? ⟨gb374,9,none⟩ = some (.int .i64 a0_9):=(blk_cell BK374.out 9).trans rfl
      have hfz28_0:=blk_frozen BK374.out 0
      have hfz28_1:=blk_frozen BK374.out 1
      have hfz28_2:=blk_frozen BK374.out 2
      have hfz28_3:=blk_frozen BK374.out 3
      have hfz28_4:=blk_frozen BK374.out 4
      have hfz28_5:=blk_frozen BK374.out 5
      have hfz28_6:=blk_frozen BK374.out 6
      have hfz28_7:=blk_frozen BK374.out 7
      have hfz28_8:=blk_frozen BK374.out 8
      have hfz28_9:=blk_frozen BK374.out 9
      go_wp2_with (first|(go_at_call 7;(with_reducible refine (impl_IsSite.calls a0_0 _ _ l0_1 _ _ l0_2 a0_3 a0_4 a0_5 a0_6 a0_7 _ _ l0_8 a0_9 a1 true _ ?side1 ?side2 ?side3 ?side4 ?side5 ?side6 A22.out).mono ?_);(case side1 => repeat (first|exact (Kd.C_below HR0_1.out HB.out)|(with_reducible refine Kd.C_alloc ?_ _)|(with_reducible refine Kd.C_drewN ?_ _)|(with_reducible refine Kd.C_drew ?_)));(case side2 => exact HC0_1.out);(case side3 => repeat (first|exact (Kd.C_below HR0_2.out HB.out)|(with_reducible refine Kd.C_alloc ?_ _)|(with_reducible refine Kd.C_drewN ?_ _)|(with_reducible refine Kd.C_drew ?_)));(case side4 => exact HC0_2.out);(case side5 => repeat (first|exact (Kd.C_below HR0_8.out HB.out)|(with_reducible refine Kd.C_alloc ?_ _)|(with_reducible refine Kd.C_drewN ?_ _)|(with_reducible refine Kd.C_drew ?_)));(case side6 => exact HC0_8.out);rintro e w29 ⟨rfl,hb⟩;replace BK374:=Aside0.mk (blk_below (g:=gb374) (o:=.cells #[.int .i64 a0_0,.slice A0_1 l0_1.length c0_1,.slice A0_2 l0_2.length c0_2,.int .i64 a0_3,.int .i64 a0_4,.int .i64 a0_5,.int .i64 a0_6,.int .i64 a0_7,.slice A0_8 l0_8.length c0_8,.int .i64 a0_9] 28 (0,0)) (by (with_reducible repeat (first|refine blk_drewN ?_ _|refine blk_drew ?_|refine blk_alloc ?_ _));exact BK374.out) hb);replace HB:=Aside0.mk (below_step (by repeat (first|(with_reducible first|exact HB.out|apply below_alloc|apply pw_below_drewN|apply below_drew1|refine below_set ?_ GE374.out)|exact HB.out)) hb);(try clear hb);(try clear hb2);(try clear hk);(try clear hi);have hcz30_0 : w29.cell? ⟨gb374,0,none⟩ = some (.int .i64 a0_0):=(blk_cell BK374.out 0).trans rfl;have hcz30_1 : w29.cell? ⟨gb374,1,none⟩ = some (.slice A0_1 l0_1.length c0_1):=(blk_cell BK374.out 1).trans rfl;have hcz30_2 : w29.cell? ⟨gb374,2,none⟩ = some (.slice A0_2 l0_2.length c0_2):=(blk_cell BK374.out 2).trans rfl;have hcz30_3 : w29.cell? ⟨gb374,3,none⟩ = some (.int .i64 a0_3):=(blk_cell BK374.out 3).trans rfl;have hcz30_4 : w29.cell? ⟨gb374,4,none⟩ = some (.int .i64 a0_4):=(blk_cell BK374.out 4).trans rfl;have hcz30_5 : w29.cell? ⟨gb374,5,none⟩ = some (.int .i64 a0_5):=(blk_cell BK374.out 5).trans rfl;have hcz30_6 : w29.cell? ⟨gb374,6,none⟩ = some (.int .i64 a0_6):=(blk_cell BK374.out 6).trans rfl;have hcz30_7 : w29.cell? ⟨gb374,7,none⟩ = some (.int .i64 a0_7):=(blk_cell BK374.out 7).trans rfl;have hcz30_8 : w29.cell? ⟨gb374,8,none⟩ = some (.slice A0_8 l0_8.length c0_8):=(blk_cell BK374.out 8).trans rfl;have hcz30_9 : w29.cell? ⟨gb374,9,none⟩ = some (.int .i64 a0_9):=(blk_cell BK374.out 9).trans rfl;have hfz30_0:=blk_frozen BK374.out 0;have hfz30_1:=blk_frozen BK374.out 1;have hfz30_2:=blk_frozen BK374.out 2;have hfz30_3:=blk_frozen BK374.out 3;have hfz30_4:=blk_frozen BK374.out 4;have hfz30_5:=blk_frozen BK374.out 5;have hfz30_6:=blk_frozen BK374.out 6;have hfz30_7:=blk_frozen BK374.out 7;have hfz30_8:=blk_frozen BK374.out 8;have hfz30_9:=blk_frozen BK374.out 9)|(go_at_call 7;(with_reducible refine (impl_IsSite.calls a0_0 _ _ l0_1 _ _ l0_2 a0_3 a0_4 a0_5 a0_6 a0_7 _ _ l0_8 a0_9 a2 t381 _ ?side1 ?side2 ?side3 ?side4 ?side5 ?side6 A27.out).mono ?_);(case side1 => repeat (first|exact (Kd.C_below HR0_1.out HB.out)|(with_reducible refine Kd.C_alloc ?_ _)|(with_reducible refine Kd.C_drewN ?_ _)|(with_reducible refine Kd.C_drew ?_)));(case side2 => exact HC0_1.out);(case side3 => repeat (first|exact (Kd.C_below HR0_2.out HB.out)|(with_reducible refine Kd.C_alloc ?_ _)|(with_reducible refine Kd.C_drewN ?_ _)|(with_reducible refine Kd.C_drew ?_)));(case side4 => exact HC0_2.out);(case side5 => repeat (first|exact (Kd.C_below HR0_8.out HB.out)|(with_reducible refine Kd.C_alloc ?_ _)|(with_reducible refine Kd.C_drewN ?_ _)|(with_reducible refine Kd.C_drew ?_)));(case side6 => exact HC0_8.out);rintro e w31 ⟨rfl,hb⟩;replace BK374:=Aside0.mk (blk_below (g:=gb374) (o:=.cells #[.int .i64 a0_0,.slice A0_1 l0_1.length c0_1,.slice A0_2 l0_2.length c0_2,.int .i64 a0_3,.int .i64 a0_4,.int .i64 a0_5,.int .i64 a0_6,.int .i64 a0_7,.slice A0_8 l0_8.length c0_8,.int .i64 a0_9] 28 (0,0)) (by (with_reducible repeat (first|refine blk_drewN ?_ _|refine blk_drew ?_|refine blk_alloc ?_ _));exact BK374.out) hb);replace HB:=Aside0.mk (below_step (by repeat (first|(with_reducible first|exact HB.out|apply below_alloc|apply pw_below_drewN|apply below_drew1|refine below_set ?_ GE374.out)|exact HB.out)) hb);(try clear hb);(try clear hb2);(try clear hk);(try clear hi)))
      go_meet
      case rel => exact ⟨_,(!t381),(by first|rfl|(simp;done)|(simp [*];done)),H',⟨by first|omega|exact Nat.le_refl _⟩,⟨by (with_reducible repeat (first|refine blk_drewN ?_ _|refine blk_drew ?_|refine blk_alloc ?_ _));exact BK374.out⟩,⟨by repeat (first|(with_reducible first|exact HB.out|apply below_alloc|apply pw_below_drewN|apply below_drew1|refine below_set ?_ GE374.out)|exact HB.out)⟩⟩
    ·replace c23:=Bool.eq_false_iff.mpr c23
     subst c23
     have H1 : (impl_LimitOf.j0 k t375 t376 false t378 true a0_0 l0_1 l0_2 a0_3 a0_4 a0_5 a0_6 a0_7 l0_8 a0_9) = some r:=by rw [if_neg (show ¬ (false = true) by decide)] at H;exact H
     clear H
     have H:=H1
     clear H1
     have H':=Aside0.mk H
     clear H
     have hcz32_0 : w15.cell? ⟨gb374,0,none⟩ = some (.int .i64 a0_0):=(blk_cell BK374.out 0).trans rfl
     have hcz32_1 : w15.cell? ⟨gb374,1,none⟩ = some (.slice A0_1 l0_1.length c0_1):=(blk_cell BK374.out 1).trans rfl
     have hcz32_2 : w15.cell? ⟨gb374,2,none⟩ = some (.slice A0_2 l0_2.length c0_2):=(blk_cell BK374.out 2).trans rfl
     have hcz32_3 : w15.cell? ⟨gb374,3,none⟩ = some (.int .i64 a0_3):=(blk_cell BK374.out 3).trans rfl
     have hcz32_4 : w15.cell? ⟨gb374,4,none⟩ = some (.int .i64 a0_4):=(blk_cell BK374.out 4).trans rfl
     have hcz32_5 : w15.cell? ⟨gb374,5,none⟩ = some (.int .i64 a0_5):=(blk_cell BK374.out 5).trans rfl
     have hcz32_6 : w15.cell? ⟨gb374,6,none⟩ = some (.int .i64 a0_6):=(blk_cell BK374.out 6).trans rfl
     have hcz32_7 : w15.cell? ⟨gb374,7,none⟩ = some (.int .i64 a0_7):=(blk_cell BK374.out 7).trans rfl
     have hcz32_8 : w15.cell? ⟨gb374,8,none⟩ = some (.slice A0_8 l0_8.length c0_8):=(blk_cell BK374.out 8).trans rfl
     have hcz32_9 : w15.cell? ⟨gb374,9,none⟩ = some (.int .i64 a0_9):=(blk_cell BK374.out 9).trans rfl
     have hfz32_0:=blk_frozen BK374.out 0
     have hfz32_1:=blk_frozen BK374.out 1
     have hfz32_2:=blk_frozen BK374.out 2
     have hfz32_3:=blk_frozen BK374.out 3
     have hfz32_4:=blk_frozen BK374.out 4
     have hfz32_5:=blk_frozen BK374.out 5
     have hfz32_6:=blk_frozen BK374.out 6
     have hfz32_7:=blk_frozen BK374.out 7
     have hfz32_8:=blk_frozen BK374.out 8
     have hfz32_9:=blk_frozen BK374.out 9
     go_wp2_with (first|(go_at_call 7;(with_reducible refine (impl_IsSite.calls a0_0 _ _ l0_1 _ _ l0_2 a0_3 a0_4 a0_5 a0_6 a0_7 _ _ l0_8 a0_9 a1 false _ ?side1 ?side2 ?side3 ?side4 ?side5 ?side6 A22.out).mono ?_);(case side1 => repeat (first|exact (Kd.C_below HR0_1.out HB.out)|(with_reducible refine Kd.C_alloc ?_ _)|(with_reducible refine Kd.C_drewN ?_ _)|(with_reducible refine Kd.C_drew ?_)));(case side2 => exact HC0_1.out);(case side3 => repeat (first|exact (Kd.C_below HR0_2.out HB.out)|(with_reducible refine Kd.C_alloc ?_ _)|(with_reducible refine Kd.C_drewN ?_ _)|(with_reducible refine Kd.C_drew ?_)));(case side4 => exact HC0_2.out);(case side5 => repeat (first|exact (Kd.C_below HR0_8.out HB.out)|(with_reducible refine Kd.C_alloc ?_ _)|(with_reducible refine Kd.C_drewN ?_ _)|(with_reducible refine Kd.C_drew ?_)));(case side6 => exact HC0_8.out);rintro e w33 ⟨rfl,hb⟩;replace BK374:=Aside0.mk (blk_below (g:=gb374) (o:=.cells #[.int .i64 a0_0,.slice A0_1 l0_1.length c0_1,.slice A0_2 l0_2.length c0_2,.int .i64 a0_3,.int .i64 a0_4,.int .i64 a0_5,.int .i64 a0_6,.int .i64 a0_7,.slice A0_8 l0_8.length c0_8,.int .i64 a0_9] 28 (0,0)) (by (with_reducible repeat (first|refine blk_drewN ?_ _|refine blk_drew ?_|refine blk_alloc ?_ _));exact BK374.out) hb);replace HB:=Aside0.mk (below_step (by repeat (first|(with_reducible first|exact HB.out|apply below_alloc|apply pw_below_drewN|apply below_drew1|refine below_set ?_ GE374.out)|exact HB.out)) hb);(try clear hb);(try clear hb2);(try clear hk);(try clear hi)))
     go_meet
     case rel => exact ⟨_,(true),(by first|rfl|(simp;done)|(simp [*];done)),H',⟨by first|omega|exact Nat.le_refl _⟩,⟨by (with_reducible repeat (first|refine blk_drewN ?_ _|refine blk_drew ?_|refine blk_alloc ?_ _));exact BK374.out⟩,⟨by repeat (first|(with_reducible first|exact HB.out|apply below_alloc|apply pw_below_drewN|apply below_drew1|refine below_set ?_ GE374.out)|exact HB.out)⟩⟩
 case rest =>
  clear HC8
  obtain ⟨kq,x45_7,rfl,HA,HJ7,BK374,HB⟩:=hcut
  cases kq with
  | zero => exact absurd HA.out (by simp [impl_LimitOf.j0])
  | succ kj7 =>
   have H:=HA.out
   clear HA
   simp only [impl_LimitOf.j0] at H
   by_cases c34 : x45_7 = true
   ·subst c34
    have H1 : (some (-1)) = some r:=by rw [if_pos rfl] at H;exact H
    clear H
    have H:=H1
    clear H1
    obtain rfl:=Option.some.inj H
    go_wp2
    go_ret
    exact ⟨by first|rfl|(simp [errW_none,errW_some] <;> rfl)|(simp [*,errW_none,errW_some] <;> rfl),by repeat (first|(with_reducible first|exact HB.out|apply below_alloc|apply pw_below_drewN|apply below_drew1|refine below_set ?_ GE374.out)|exact HB.out)⟩
   ·replace c34:=Bool.eq_false_iff.mpr c34
    subst c34
    have H1 : (if t377 = true then (if t378 = true then (impl_LimitOf.j1 kj7 t375 t376 t377 t378 (t375 == t376) a0_0 l0_1 l0_2 a0_3 a0_4 a0_5 a0_6 a0_7 l0_8 a0_9) else (impl_LimitOf.j1 kj7 t375 t376 t377 t378 false a0_0 l0_1 l0_2 a0_3 a0_4 a0_5 a0_6 a0_7 l0_8 a0_9)) else (impl_LimitOf.j1 kj7 t375 t376 t377 t378 false a0_0 l0_1 l0_2 a0_3 a0_4 a0_5 a0_6 a0_7 l0_8 a0_9)) = some r:=by rw [if_neg (show ¬ (false = true) by decide)] at H;exact H
    clear H
    have H:=H1
    clear H1
    have HC35:=Aside0.mk H
    clear H
    go_upto_region 5 with (fail)
    go_cut [46] (fun v46 wc => ∃ (kq : Nat) (x46_34 : Bool),v46 = .bool x46_34 ∧ Aside0 (impl_LimitOf.j1 kq t375 t376 t377 t378 x46_34 a0_0 l0_1 l0_2 a0_3 a0_4 a0_5 a0_6 a0_7 l0_8 a0_9 = some r) ∧ Aside0 (kq ≤ kj7) ∧ Aside0 (wc.heap[gb374]? = some (.cells #[.int .i64 a0_0,(.slice A0_1 l0_1.length c0_1),(.slice A0_2 l0_2.length c0_2),.int .i64 a0_3,.int .i64 a0_4,.int .i64 a0_5,.int .i64 a0_6,.int .i64 a0_7,(.slice A0_8 l0_8.length c0_8),.int .i64 a0_9] 28 (0,0))) ∧ Aside0 (Below w.heap.size w wc))
    case first =>
     have H:=HC35.out
     clear HC35
     by_cases c36 : t377 = true
     ·subst c36
      have H1 : (if t378 = true then (impl_LimitOf.j1 kj7 t375 t376 true t378 (t375 == t376) a0_0 l0_1 l0_2 a0_3 a0_4 a0_5 a0_6 a0_7 l0_8 a0_9) else (impl_LimitOf.j1 kj7 t375 t376 true t378 false a0_0 l0_1 l0_2 a0_3 a0_4 a0_5 a0_6 a0_7 l0_8 a0_9)) = some r:=by rw [if_pos rfl] at H;exact H
      clear H
      have H:=H1
      clear H1
      by_cases c37 : t378 = true
      ·subst c37
       have H1 : (impl_LimitOf.j1 kj7 t375 t376 true true (t375 == t376) a0_0 l0_1 l0_2 a0_3 a0_4 a0_5 a0_6 a0_7 l0_8 a0_9) = some r:=by rw [if_pos rfl] at H;exact H
       clear H
       have H:=H1
       clear H1
       have H':=Aside0.mk H
       clear H
       go_wp2
       go_meet
       case rel => exact ⟨_,((t375 == t376)),(by first|rfl|(simp;done)|(simp [*];done)),H',⟨by have:=HJ7.out;first|omega|exact Nat.le_refl _⟩,⟨by (with_reducible repeat (first|refine blk_drewN ?_ _|refine blk_drew ?_|refine blk_alloc ?_ _));exact BK374.out⟩,⟨by repeat (first|(with_reducible first|exact HB.out|apply below_alloc|apply pw_below_drewN|apply below_drew1|refine below_set ?_ GE374.out)|exact HB.out)⟩⟩
      ·replace c37:=Bool.eq_false_iff.mpr c37
       subst c37
       have H1 : (impl_LimitOf.j1 kj7 t375 t376 true false false a0_0 l0_1 l0_2 a0_3 a0_4 a0_5 a0_6 a0_7 l0_8 a0_9) = some r:=by rw [if_neg (show ¬ (false = true) by decide)] at H;exact H
       clear H
       have H:=H1
       clear H1
       have H':=Aside0.mk H
       clear H
       go_wp2
       go_meet
       case rel => exact ⟨_,(false),(by first|rfl|(simp;done)|(simp [*];done)),H',⟨by have:=HJ7.out;first|omega|exact Nat.le_refl _⟩,⟨by (with_reducible repeat (first|refine blk_drewN ?_ _|refine blk_drew ?_|refine blk_alloc ?_ _));exact BK374.out⟩,⟨by repeat (first|(with_reducible first|exact HB.out|apply below_alloc|apply pw_below_drewN|apply below_drew1|refine below_set ?_ GE374.out)|exact HB.out)⟩⟩
     ·replace c36:=Bool.eq_false_iff.mpr c36
      subst c36
      have H1 : (impl_LimitOf.j1 kj7 t375 t376 false t378 false a0_0 l0_1 l0_2 a0_3 a0_4 a0_5 a0_6 a0_7 l0_8 a0_9) = some r:=by rw [if_neg (show ¬ (false = true) by decide)] at H;exact H
      clear H
      have H:=H1
      clear H1
      have H':=Aside0.mk H
      clear H
      go_wp2
      go_meet
      case rel => exact ⟨_,(false),(by first|rfl|(simp;done)|(simp [*];done)),H',⟨by have:=HJ7.out;first|omega|exact Nat.le_refl _⟩,⟨by (with_reducible repeat (first|refine blk_drewN ?_ _|refine blk_drew ?_|refine blk_alloc ?_ _));exact BK374.out⟩,⟨by repeat (first|(with_reducible first|exact HB.out|apply below_alloc|apply pw_below_drewN|apply below_drew1|refine below_set ?_ GE374.out)|exact HB.out)⟩⟩
    case rest =>
     clear HC35
     try clear c34
     obtain ⟨kq,x46_34,rfl,HA,HJ34,BK374,HB⟩:=hcut
     cases kq with
     | zero => exact absurd HA.out (by simp [impl_LimitOf.j1])
     | succ kj34 =>
      have H:=HA.out
      clear HA
      simp only [impl_LimitOf.j1] at H
      by_cases c38 : x46_34 = true
      ·subst c38
       have H1 : (some a0_3) = some r:=by rw [if_pos rfl] at H;exact H
       clear H
       have H:=H1
       clear H1
       obtain rfl:=Option.some.inj H
       have hcz39_0 : wc.cell? ⟨gb374,0,none⟩ = some (.int .i64 a0_0):=(blk_cell BK374.out 0).trans rfl
       have hcz39_1 : wc.cell? ⟨gb374,1,none⟩ = some (.slice A0_1 l0_1.length c0_1):=(blk_cell BK374.out 1).trans rfl
       have hcz39_2 : wc.cell? ⟨gb374,2,none⟩ = some (.slice A0_2 l0_2.length c0_2):=(blk_cell BK374.out 2).trans rfl
       have hcz39_3 : wc.cell? ⟨gb374,3,none⟩ = some (.int .i64 a0_3):=(blk_cell BK374.out 3).trans rfl
       have hcz39_4 : wc.cell? ⟨gb374,4,none⟩ = some (.int .i64 a0_4):=(blk_cell BK374.out 4).trans rfl
       have hcz39_5 : wc.cell? ⟨gb374,5,none⟩ = some (.int .i64 a0_5):=(blk_cell BK374.out 5).trans rfl
       have hcz39_6 : wc.cell? ⟨gb374,6,none⟩ = some (.int .i64 a0_6):=(blk_cell BK374.out 6).trans rfl
       have hcz39_7 : wc.cell? ⟨gb374,7,none⟩ = some (.int .i64 a0_7):=(blk_cell BK374.out 7).trans rfl
       have hcz39_8 : wc.cell? ⟨gb374,8,none⟩ = some (.slice A0_8 l0_8.length c0_8):=(blk_cell BK374.out 8).trans rfl
       have hcz39_9 : wc.cell? ⟨gb374,9,none⟩ = some (.int .i64 a0_9):=(blk_cell BK374.out 9).trans rfl
       have hfz39_0:=blk_frozen BK374.out 0
       have hfz39_1:=blk_frozen BK374.out 1
       have hfz39_2:=blk_frozen BK374.out 2
       have hfz39_3:=blk_frozen BK374.out 3
       have hfz39_4:=blk_frozen BK374.out 4
       have hfz39_5:=blk_frozen BK374.out 5
       have hfz39_6:=blk_frozen BK374.out 6
       have hfz39_7:=blk_frozen BK374.out 7
       have hfz39_8:=blk_frozen BK374.out 8
       have hfz39_9:=blk_frozen BK374.out 9
       go_wp2
       go_ret
       exact ⟨by first|rfl|(simp [errW_none,errW_some] <;> rfl)|(simp [*,errW_none,errW_some] <;> rfl),by repeat (first|(with_reducible first|exact HB.out|apply below_alloc|apply pw_below_drewN|apply below_drew1|refine below_set ?_ GE374.out)|exact HB.out)⟩
      ·replace c38:=Bool.eq_false_iff.mpr c38
       subst c38
       have H1 : (if t377 = true then (if t378 = true then ((impl_areNeighbors.f a0_0 l0_1 l0_2 a0_3 a0_4 a0_5 a0_6 a0_7 l0_8 a0_9 t375 t376).bind fun t382 => (impl_LimitOf.j2 kj34 t375 t376 t377 t378 t382 a0_0 l0_1 l0_2 a0_3 a0_4 a0_5 a0_6 a0_7 l0_8 a0_9)) else (impl_LimitOf.j2 kj34 t375 t376 t377 t378 false a0_0 l0_1 l0_2 a0_3 a0_4 a0_5 a0_6 a0_7 l0_8 a0_9)) else (impl_LimitOf.j2 kj34 t375 t376 t377 t378 false a0_0 l0_1 l0_2 a0_3 a0_4 a0_5 a0_6 a0_7 l0_8 a0_9)) = some r:=by rw [if_neg (show ¬ (false = true) by decide)] at H;exact H
       clear H
       have H:=H1
       clear H1
       have HC40:=Aside0.mk H
       clear H
       go_upto_region 7 with (fail)
       go_cut [58] (fun v58 wc => ∃ (kq : Nat) (x58_39 : Bool),v58 = .bool x58_39 ∧ Aside0 (impl_LimitOf.j2 kq t375 t376 t377 t378 x58_39 a0_0 l0_1 l0_2 a0_3 a0_4 a0_5 a0_6 a0_7 l0_8 a0_9 = some r) ∧ Aside0 (kq ≤ kj34) ∧ Aside0 (wc.heap[gb374]? = some (.cells #[.int .i64 a0_0,(.slice A0_1 l0_1.length c0_1),(.slice A0_2 l0_2.length c0_2),.int .i64 a0_3,.int .i64 a0_4,.int .i64 a0_5,.int .i64 a0_6,.int .i64 a0_7,(.slice A0_8 l0_8.length c0_8),.int .i64 a0_9] 28 (0,0))) ∧ Aside0 (Below w.heap.size w wc))
       case first =>
        have H:=HC40.out
        clear HC40
        by_cases c41 : t377 = true
        ·subst c41
         have H1 : (if t378 = true then ((impl_areNeighbors.f a0_0 l0_1 l0_2 a0_3 a0_4 a0_5 a0_6 a0_7 l0_8 a0_9 t375 t376).bind fun t382 => (impl_LimitOf.j2 kj34 t375 t376 true t378 t382 a0_0 l0_1 l0_2 a0_3 a0_4 a0_5 a0_6 a0_7 l0_8 a0_9)) else (impl_LimitOf.j2 kj34 t375 t376 true t378 false a0_0 l0_1 l0_2 a0_3 a0_4 a0_5 a0_6 a0_7 l0_8 a0_9)) = some r:=by rw [if_pos rfl] at H;exact H
         clear H
         have H:=H1
         clear H1
         by_cases c42 : t378 = true
         ·subst c42
          have H1 : ((impl_areNeighbors.f a0_0 l0_1 l0_2 a0_3 a0_4 a0_5 a0_6 a0_7 l0_8 a0_9 t375 t376).bind fun t382 => (impl_LimitOf.j2 kj34 t375 t376 true true t382 a0_0 l0_1 l0_2 a0_3 a0_4 a0_5 a0_6 a0_7 l0_8 a0_9)) = some r:=by rw [if_pos rfl] at H;exact H
          clear H
          have H:=H1
          clear H1
          replace H:=Option.bind_eq_some_iff.mp H
          obtain ⟨t382,A430,H⟩:=H
          replace H : (impl_LimitOf.j2 kj34 t375 t376 true true t382 a0_0 l0_1 l0_2 a0_3 a0_4 a0_5 a0_6 a0_7 l0_8 a0_9) = some r:=H
          have A43:=Aside0.mk A430
          clear A430
          have H':=Aside0.mk H
          clear H
          have hcz44_0 : wc.cell? ⟨gb374,0,none⟩ = some (.int .i64 a0_0):=(blk_cell BK374.out 0).trans rfl
          have hcz44_1 : wc.cell? ⟨gb374,1,none⟩ = some (.slice A0_1 l0_1.length c0_1):=(blk_cell BK374.out 1).trans rfl
          have hcz44_2 : wc.cell? ⟨gb374,2,none⟩ = some (.slice A0_2 l0_2.length c0_2):=(blk_cell BK374.out 2).trans rfl
          have hcz44_3 : wc.cell? ⟨gb374,3,none⟩ = some (.int .i64 a0_3):=(blk_cell BK374.out 3).trans rfl
          have hcz44_4 : wc.cell? ⟨gb374,4,none⟩ = some (.int .i64 a0_4):=(blk_cell BK374.out 4).trans rfl
          have hcz44_5 : wc.cell? ⟨gb374,5,none⟩ = some (.int .i64 a0_5):=(blk_cell BK374.out 5).trans rfl
          have hcz44_6 : wc.cell? ⟨gb374,6,none⟩ = some (.int .i64 a0_6):=(blk_cell BK374.out 6).trans rfl
          have hcz44_7 : wc.cell? ⟨gb374,7,none⟩ = some (.int .i64 a0_7):=(blk_cell BK374.out 7).trans rfl
          have hcz44_8 : wc.cell? ⟨gb374,8,none⟩ = some (.slice A0_8 l0_8.length c0_8):=(blk_cell BK374.out 8).trans rfl
          have hcz44_9 : wc.cell? ⟨gb374,9,none⟩ = some (.int .i64 a0_9):=(blk_cell BK374.out 9).trans rfl
          have hfz44_0:=blk_frozen BK374.out 0
          have hfz44_1:=blk_frozen BK374.out 1
          have hfz44_2:=blk_frozen BK374.out 2
          have hfz44_3:=blk_frozen BK374.out 3
          have hfz44_4:=blk_frozen BK374.out 4
          have hfz44_5:=blk_frozen BK374.out 5
          have hfz44_6:=blk_frozen BK374.out 6
          have hfz44_7:=blk_frozen BK374.out 7
          have hfz44_8:=blk_frozen BK374.out 8
          have hfz44_9:=blk_frozen BK374.out 9
          go_wp2_with (first|(go_at_call 15;(with_reducible refine (impl_areNeighbors.calls a0_0 _ _ l0_1 _ _ l0_2 a0_3 a0_4 a0_5 a0_6 a0_7 _ _ l0_8 a0_9 t375 t376 t382 _ ?side1 ?side2 ?side3 ?side4 ?side5 ?side6 A43.out).mono ?_);(case side1 => repeat (first|exact (Kd.C_below HR0_1.out HB.out)|(with_reducible refine Kd.C_alloc ?_ _)|(with_reducible refine Kd.C_drewN ?_ _)|(with_reducible refine Kd.C_drew ?_)));(case side2 => exact HC0_1.out);(case side3 => repeat (first|exact (Kd.C_below HR0_2.out HB.out)|(with_reducible refine Kd.C_alloc ?_ _)|(with_reducible refine Kd.C_drewN ?_ _)|(with_reducible refine Kd.C_drew ?_)));(case side4 => exact HC0_2.out);(case side5 => repeat (first|exact (Kd.C_below HR0_8.out HB.out)|(with_reducible refine Kd.C_alloc ?_ _)|(with_reducible refine Kd.C_drewN ?_ _)|(with_reducible refine Kd.C_drew ?_)));(case side6 => exact HC0_8.out);rintro e w45 ⟨rfl,hb⟩;replace BK374:=Aside0.mk (blk_below (g:=gb374) (o:=.cells #[.int .i64 a0_0,.slice A0_1 l0_1.length c0_1,.slice A0_2 l0_2.length c0_2,.int .i64 a0_3,.int .i64 a0_4,.int .i64 a0_5,.int .i64 a0_6,.int .i64 a0_7,.slice A0_8 l0_8.length c0_8,.int .i64 a0_9] 28 (0,0)) (by (with_reducible repeat (first|refine blk_drewN ?_ _|refine blk_drew ?_|refine blk_alloc ?_ _));exact BK374.out) hb);replace HB:=Aside0.mk (below_step (by repeat (first|(with_reducible first|exact HB.out|apply below_alloc|apply pw_below_drewN|apply below_drew1|refine below_set ?_ GE374.out)|exact HB.out)) hb);(try clear hb);(try clear hb2);(try clear hk);(try clear hi)))
          go_meet
          case rel => exact ⟨_,(t382),(by first|rfl|(simp;done)|(simp [*];done)),H',⟨by have:=HJ7.out;have:=HJ34.out;first|omega|exact Nat.le_refl _⟩,⟨by (with_reducible repeat (first|refine blk_drewN ?_ _|refine blk_drew ?_|refine blk_alloc ?_ _));exact BK374.out⟩,⟨by repeat (first|(with_reducible first|exact HB.out|apply below_alloc|apply pw_below_drewN|apply below_drew1|refine below_set ?_ GE374.out)|exact HB.out)⟩⟩
         ·replace c42:=Bool.eq_false_iff.mpr c42
          subst c42
          have H1 : (impl_LimitOf.j2 kj34 t375 t376 true false false a0_0 l0_1 l0_2 a0_3 a0_4 a0_5 a0_6 a0_7 l0_8 a0_9) = some r:=by rw [if_neg (show ¬ (false = true) by decide)] at H;exact H
          clear H
          have H:=H1
          clear H1
          have H':=Aside0.mk H
          clear H
          go_wp2
          go_meet
          case rel => exact ⟨_,(false),(by first|rfl|(simp;done)|(simp [*];done)),H',⟨by have:=HJ7.out;have:=HJ34.out;first|omega|exact Nat.le_refl _⟩,⟨by (with_reducible repeat (first|refine blk_drewN ?_ _|refine blk_drew ?_|refine blk_alloc ?_ _));exact BK374.out⟩,⟨by repeat (first|(with_reducible first|exact HB.out|apply below_alloc|apply pw_below_drewN|apply below_drew1|refine below_set ?_ GE374.out)|exact HB.out)⟩⟩
        ·replace c41:=Bool.eq_false_iff.mpr c41
         subst c41
         have H1 : (impl_LimitOf.j2 kj34 t375 t376 false t378 false a0_0 l0_1 l0_2 a0_3 a0_4 a0_5 a0_6 a0_7 l0_8 a0_9) = some r:=by rw [if_neg (show ¬ (false = true) by decide)] at H;exact H
         clear H
         have H:=H1
         clear H1
         have H':=Aside0.mk H
         clear H
         go_wp2
         go_meet
         case rel => exact ⟨_,(false),(by first|rfl|(simp;done)|(simp [*];done)),H',⟨by have:=HJ7.out;have:=HJ34.out;first|omega|exact Nat.le_refl _⟩,⟨by (with_reducible repeat (first|refine blk_drewN ?_ _|refine blk_drew ?_|refine blk_alloc ?_ _));exact BK374.out⟩,⟨by repeat (first|(with_reducible first|exact HB.out|apply below_alloc|apply pw_below_drewN|apply below_drew1|refine below_set ?_ GE374.out)|exact HB.out)⟩⟩
       case rest =>
        clear HC40
        try clear c34
        try clear c38
        obtain ⟨kq,x58_39,rfl,HA,HJ39,BK374,HB⟩:=hcut
        cases kq with
        | zero => exact absurd HA.out (by simp [impl_LimitOf.j2])
        | succ kj39 =>
         have H:=HA.out
         clear HA
         simp only [impl_LimitOf.j2] at H
         by_cases c46 : x58_39 = true
         ·subst c46
          have H1 : (some a0_4) = some r:=by rw [if_pos rfl] at H;exact H
          clear H
          have H:=H1
          clear H1
          obtain rfl:=Option.some.inj H
          have hcz47_0 : wc.cell? ⟨gb374,0,none⟩ = some (.int .i64 a0_0):=(blk_cell BK374.out 0).trans rfl
          have hcz47_1 : wc.cell? ⟨gb374,1,none⟩ = some (.slice A0_1 l0_1.length c0_1):=(blk_cell BK374.out 1).trans rfl
          have hcz47_2 : wc.cell? ⟨gb374,2,none⟩ = some (.slice A0_2 l0_2.length c0_2):=(blk_cell BK374.out 2).trans rfl
          have hcz47_3 : wc.cell? ⟨gb374,3,none⟩ = some (.int .i64 a0_3):=(blk_cell BK374.out 3).trans rfl
          have hcz47_4 : wc.cell? ⟨gb374,4,none⟩ = some (.int .i64 a0_4):=(blk_cell BK374.out 4).trans rfl
          have hcz47_5 : wc.cell? ⟨gb374,5,none⟩ = some (.int .i64 a0_5):=(blk_cell BK374.out 5).trans rfl
          have hcz47_6 : wc.cell? ⟨gb374,6,none⟩ = some (.int .i64 a0_6):=(blk_cell BK374.out 6).trans rfl
          have hcz47_7 : wc.cell? ⟨gb374,7,none⟩ = some (.int .i64 a0_7):=(blk_cell BK374.out 7).trans rfl
          have hcz47_8 : wc.cell? ⟨gb374,8,none⟩ = some (.slice A0_8 l0_8.length c0_8):=(blk_cell BK374.out 8).trans rfl
          have hcz47_9 : wc.cell? ⟨gb374,9,none⟩ = some (.int .i64 a0_9):=(blk_cell BK374.out 9).trans rfl
          have hfz47_0:=blk_frozen BK374.out 0
          have hfz47_1:=blk_frozen BK374.out 1
          have hfz47_2:=blk_frozen BK374.out 2
          have hfz47_3:=blk_frozen BK374.out 3
          have hfz47_4:=blk_frozen BK374.out 4
          have hfz47_5:=blk_frozen BK374.out 5
          have hfz47_6:=blk_frozen BK374.out 6
          have hfz47_7:=blk_frozen BK374.out 7
          have hfz47_8:=blk_frozen BK374.out 8
          have hfz47_9:=blk_frozen BK374.out 9
          go_wp2
          go_ret
          exact ⟨by first|rfl|(simp [errW_none,errW_some] <;> rfl)|(simp [*,errW_none,errW_some] <;> rfl),by repeat (first|(with_reducible first|exact HB.out|apply below_alloc|apply pw_below_drewN|apply below_drew1|refine below_set ?_ GE374.out)|exact HB.out)⟩
         ·replace c46:=Bool.eq_false_iff.mpr c46
          subst c46
          have H1 : (if (t377 != t378) = true then (if t375 = t376 then (some a0_5) else ((impl_areNeighbors.f a0_0 l0_1 l0_2 a0_3 a0_4 a0_5 a0_6 a0_7 l0_8 a0_9 t375 t376).bind fun t383 => (if t383 = true then (some a0_5) else (some (-1))))) else (some (-1))) = some r:=by rw [if_neg (show ¬ (false = true) by decide)] at H;exact H
          clear H
          have H:=H1
          clear H1
          by_cases c48 : (t377 != t378) = true
          ·rw [if_pos c48] at H
           have c48b0 : (t377 != t378) = true:=c48
           (try (have c48b1 : decide (t377 = t378) = false:=by simpa using c48))
           (try (have c48b2 : (t377 == t378) = false:=by simpa using c48))
           (try (have c48b3 : ¬ (t377 = t378):=by simpa using c48))
           clear c48
           by_cases c49 : t375 = t376
           ·rw [if_pos c49] at H
            have c49b0 : (t375 == t376) = true:=beq_iff_eq.mpr c49
            have c49b1 : (t375 != t376) = false:=bne_eq_false_iff_eq.mpr c49
            clear c49
            obtain rfl:=Option.some.inj H
            have hcz50_0 : wc.cell? ⟨gb374,0,none⟩ = some (.int .i64 a0_0):=(blk_cell BK374.out 0).trans rfl
            have hcz50_1 : wc.cell? ⟨gb374,1,none⟩ = some (.slice A0_1 l0_1.length c0_1):=(blk_cell BK374.out 1).trans rfl
            have hcz50_2 : wc.cell? ⟨gb374,2,none⟩ = some (.slice A0_2 l0_2.length c0_2):=(blk_cell BK374.out 2).trans rfl
            have hcz50_3 : wc.cell? ⟨gb374,3,none⟩ = some (.int .i64 a0_3):=(blk_cell BK374.out 3).trans rfl
            have hcz50_4 : wc.cell? ⟨gb374,4,none⟩ = some (.int .i64 a0_4):=(blk_cell BK374.out 4).trans rfl
            have hcz50_5 : wc.cell? ⟨gb374,5,none⟩ = some (.int .i64 a0_5):=(blk_cell BK374.out 5).trans rfl
            have hcz50_6 : wc.cell? ⟨gb374,6,none⟩ = some (.int .i64 a0_6):=(blk_cell BK374.out 6).trans rfl
            have hcz50_7 : wc.cell? ⟨gb374,7,none⟩ = some (.int .i64 a0_7):=(blk_cell BK374.out 7).trans rfl
            have hcz50_8 : wc.cell? ⟨gb374,8,none⟩ = some (.slice A0_8 l0_8.length c0_8):=(blk_cell BK374.out 8).trans rfl
            have hcz50_9 : wc.cell? ⟨gb374,9,none⟩ = some (.int .i64 a0_9):=(blk_cell BK374.out 9).trans rfl
            have hfz50_0:=blk_frozen BK374.out 0
            have hfz50_1:=blk_frozen BK374.out 1
            have hfz50_2:=blk_frozen BK374.out 2
            have hfz50_3:=blk_frozen BK374.out 3
            have hfz50_4:=blk_frozen BK374.out 4
            have hfz50_5:=blk_frozen BK374.out 5
            have hfz50_6:=blk_frozen BK374.out 6
            have hfz50_7:=blk_frozen BK374.out 7
            have hfz50_8:=blk_frozen BK374.out 8
            have hfz50_9:=blk_frozen BK374.out 9
            go_wp2
            go_ret
            exact ⟨by first|rfl|(simp [errW_none,errW_some] <;> rfl)|(simp [*,errW_none,errW_some] <;> rfl),by repeat (first|(with_reducible first|exact HB.out|apply below_alloc|apply pw_below_drewN|apply below_drew1|refine below_set ?_ GE374.out)|exact HB.out)⟩
           ·rw [if_neg c49] at H
            have c49b0 : (t375 == t376) = false:=beq_eq_false_iff_ne.mpr c49
            have c49b1 : (t375 != t376) = true:=bne_iff_ne.mpr c49
            replace H:=Option.bind_eq_some_iff.mp H
            obtain ⟨t383,A510,H⟩:=H
            replace H : (if t383 = true then (some a0_5) else (some (-1))) = some r:=H
            have A51:=Aside0.mk A510
            clear A510
            by_cases c52 : t383 = true
            ·subst c52
             have H1 : (some a0_5) = some r:=by rw [if_pos rfl] at H;exact H
             clear H
             have H:=H1
             clear H1
             obtain rfl:=Option.some.inj H
             have hcz53_0 : wc.cell? ⟨gb374,0,none⟩ = some (.int .i64 a0_0):=(blk_cell BK374.out 0).trans rfl
             have hcz53_1 : wc.cell? ⟨gb374,1,none⟩ = some (.slice A0_1 l0_1.length c0_1):=(blk_cell BK374.out 1).trans rfl
             have hcz53_2 : wc.cell? ⟨gb374,2,none⟩ = some (.slice A0_2 l0_2.length c0_2):=(blk_cell BK374.out 2).trans rfl
             have hcz53_3 : wc.cell? ⟨gb374,3,none⟩ = some (.int .i64 a0_3):=(blk_cell BK374.out 3).trans rfl
             have hcz53_4 : wc.cell? ⟨gb374,4,none⟩ = some (.int .i64 a0_4):=(blk_cell BK374.out 4).trans rfl
             have hcz53_5 : wc.cell? ⟨gb374,5,none⟩ = some (.int .i64 a0_5):=(blk_cell BK374.out 5).trans rfl
             have hcz53_6 : wc.cell? ⟨gb374,6,none⟩ = some (.int .i64 a0_6):=(blk_cell BK374.out 6).trans rfl
             have hcz53_7 : wc.cell? ⟨gb374,7,none⟩ = some (.int .i64 a0_7):=(blk_cell BK374.out 7).trans rfl
             have hcz53_8 : wc.cell? ⟨gb374,8,none⟩ = some (.slice A0_8 l0_8.length c0_8):=(blk_cell BK374.out 8).trans rfl
             have hcz53_9 : wc.cell? ⟨gb374,9,none⟩ = some (.int .i64 a0_9):=(blk_cell BK374.out 9).trans rfl
             have hfz53_0:=blk_frozen BK374.out 0
             have hfz53_1:=blk_frozen BK374.out 1
             have hfz53_2:=blk_frozen BK374.out 2
             have hfz53_3:=blk_frozen BK374.out 3
             have hfz53_4:=blk_frozen BK374.out 4
             have hfz53_5:=blk_frozen BK374.out 5
             have hfz53_6:=blk_frozen BK374.out 6
             have hfz53_7:=blk_frozen BK374.out 7
             have hfz53_8:=blk_frozen BK374.out 8
             have hfz53_9:=blk_frozen BK374.out 9
             go_wp2_with (first|(go_at_call 15;(with_reducible refine (impl_areNeighbors.calls a0_0 _ _ l0_1 _ _ l0_2 a0_3 a0_4 a0_5 a0_6 a0_7 _ _ l0_8 a0_9 t375 t376 true _ ?side1 ?side2 ?side3 ?side4 ?side5 ?side6 A51.out).mono ?_);(case side1 => repeat (first|exact (Kd.C_below HR0_1.out HB.out)|(with_reducible refine Kd.C_alloc ?_ _)|(with_reducible refine Kd.C_drewN ?_ _)|(with_reducible refine Kd.C_drew ?_)));(case side2 => exact HC0_1.out);(case side3 => repeat (first|exact (Kd.C_below HR0_2.out HB.out)|(with_reducible refine Kd.C_alloc ?_ _)|(with_reducible refine Kd.C_drewN ?_ _)|(with_reducible refine Kd.C_drew ?_)));(case side4 => exact HC0_2.out);(case side5 => repeat (first|exact (Kd.C_below HR0_8.out HB.out)|(with_reducible refine Kd.C_alloc ?_ _)|(with_reducible refine Kd.C_drewN ?_ _)|(with_reducible refine Kd.C_drew ?_)));(case side6 => exact HC0_8.out);rintro e w54 ⟨rfl,hb⟩;replace BK374:=Aside0.mk (blk_below (g:=gb374) (o:=.cells #[.int .i64 a0_0,.slice A0_1 l0_1.length c0_1,.slice A0_2 l0_2.length c0_2,.int .i64 a0_3,.int .i64 a0_4,.int .i64 a0_5,.int .i64 a0_6,.int .i64 a0_7,.slice A0_8 l0_8.length c0_8,.int .i64 a0_9] 28 (0,0)) (by (with_reducible repeat (first|refine blk_drewN ?_ _|refine blk_drew ?_|refine blk_alloc ?_ _));exact BK374.out) hb);replace HB:=Aside0.mk (below_step (by repeat (first|(with_reducible first|exact HB.out|apply below_alloc|apply pw_below_drewN|apply below_drew1|refine below_set ?_ GE374.out)|exact HB.out)) hb);(try clear hb);(try clear hb2);(try clear hk);(try clear hi);have hcz55_0 : w54.cell? ⟨gb374,0,none⟩ = some (.int .i64 a0_0):=(blk_cell BK374.out 0).trans rfl;have hcz55_1 : w54.cell? ⟨gb374,1,none⟩ = some (.slice A0_1 l0_1.length c0_1):=(blk_cell BK374.out 1).trans rfl;have hcz55_2 : w54.cell? ⟨gb374,2,none⟩ = some (.slice A0_2 l0_2.length c0_2):=(blk_cell BK374.out 2).trans rfl;have hcz55_3 : w54.cell? ⟨gb374,3,none⟩ = some (.int .i64 a0_3):=(blk_cell BK374.out 3).trans rfl;have hcz55_4 : w54.cell? ⟨gb374,4,none⟩ = some (.int .i64 a0_4):=(blk_cell BK374.out 4).trans rfl;have hcz55_5 : w54.cell? ⟨gb374,5,none⟩ = some (.int .i64 a0_5):=(blk_cell BK374.out 5).trans rfl;have hcz55_6 : w54.cell? ⟨gb374,6,none⟩ = some (.int .i64 a0_6):=(blk_cell BK374.out 6).trans rfl;have hcz55_7 : w54.cell? ⟨gb374,7,none⟩ = some (.int .i64 a0_7):=(blk_cell BK374.out 7).trans rfl;have hcz55_8 : w54.cell? ⟨gb374,8,none⟩ = some (.slice A0_8 l0_8.length c0_8):=(blk_cell BK374.out 8).trans rfl;have hcz55_9 : w54.cell? ⟨gb374,9,none⟩ = some (.int .i64 a0_9):=(blk_cell BK374.out 9).trans rfl;have hfz55_0:=blk_frozen BK374.out 0;have hfz55_1:=blk_frozen BK374.out 1;have hfz55_2:=blk_frozen BK374.out 2;have hfz55_3:=blk_frozen BK374.out 3;have hfz55_4:=blk_frozen BK374.out 4;have hfz55_5:=blk_frozen BK374.out 5;have hfz55_6:=blk_frozen BK374.out 6;have hfz55_7:=blk_frozen BK374.out 7;have hfz55_8:=blk_frozen BK374.out 8;have hfz55_9:=blk_frozen BK374.out 9))
             go_ret
             exact ⟨by first|rfl|(simp [errW_none,errW_some] <;> rfl)|(simp [*,errW_none,errW_some] <;> rfl),by repeat (first|(with_reducible first|exact HB.out|apply below_alloc|apply pw_below_drewN|apply below_drew1|refine below_set ?_ GE374.out)|exact HB.out)⟩
            ·replace c52:=Bool.eq_false_iff.mpr c52
             subst c52
             have H1 : (some (-1)) = some r:=by rw [if_neg (show ¬ (false = true) by decide)] at H;exact H
             clear H
             have H:=H1
             clear H1
             obtain rfl:=Option.some.inj H
             have hcz56_0 : wc.cell? ⟨gb374,0,none⟩ = some (.int .i64 a0_0):=(blk_cell BK374.out 0).trans rfl
             have hcz56_1 : wc.cell? ⟨gb374,1,none⟩ = some (.slice A0_1 l0_1.length c0_1):=(blk_cell BK374.out 1).trans rfl
             have hcz56_2 : wc.cell? ⟨gb374,2,none⟩ = some (.slice A0_2 l0_2.length c0_2):=(blk_cell BK374.out 2).trans rfl
             have hcz56_3 : wc.cell? ⟨gb374,3,none⟩ = some (.int .i64 a0_3):=(blk_cell BK374.out 3).trans rfl
             have hcz56_4 : wc.cell? ⟨gb374,4,none⟩ = some (.int .i64 a0_4):=(blk_cell BK374.out 4).trans rfl
             have hcz56_5 : wc.cell? ⟨gb374,5,none⟩ = some (.int .i64 a0_5):=(blk_cell BK374.out 5).trans rfl
             have hcz56_6 : wc.cell? ⟨gb374,6,none⟩ = some (.int .i64 a0_6):=(blk_cell BK374.out 6).trans rfl
             have hcz56_7 : wc.cell? ⟨gb374,7,none⟩ = some (.int .i64 a0_7):=(blk_cell BK374.out 7).trans rfl
             have hcz56_8 : wc.cell? ⟨gb374,8,none⟩ = some (.slice A0_8 l0_8.length c0_8):=(blk_cell BK374.out 8).trans rfl
             have hcz56_9 : wc.cell? ⟨gb374,9,none⟩ = some (.int .i64 a0_9):=(blk_cell BK374.out 9).trans rfl
             have hfz56_0:=blk_frozen BK374.out 0
             have hfz56_1:=blk_frozen BK374.out 1
             have hfz56_2:=blk_frozen BK374.out 2
             have hfz56_3:=blk_frozen BK374.out 3
             have hfz56_4:=blk_frozen BK374.out 4
             have hfz56_5:=blk_frozen BK374.out 5
             have hfz56_6:=blk_frozen BK374.out 6
             have hfz56_7:=blk_frozen BK374.out 7
             have hfz56_8:=blk_frozen BK374.out 8
             have hfz56_9:=blk_frozen BK374.out 9
             go_wp2_with (first|(go_at_call 15;(with_reducible refine (impl_areNeighbors.calls a0_0 _ _ l0_1 _ _ l0_2 a0_3 a0_4 a0_5 a0_6 a0_7 _ _ l0_8 a0_9 t375 t376 false _ ?side1 ?side2 ?side3 ?side4 ?side5 ?side6 A51.out).mono ?_);(case side1 => repeat (first|exact (Kd.C_below HR0_1.out HB.out)|(with_reducible refine Kd.C_alloc ?_ _)|(with_reducible refine Kd.C_drewN ?_ _)|(with_reducible refine Kd.C_drew ?_)));(case side2 => exact HC0_1.out);(case side3 => repeat (first|exact (Kd.C_below HR0_2.out HB.out)|(with_reducible refine Kd.C_alloc ?_ _)|(with_reducible refine Kd.C_drewN ?_ _)|(with_reducible refine Kd.C_drew ?_)));(case side4 => exact HC0_2.out);(case side5 => repeat (first|exact (Kd.C_below HR0_8.out HB.out)|(with_reducible refine Kd.C_alloc ?_ _)|(with_reducible refine Kd.C_drewN ?_ _)|(with_reducible refine Kd.C_drew ?_)));(case side6 => exact HC0_8.out);rintro e w57 ⟨rfl,hb⟩;replace BK374:=Aside0.mk (blk_below (g:=gb374) (o:=.cells #[.int .i64 a0_0,.slice A0_1 l0_1.length c0_1,.slice A0_2 l0_2.length c0_2,.int .i64 a0_3,.int .i64 a0_4,.int .i64 a0_5,.int .i64 a0_6,.int .i64 a0_7,.slice A0_8 l0_8.length c0_8,.int .i64 a0_9] 28 (0,0)) (by (with_reducible repeat (first|refine blk_drewN ?_ _|refine blk_drew ?_|refine blk_alloc ?_ _));exact BK374.out) hb);replace HB:=Aside0.mk (below_step (by repeat (first|(with_reducible first|exact HB.out|apply below_alloc|apply pw_below_drewN|apply below_drew1|refine below_set ?_ GE374.out)|exact HB.out)) hb);(try clear hb);(try clear hb2);(try clear hk);(try clear hi)))
             go_ret
             exact ⟨by first|rfl|(simp [errW_none,errW_some] <;> rfl)|(simp [*,errW_none,errW_some] <;> rfl),by repeat (first|(with_reducible first|exact HB.out|apply below_alloc|apply pw_below_drewN|apply below_drew1|refine below_set ?_ GE374.out)|exact HB.out)⟩
          ·rw [if_neg c48] at H
           have c48b0 : (t377 != t378) = false:=by simpa using c48
           (try (have c48b1 : decide (t377 = t378) = true:=by simpa using c48))
           (try (have c48b2 : (t377 == t378) = true:=by simpa using c48))
           clear c48
           obtain rfl:=Option.some.inj H
           go_wp2
           go_ret
           exact ⟨by first|rfl|(simp [errW_none,errW_some] <;> rfl)|(simp [*,errW_none,errW_some] <;> rfl),by repeat (first|(with_reducible first|exact HB.out|apply below_alloc|apply pw_below_drewN|apply below_drew1|refine below_set ?_ GE374.out)|exact HB.out)⟩

end Go.Proofs.Ytpkmgdjhimkiiaa.PFnSkies
