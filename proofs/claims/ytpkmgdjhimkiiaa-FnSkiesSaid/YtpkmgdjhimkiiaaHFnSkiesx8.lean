/- The functions that FnSkies reaches: each Go function with a Lean function of the same answers; conditions: none beyond what each theorem states. Out of the lines of print.sh, mended. -/
import Derived.Test.YtpkmgdjhimkiiaaHFnSkiesx0
import Derived.Test.YtpkmgdjhimkiiaaHFnSkiesx5
import Derived.Test.YtpkmgdjhimkiiaaHFnSkiesx7
namespace Go.Proofs.Ytpkmgdjhimkiiaa.PFnSkies
open Go.RowKit Go.Proofs.YtpkmgdjhimkiiaaW.PrintWords Go.Proofs.YtpkmgdjhimkiiaaW.PrintLast Go.Proofs.YtpkmgdjhimkiiaaW.PrintMore
attribute [local go_sem] max2_int min2_int max_two min_two max_three min_three max_four min_four   -- for this text's walks alone
set_option linter.unusedVariables false
set_option linter.unusedSimpArgs false

/-! ### impl_IsSky: function 8 -/
mutual
def impl_IsSky.j0 : Nat → Bool → Int → List (S43) → List (S46) → Int → Int → Int → Int → Int → List (S50) → Int → Option (Bool)
 | 0,_,_,_,_,_,_,_,_,_,_,_ => none
 | k + 1,x33,x390000,x390001,x390002,x390003,x390004,x390005,x390006,x390007,x390008,x390009 => if x33 = true then (some false) else (impl_IsSky.l0 k x390001 (x390001.length : Int) 0 x390000 x390001 x390002 x390003 x390004 x390005 x390006 x390007 x390008 x390009)
def impl_IsSky.l0 : Nat → List (S43) → Int → Int → Int → List (S43) → List (S46) → Int → Int → Int → Int → Int → List (S50) → Int → Option (Bool)
 | 0,_,_,_,_,_,_,_,_,_,_,_,_,_ => none
 | k + 1,x35,x36,x37,x390000,x390001,x390002,x390003,x390004,x390005,x390006,x390007,x390008,x390009 => if x37 < x36 then (if 0 ≤ x37 then (if x37 < (x35.length : Int) then ((impl_IsSat.f ((rd_T43 x35 x37).f0) ((rd_T43 x35 x37).f1) ((rd_T43 x35 x37).f2) ((rd_T43 x35 x37).f3) x390000).bind fun t394 => (if t394 = true then (impl_IsSky.l0 k x35 x36 (wrap64 (x37 + 1)) x390000 x390001 x390002 x390003 x390004 x390005 x390006 x390007 x390008 x390009) else (some false))) else (none)) else (none)) else (impl_IsSky.l1 k x390002 (x390002.length : Int) 0 x390000 x390001 x390002 x390003 x390004 x390005 x390006 x390007 x390008 x390009)
def impl_IsSky.l1 : Nat → List (S46) → Int → Int → Int → List (S43) → List (S46) → Int → Int → Int → Int → Int → List (S50) → Int → Option (Bool)
 | 0,_,_,_,_,_,_,_,_,_,_,_,_,_ => none
 | k + 1,x48,x49,x50,x390000,x390001,x390002,x390003,x390004,x390005,x390006,x390007,x390008,x390009 => if x50 < x49 then (if 0 ≤ x50 then (if x50 < (x48.length : Int) then ((impl_InRange.f ((rd_T46 x48 x50).f0) 0 (wrap64 (x390000 - 1))).bind fun t397 => (if t397 = true then ((impl_InRange.f ((rd_T46 x48 x50).f1) 0 359).bind fun t398 => (if t398 = true then ((impl_InRange.f ((rd_T46 x48 x50).f2) (-60) 60).bind fun t399 => (if t399 = true then (impl_IsSky.l1 k x48 x49 (wrap64 (x50 + 1)) x390000 x390001 x390002 x390003 x390004 x390005 x390006 x390007 x390008 x390009) else (some false))) else (some false))) else (some false))) else (none)) else (none)) else (impl_IsSky.l2 k x390008 (x390008.length : Int) 0 x390000 x390001 x390002 x390003 x390004 x390005 x390006 x390007 x390008 x390009)
def impl_IsSky.l2 : Nat → List (S50) → Int → Int → Int → List (S43) → List (S46) → Int → Int → Int → Int → Int → List (S50) → Int → Option (Bool)
 | 0,_,_,_,_,_,_,_,_,_,_,_,_,_ => none
 | k + 1,x75,x76,x77,x390000,x390001,x390002,x390003,x390004,x390005,x390006,x390007,x390008,x390009 => if x77 < x76 then (if 0 ≤ x77 then (if x77 < (x75.length : Int) then ((impl_InRange.f ((rd_T50 x75 x77).f0) 0 (wrap64 (x390000 - 1))).bind fun t402 => (if t402 = true then ((impl_isWidth.f ((rd_T50 x75 x77).f1.f1)).bind fun t403 => (if t403 = true then (impl_IsSky.l2 k x75 x76 (wrap64 (x77 + 1)) x390000 x390001 x390002 x390003 x390004 x390005 x390006 x390007 x390008 x390009) else (some false))) else (some false))) else (none)) else (none)) else ((some (([x390003,x390004,x390005,x390007] : List Int) : List Int)).bind fun y404 => (impl_IsSky.l3 k y404 (y404.length : Int) 0 x390000 x390001 x390002 x390003 x390004 x390005 x390006 x390007 x390008 x390009))
def impl_IsSky.l3 : Nat → List Int → Int → Int → Int → List (S43) → List (S46) → Int → Int → Int → Int → Int → List (S50) → Int → Option (Bool)
 | 0,_,_,_,_,_,_,_,_,_,_,_,_,_ => none
 | k + 1,x104,x105,x106,x390000,x390001,x390002,x390003,x390004,x390005,x390006,x390007,x390008,x390009 => if x106 < x105 then (if 0 ≤ x106 then (if x106 < (x104.length : Int) then ((impl_InRange.f (rd x104 x106) 0 180).bind fun t408 => (if t408 = true then (impl_IsSky.l3 k x104 x105 (wrap64 (x106 + 1)) x390000 x390001 x390002 x390003 x390004 x390005 x390006 x390007 x390008 x390009) else (some false))) else (none)) else (none)) else ((impl_InRange.f x390006 (-60) 60).bind fun t409 => (if t409 = true then ((impl_InRange.f x390009 0 20).bind fun t410 => (some t410)) else (some false)))
end
def impl_IsSky.f (k : Nat) (a0_0 : Int) (l0_1 : List (S43)) (l0_2 : List (S46)) (a0_3 : Int) (a0_4 : Int) (a0_5 : Int) (a0_6 : Int) (a0_7 : Int) (l0_8 : List (S50)) (a0_9 : Int) : Option (Bool):=(impl_InRange.f a0_0 1 4).bind fun t390 => (if t390 = true then ((impl_InRange.f (l0_1.length : Int) 1 8).bind fun t391 => (if t391 = true then (if (l0_2.length : Int) > 4 then (impl_IsSky.j0 k true a0_0 l0_1 l0_2 a0_3 a0_4 a0_5 a0_6 a0_7 l0_8 a0_9) else (impl_IsSky.j0 k (decide ((l0_8.length : Int) > 4)) a0_0 l0_1 l0_2 a0_3 a0_4 a0_5 a0_6 a0_7 l0_8 a0_9)) else (impl_IsSky.j0 k true a0_0 l0_1 l0_2 a0_3 a0_4 a0_5 a0_6 a0_7 l0_8 a0_9))) else (impl_IsSky.j0 k true a0_0 l0_1 l0_2 a0_3 a0_4 a0_5 a0_6 a0_7 l0_8 a0_9))
theorem impl_IsSky.mono_l : ∀ k,(∀ y0 y1 y2 y3 y4 y5 y6 y7 y8 y9 y10,LeO (impl_IsSky.j0 k y0 y1 y2 y3 y4 y5 y6 y7 y8 y9 y10) (impl_IsSky.j0 (k + 1) y0 y1 y2 y3 y4 y5 y6 y7 y8 y9 y10)) ∧ (∀ y0 y1 y2 y3 y4 y5 y6 y7 y8 y9 y10 y11 y12,LeO (impl_IsSky.l0 k y0 y1 y2 y3 y4 y5 y6 y7 y8 y9 y10 y11 y12) (impl_IsSky.l0 (k + 1) y0 y1 y2 y3 y4 y5 y6 y7 y8 y9 y10 y11 y12)) ∧ (∀ y0 y1 y2 y3 y4 y5 y6 y7 y8 y9 y10 y11 y12,LeO (impl_IsSky.l1 k y0 y1 y2 y3 y4 y5 y6 y7 y8 y9 y10 y11 y12) (impl_IsSky.l1 (k + 1) y0 y1 y2 y3 y4 y5 y6 y7 y8 y9 y10 y11 y12)) ∧ (∀ y0 y1 y2 y3 y4 y5 y6 y7 y8 y9 y10 y11 y12,LeO (impl_IsSky.l2 k y0 y1 y2 y3 y4 y5 y6 y7 y8 y9 y10 y11 y12) (impl_IsSky.l2 (k + 1) y0 y1 y2 y3 y4 y5 y6 y7 y8 y9 y10 y11 y12)) ∧ (∀ y0 y1 y2 y3 y4 y5 y6 y7 y8 y9 y10 y11 y12,LeO (impl_IsSky.l3 k y0 y1 y2 y3 y4 y5 y6 y7 y8 y9 y10 y11 y12) (impl_IsSky.l3 (k + 1) y0 y1 y2 y3 y4 y5 y6 y7 y8 y9 y10 y11 y12))
 | 0 => ⟨fun _ _ _ _ _ _ _ _ _ _ _ r h => by simp [impl_IsSky.j0] at h,fun _ _ _ _ _ _ _ _ _ _ _ _ _ r h => by simp [impl_IsSky.l0] at h,fun _ _ _ _ _ _ _ _ _ _ _ _ _ r h => by simp [impl_IsSky.l1] at h,fun _ _ _ _ _ _ _ _ _ _ _ _ _ r h => by simp [impl_IsSky.l2] at h,fun _ _ _ _ _ _ _ _ _ _ _ _ _ r h => by simp [impl_IsSky.l3] at h⟩
 | k + 1 => by
  obtain ⟨ih0,ih1,ih2,ih3,ih4⟩:=impl_IsSky.mono_l k
  refine ⟨?_,?_,?_,?_,?_⟩
  ·intro y0 y1 y2 y3 y4 y5 y6 y7 y8 y9 y10
   unfold impl_IsSky.j0
   repeat' first
   | (with_reducible exact ih0 _ _ _ _ _ _ _ _ _ _ _)
   | (with_reducible exact ih1 _ _ _ _ _ _ _ _ _ _ _ _ _)
   | (with_reducible exact ih2 _ _ _ _ _ _ _ _ _ _ _ _ _)
   | (with_reducible exact ih3 _ _ _ _ _ _ _ _ _ _ _ _ _)
   | (with_reducible exact ih4 _ _ _ _ _ _ _ _ _ _ _ _ _)
   | (with_reducible exact LeO.refl _)
   | (with_reducible exact LeO.none _)
   | (with_reducible refine LeO.ite ?_ ?_)
   | (with_reducible refine LeO.bind ?_ (fun _ => ?_))
   | exact ih0 _ _ _ _ _ _ _ _ _ _ _
   | exact ih1 _ _ _ _ _ _ _ _ _ _ _ _ _
   | exact ih2 _ _ _ _ _ _ _ _ _ _ _ _ _
   | exact ih3 _ _ _ _ _ _ _ _ _ _ _ _ _
   | exact ih4 _ _ _ _ _ _ _ _ _ _ _ _ _
   | exact LeO.none _
   | refine LeO.ite ?_ ?_
   | refine LeO.bind ?_ (fun _ => ?_)
  ·intro y0 y1 y2 y3 y4 y5 y6 y7 y8 y9 y10 y11 y12
   unfold impl_IsSky.l0
   repeat' first
   | (with_reducible exact ih0 _ _ _ _ _ _ _ _ _ _ _)
   | (with_reducible exact ih1 _ _ _ _ _ _ _ _ _ _ _ _ _)
   | (with_reducible exact ih2 _ _ _ _ _ _ _ _ _ _ _ _ _)
   | (with_reducible exact ih3 _ _ _ _ _ _ _ _ _ _ _ _ _)
   | (with_reducible exact ih4 _ _ _ _ _ _ _ _ _ _ _ _ _)
   | (with_reducible exact LeO.refl _)
   | (with_reducible exact LeO.none _)
   | (with_reducible refine LeO.ite ?_ ?_)
   | (with_reducible refine LeO.bind ?_ (fun _ => ?_))
   | exact ih0 _ _ _ _ _ _ _ _ _ _ _
   | exact ih1 _ _ _ _ _ _ _ _ _ _ _ _ _
   | exact ih2 _ _ _ _ _ _ _ _ _ _ _ _ _
   | exact ih3 _ _ _ _ _ _ _ _ _ _ _ _ _
   | exact ih4 _ _ _ _ _ _ _ _ _ _ _ _ _
   | exact LeO.none _
   | refine LeO.ite ?_ ?_
   | refine LeO.bind ?_ (fun _ => ?_)
  ·intro y0 y1 y2 y3 y4 y5 y6 y7 y8 y9 y10 y11 y12
   unfold impl_IsSky.l1
   repeat' first
   | (with_reducible exact ih0 _ _ _ _ _ _ _ _ _ _ _)
   | (with_reducible exact ih1 _ _ _ _ _ _ _ _ _ _ _ _ _)
   | (with_reducible exact ih2 _ _ _ _ _ _ _ _ _ _ _ _ _)
   | (with_reducible exact ih3 _ _ _ _ _ _ _ _ _ _ _ _ _)
   | (with_reducible exact ih4 _ _ _ _ _ _ _ _ _ _ _ _ _)
   | (with_reducible exact LeO.refl _)
   | (with_reducible exact LeO.none _)
   | (with_reducible refine LeO.ite ?_ ?_)
   | (with_reducible refine LeO.bind ?_ (fun _ => ?_))
   | exact ih0 _ _ _ _ _ _ _ _ _ _ _
   | exact ih1 _ _ _ _ _ _ _ _ _ _ _ _ _
   | exact ih2 _ _ _ _ _ _ _ _ _ _ _ _ _
   | exact ih3 _ _ _ _ _ _ _ _ _ _ _ _ _
   | exact ih4 _ _ _ _ _ _ _ _ _ _ _ _ _
   | exact LeO.none _
   | refine LeO.ite ?_ ?_
   | refine LeO.bind ?_ (fun _ => ?_)
  ·intro y0 y1 y2 y3 y4 y5 y6 y7 y8 y9 y10 y11 y12
   unfold impl_IsSky.l2
   repeat' first
   | (with_reducible exact ih0 _ _ _ _ _ _ _ _ _ _ _)
   | (with_reducible exact ih1 _ _ _ _ _ _ _ _ _ _ _ _ _)
   | (with_reducible exact ih2 _ _ _ _ _ _ _ _ _ _ _ _ _)
   | (with_reducible exact ih3 _ _ _ _ _ _ _ _ _ _ _ _ _)
   | (with_reducible exact ih4 _ _ _ _ _ _ _ _ _ _ _ _ _)
   | (with_reducible exact LeO.refl _)
   | (with_reducible exact LeO.none _)
   | (with_reducible refine LeO.ite ?_ ?_)
   | (with_reducible refine LeO.bind ?_ (fun _ => ?_))
   | exact ih0 _ _ _ _ _ _ _ _ _ _ _
   | exact ih1 _ _ _ _ _ _ _ _ _ _ _ _ _
   | exact ih2 _ _ _ _ _ _ _ _ _ _ _ _ _
   | exact ih3 _ _ _ _ _ _ _ _ _ _ _ _ _
   | exact ih4 _ _ _ _ _ _ _ _ _ _ _ _ _
   | exact LeO.none _
   | refine LeO.ite ?_ ?_
   | refine LeO.bind ?_ (fun _ => ?_)
  ·intro y0 y1 y2 y3 y4 y5 y6 y7 y8 y9 y10 y11 y12
   unfold impl_IsSky.l3
   repeat' first
   | (with_reducible exact ih0 _ _ _ _ _ _ _ _ _ _ _)
   | (with_reducible exact ih1 _ _ _ _ _ _ _ _ _ _ _ _ _)
   | (with_reducible exact ih2 _ _ _ _ _ _ _ _ _ _ _ _ _)
   | (with_reducible exact ih3 _ _ _ _ _ _ _ _ _ _ _ _ _)
   | (with_reducible exact ih4 _ _ _ _ _ _ _ _ _ _ _ _ _)
   | (with_reducible exact LeO.refl _)
   | (with_reducible exact LeO.none _)
   | (with_reducible refine LeO.ite ?_ ?_)
   | (with_reducible refine LeO.bind ?_ (fun _ => ?_))
   | exact ih0 _ _ _ _ _ _ _ _ _ _ _
   | exact ih1 _ _ _ _ _ _ _ _ _ _ _ _ _
   | exact ih2 _ _ _ _ _ _ _ _ _ _ _ _ _
   | exact ih3 _ _ _ _ _ _ _ _ _ _ _ _ _
   | exact ih4 _ _ _ _ _ _ _ _ _ _ _ _ _
   | exact LeO.none _
   | refine LeO.ite ?_ ?_
   | refine LeO.bind ?_ (fun _ => ?_)
theorem impl_IsSky.mono : ∀ a0 a1 a2 a3 a4 a5 a6 a7 a8 a9 k,LeO (impl_IsSky.f k a0 a1 a2 a3 a4 a5 a6 a7 a8 a9) (impl_IsSky.f (k + 1) a0 a1 a2 a3 a4 a5 a6 a7 a8 a9):=by
 intro a0 a1 a2 a3 a4 a5 a6 a7 a8 a9 k
 obtain ⟨ih0,ih1,ih2,ih3,ih4⟩:=impl_IsSky.mono_l k
 unfold impl_IsSky.f
 repeat' first
   | (with_reducible exact ih0 _ _ _ _ _ _ _ _ _ _ _)
   | (with_reducible exact ih1 _ _ _ _ _ _ _ _ _ _ _ _ _)
   | (with_reducible exact ih2 _ _ _ _ _ _ _ _ _ _ _ _ _)
   | (with_reducible exact ih3 _ _ _ _ _ _ _ _ _ _ _ _ _)
   | (with_reducible exact ih4 _ _ _ _ _ _ _ _ _ _ _ _ _)
   | (with_reducible exact LeO.refl _)
   | (with_reducible exact LeO.none _)
   | (with_reducible refine LeO.ite ?_ ?_)
   | (with_reducible refine LeO.bind ?_ (fun _ => ?_))
   | exact ih0 _ _ _ _ _ _ _ _ _ _ _
   | exact ih1 _ _ _ _ _ _ _ _ _ _ _ _ _
   | exact ih2 _ _ _ _ _ _ _ _ _ _ _ _ _
   | exact ih3 _ _ _ _ _ _ _ _ _ _ _ _ _
   | exact ih4 _ _ _ _ _ _ _ _ _ _ _ _ _
   | exact LeO.none _
   | refine LeO.ite ?_ ?_
   | refine LeO.bind ?_ (fun _ => ?_)
set_option maxHeartbeats 8000000 in
set_option maxRecDepth 100000 in
theorem impl_IsSky.calls (k : Nat) (a0_0 : Int) (A0_1 : Option Addr) (c0_1 : Nat) (l0_1 : List (S43)) (A0_2 : Option Addr) (c0_2 : Nat) (l0_2 : List (S46)) (a0_3 : Int) (a0_4 : Int) (a0_5 : Int) (a0_6 : Int) (a0_7 : Int) (A0_8 : Option Addr) (c0_8 : Nat) (l0_8 : List (S50)) (a0_9 : Int) (r : Bool) (w : World) (hr0_1 : Kd.C k43 w A0_1 l0_1.length l0_1) (hc0_1 : l0_1.length ≤ c0_1) (hr0_2 : Kd.C k46 w A0_2 l0_2.length l0_2) (hc0_2 : l0_2.length ≤ c0_2) (hr0_8 : Kd.C k50 w A0_8 l0_8.length l0_8) (hc0_8 : l0_8.length ≤ c0_8) (h : impl_IsSky.f k a0_0 l0_1 l0_2 a0_3 a0_4 a0_5 a0_6 a0_7 l0_8 a0_9 = some r) :
  Calls Try.prog 8 #[.agg #[.int .i64 a0_0,.slice A0_1 l0_1.length c0_1,.slice A0_2 l0_2.length c0_2,.int .i64 a0_3,.int .i64 a0_4,.int .i64 a0_5,.int .i64 a0_6,.int .i64 a0_7,.slice A0_8 l0_8.length c0_8,.int .i64 a0_9]] w fun e w' => e = .returned (.bool r) ∧ Below w.heap.size w w':=by
 have hu28:=Try.underlying28
 have hu43:=Try.underlying43
 have hu46:=Try.underlying46
 have hu50:=Try.underlying50
 have HR0_1:=Aside0.mk hr0_1
 have HC0_1:=Aside0.mk hc0_1
 clear hr0_1 hc0_1
 have HR0_2:=Aside0.mk hr0_2
 have HC0_2:=Aside0.mk hc0_2
 clear hr0_2 hc0_2
 have HR0_8:=Aside0.mk hr0_8
 have HC0_8:=Aside0.mk hc0_8
 clear hr0_8 hc0_8
 have HB:=Aside0.mk (Below.refl w.heap.size w)
 have H : ((impl_InRange.f a0_0 1 4).bind fun t390 => (if t390 = true then ((impl_InRange.f (l0_1.length : Int) 1 8).bind fun t391 => (if t391 = true then (if (l0_2.length : Int) > 4 then (impl_IsSky.j0 k true a0_0 l0_1 l0_2 a0_3 a0_4 a0_5 a0_6 a0_7 l0_8 a0_9) else (impl_IsSky.j0 k (decide ((l0_8.length : Int) > 4)) a0_0 l0_1 l0_2 a0_3 a0_4 a0_5 a0_6 a0_7 l0_8 a0_9)) else (impl_IsSky.j0 k true a0_0 l0_1 l0_2 a0_3 a0_4 a0_5 a0_6 a0_7 l0_8 a0_9))) else (impl_IsSky.j0 k true a0_0 l0_1 l0_2 a0_3 a0_4 a0_5 a0_6 a0_7 l0_8 a0_9))) = some r:=h
 clear h
 have HC2:=Aside0.mk H
 clear H
 go_enter Try.func8,Try.ntmps8
 go_upto_region 1 with (first|((with_reducible refine gate_dst (N:=1) rfl ?_);(try (refine gate_guard (by rfl) ?_;dsimp only));refine box_event ?hg (N:=1) ?hd (cs:=#[.int .i64 a0_0,.slice A0_1 l0_1.length c0_1,.slice A0_2 l0_2.length c0_2,.int .i64 a0_3,.int .i64 a0_4,.int .i64 a0_5,.int .i64 a0_6,.int .i64 a0_7,.slice A0_8 l0_8.length c0_8,.int .i64 a0_9]) (t:=28) ?hr ?_;(case hd => rfl);(case hg => rfl);(case hr => first|(go_simp;done)|(go_simp;rfl));intro gb389 hg w3 hbox hb;have BK389:=Aside0.mk (hbox);have GE389:=Aside0.mk ((by rw [hg];exact (below_size (by repeat (first|(with_reducible first|exact HB.out|apply below_alloc|apply pw_below_drewN|apply below_drew1)|exact HB.out))) : w.heap.size ≤ gb389));replace HB:=Aside0.mk (below_step (by repeat (first|(with_reducible first|exact HB.out|apply below_alloc|apply pw_below_drewN|apply below_drew1)|exact HB.out)) hb);clear hb hbox hg))
 (try simp only [Act.put,List.setIfInBounds_toArray,List.set_cons_zero,List.set_cons_succ])
 go_cut [33] (fun v33 wc => ∃ (kq : Nat) (x33_1 : Bool),v33 = .bool x33_1 ∧ Aside0 (impl_IsSky.j0 kq x33_1 a0_0 l0_1 l0_2 a0_3 a0_4 a0_5 a0_6 a0_7 l0_8 a0_9 = some r) ∧ Aside0 (kq ≤ k) ∧ Aside0 (wc.heap[gb389]? = some (.cells #[.int .i64 a0_0,(.slice A0_1 l0_1.length c0_1),(.slice A0_2 l0_2.length c0_2),.int .i64 a0_3,.int .i64 a0_4,.int .i64 a0_5,.int .i64 a0_6,.int .i64 a0_7,(.slice A0_8 l0_8.length c0_8),.int .i64 a0_9] 28 (0,0))) ∧ Aside0 (Below w.heap.size w wc))
 case first =>
  have H:=HC2.out
  clear HC2
  replace H:=Option.bind_eq_some_iff.mp H
  obtain ⟨t390,A40,H⟩:=H
  replace H : (if t390 = true then ((impl_InRange.f (l0_1.length : Int) 1 8).bind fun t391 => (if t391 = true then (if (l0_2.length : Int) > 4 then (impl_IsSky.j0 k true a0_0 l0_1 l0_2 a0_3 a0_4 a0_5 a0_6 a0_7 l0_8 a0_9) else (impl_IsSky.j0 k (decide ((l0_8.length : Int) > 4)) a0_0 l0_1 l0_2 a0_3 a0_4 a0_5 a0_6 a0_7 l0_8 a0_9)) else (impl_IsSky.j0 k true a0_0 l0_1 l0_2 a0_3 a0_4 a0_5 a0_6 a0_7 l0_8 a0_9))) else (impl_IsSky.j0 k true a0_0 l0_1 l0_2 a0_3 a0_4 a0_5 a0_6 a0_7 l0_8 a0_9)) = some r:=H
  have A4:=Aside0.mk A40
  clear A40
  by_cases c5 : t390 = true
  ·subst c5
   have H1 : ((impl_InRange.f (l0_1.length : Int) 1 8).bind fun t391 => (if t391 = true then (if (l0_2.length : Int) > 4 then (impl_IsSky.j0 k true a0_0 l0_1 l0_2 a0_3 a0_4 a0_5 a0_6 a0_7 l0_8 a0_9) else (impl_IsSky.j0 k (decide ((l0_8.length : Int) > 4)) a0_0 l0_1 l0_2 a0_3 a0_4 a0_5 a0_6 a0_7 l0_8 a0_9)) else (impl_IsSky.j0 k true a0_0 l0_1 l0_2 a0_3 a0_4 a0_5 a0_6 a0_7 l0_8 a0_9))) = some r:=by rw [if_pos rfl] at H;exact H
   clear H
   have H:=H1
   clear H1
   replace H:=Option.bind_eq_some_iff.mp H
   obtain ⟨t391,A60,H⟩:=H
   replace H : (if t391 = true then (if (l0_2.length : Int) > 4 then (impl_IsSky.j0 k true a0_0 l0_1 l0_2 a0_3 a0_4 a0_5 a0_6 a0_7 l0_8 a0_9) else (impl_IsSky.j0 k (decide ((l0_8.length : Int) > 4)) a0_0 l0_1 l0_2 a0_3 a0_4 a0_5 a0_6 a0_7 l0_8 a0_9)) else (impl_IsSky.j0 k true a0_0 l0_1 l0_2 a0_3 a0_4 a0_5 a0_6 a0_7 l0_8 a0_9)) = some r:=H
   have A6:=Aside0.mk A60
   clear A60
   by_cases c7 : t391 = true
   ·subst c7
    have H1 : (if (l0_2.length : Int) > 4 then (impl_IsSky.j0 k true a0_0 l0_1 l0_2 a0_3 a0_4 a0_5 a0_6 a0_7 l0_8 a0_9) else (impl_IsSky.j0 k (decide ((l0_8.length : Int) > 4)) a0_0 l0_1 l0_2 a0_3 a0_4 a0_5 a0_6 a0_7 l0_8 a0_9)) = some r:=by rw [if_pos rfl] at H;exact H
    clear H
    have H:=H1
    clear H1
    by_cases c8 : (l0_2.length : Int) > 4
    ·rw [if_pos c8] at H
     have c8b0 : decide (4 < (l0_2.length : Int)) = true:=decide_eq_true c8
     have c8b1 : decide (4 < l0_2.length) = true:=decide_eq_true (by omega)
     clear c8
     (first|rw [c8b0]|(simp only [i64_w,i32_w];rw [c8b0])|skip)
     have H':=Aside0.mk H
     clear H
     have hcz9_0 : w3.cell? ⟨gb389,0,none⟩ = some (.int .i64 a0_0):=(blk_cell BK389.out 0).trans rfl
     have hcz9_1 : w3.cell? ⟨gb389,1,none⟩ = some (.slice A0_1 l0_1.length c0_1):=(blk_cell BK389.out 1).trans rfl
     have hcz9_2 : w3.cell? ⟨gb389,2,none⟩ = some (.slice A0_2 l0_2.length c0_2):=(blk_cell BK389.out 2).trans rfl
     have hcz9_3 : w3.cell? ⟨gb389,3,none⟩ = some (.int .i64 a0_3):=(blk_cell BK389.out 3).trans rfl
     have hcz9_4 : w3.cell? ⟨gb389,4,none⟩ = some (.int .i64 a0_4):=(blk_cell BK389.out 4).trans rfl
     have hcz9_5 : w3.cell? ⟨gb389,5,none⟩ = some (.int .i64 a0_5):=(blk_cell BK389.out 5).trans rfl
     have hcz9_6 : w3.cell? ⟨gb389,6,none⟩ = some (.int .i64 a0_6):=(blk_cell BK389.out 6).trans rfl
     have hcz9_7 : w3.cell? ⟨gb389,7,none⟩ = some (.int .i64 a0_7):=(blk_cell BK389.out 7).trans rfl
     have hcz9_8 : w3.cell? ⟨gb389,8,none⟩ = some (.slice A0_8 l0_8.length c0_8):=(blk_cell BK389.out 8).trans rfl
     have hcz9_9 : w3.cell? ⟨gb389,9,none⟩ = some (.int .i64 a0_9):=(blk_cell BK389.out 9).trans rfl
     have hfz9_0:=blk_frozen BK389.out 0
     have hfz9_1:=blk_frozen BK389.out 1
     have hfz9_2:=blk_frozen BK389.out 2
     have hfz9_3:=blk_frozen BK389.out 3
     have hfz9_4:=blk_frozen BK389.out 4
     have hfz9_5:=blk_frozen BK389.out 5
     have hfz9_6:=blk_frozen BK389.out 6
     have hfz9_7:=blk_frozen BK389.out 7
     have hfz9_8:=blk_frozen BK389.out 8
     have hfz9_9:=blk_frozen BK389.out 9
     go_wp2_with (first|((with_reducible refine gate_callee (f:=16) rfl ?_);refine goesL_ (some 13) rfl rfl Try.func16 (by kernel_rfl) rfl #[.int .i64 a0_0,.int .i64 1,.int .i64 4] rfl (by (try simp only [List.map_toArray,List.map_cons,List.map_nil]);first|done|rfl|(simp only [List.length_drop,List.length_take];rfl)) ?_;(with_reducible refine (impl_InRange.calls a0_0 1 4 true _ A4.out).mono ?_);rintro e w' ⟨rfl,⟨nd,rfl⟩⟩;refine ⟨_,rfl,?_⟩)|(go_at_call 16;(with_reducible refine (impl_InRange.calls (l0_1.length : Int) 1 8 true _ A6.out).mono ?_);rintro e w' ⟨rfl,⟨nd,rfl⟩⟩))
     go_meet
     case rel => exact ⟨_,(true),(by first|rfl|(simp;done)|(simp [*];done)),H',⟨by first|omega|exact Nat.le_refl _⟩,⟨by (with_reducible repeat (first|refine blk_drewN ?_ _|refine blk_drew ?_|refine blk_alloc ?_ _));exact BK389.out⟩,⟨by repeat (first|(with_reducible first|exact HB.out|apply below_alloc|apply pw_below_drewN|apply below_drew1|refine below_set ?_ GE389.out)|exact HB.out)⟩⟩
    ·rw [if_neg c8] at H
     have c8b0 : decide (4 < (l0_2.length : Int)) = false:=decide_eq_false c8
     have c8b1 : decide (4 < l0_2.length) = false:=decide_eq_false (by omega)
     clear c8
     (first|rw [c8b0]|(simp only [i64_w,i32_w];rw [c8b0])|skip)
     have H':=Aside0.mk H
     clear H
     have hcz10_0 : w3.cell? ⟨gb389,0,none⟩ = some (.int .i64 a0_0):=(blk_cell BK389.out 0).trans rfl
     have hcz10_1 : w3.cell? ⟨gb389,1,none⟩ = some (.slice A0_1 l0_1.length c0_1):=(blk_cell BK389.out 1).trans rfl
     have hcz10_2 : w3.cell? ⟨gb389,2,none⟩ = some (.slice A0_2 l0_2.length c0_2):=(blk_cell BK389.out 2).trans rfl
     have hcz10_3 : w3.cell? ⟨gb389,3,none⟩ = some (.int .i64 a0_3):=(blk_cell BK389.out 3).trans rfl
     have hcz10_4 : w3.cell? ⟨gb389,4,none⟩ = some (.int .i64 a0_4):=(blk_cell BK389.out 4).trans rfl
     have hcz10_5 : w3.cell? ⟨gb389,5,none⟩ = some (.int .i64 a0_5):=(blk_cell BK389.out 5).trans rfl
     have hcz10_6 : w3.cell? ⟨gb389,6,none⟩ = some (.int .i64 a0_6):=(blk_cell BK389.out 6).trans rfl
     have hcz10_7 : w3.cell? ⟨gb389,7,none⟩ = some (.int .i64 a0_7):=(blk_cell BK389.out 7).trans rfl
     have hcz10_8 : w3.cell? ⟨gb389,8,none⟩ = some (.slice A0_8 l0_8.length c0_8):=(blk_cell BK389.out 8).trans rfl
     have hcz10_9 : w3.cell? ⟨gb389,9,none⟩ = some (.int .i64 a0_9):=(blk_cell BK389.out 9).trans rfl
     have hfz10_0:=blk_frozen BK389.out 0
     have hfz10_1:=blk_frozen BK389.out 1
     have hfz10_2:=blk_frozen BK389.out 2
     have hfz10_3:=blk_frozen BK389.out 3
     have hfz10_4:=blk_frozen BK389.out 4
     have hfz10_5:=blk_frozen BK389.out 5
     have hfz10_6:=blk_frozen BK389.out 6
     have hfz10_7:=blk_frozen BK389.out 7
     have hfz10_8:=blk_frozen BK389.out 8
     have hfz10_9:=blk_frozen BK389.out 9
     go_wp2_with (first|((with_reducible refine gate_callee (f:=16) rfl ?_);refine goesL_ (some 13) rfl rfl Try.func16 (by kernel_rfl) rfl #[.int .i64 a0_0,.int .i64 1,.int .i64 4] rfl (by (try simp only [List.map_toArray,List.map_cons,List.map_nil]);first|done|rfl|(simp only [List.length_drop,List.length_take];rfl)) ?_;(with_reducible refine (impl_InRange.calls a0_0 1 4 true _ A4.out).mono ?_);rintro e w' ⟨rfl,⟨nd,rfl⟩⟩;refine ⟨_,rfl,?_⟩)|(go_at_call 16;(with_reducible refine (impl_InRange.calls (l0_1.length : Int) 1 8 true _ A6.out).mono ?_);rintro e w' ⟨rfl,⟨nd,rfl⟩⟩))
     go_meet
     case rel => exact ⟨_,(decide ((l0_8.length : Int) > 4)),(by first|rfl|(simp;done)|(simp [*];done)),H',⟨by first|omega|exact Nat.le_refl _⟩,⟨by (with_reducible repeat (first|refine blk_drewN ?_ _|refine blk_drew ?_|refine blk_alloc ?_ _));exact BK389.out⟩,⟨by repeat (first|(with_reducible first|exact HB.out|apply below_alloc|apply pw_below_drewN|apply below_drew1|refine below_set ?_ GE389.out)|exact HB.out)⟩⟩
   ·replace c7:=Bool.eq_false_iff.mpr c7
    subst c7
    have H1 : (impl_IsSky.j0 k true a0_0 l0_1 l0_2 a0_3 a0_4 a0_5 a0_6 a0_7 l0_8 a0_9) = some r:=by rw [if_neg (show ¬ (false = true) by decide)] at H;exact H
    clear H
    have H:=H1
    clear H1
    have H':=Aside0.mk H
    clear H
    have hcz11_0 : w3.cell? ⟨gb389,0,none⟩ = some (.int .i64 a0_0):=(blk_cell BK389.out 0).trans rfl
    have hcz11_1 : w3.cell? ⟨gb389,1,none⟩ = some (.slice A0_1 l0_1.length c0_1):=(blk_cell BK389.out 1).trans rfl
    have hcz11_2 : w3.cell? ⟨gb389,2,none⟩ = some (.slice A0_2 l0_2.length c0_2):=(blk_cell BK389.out 2).trans rfl
    have hcz11_3 : w3.cell? ⟨gb389,3,none⟩ = some (.int .i64 a0_3):=(blk_cell BK389.out 3).trans rfl
    have hcz11_4 : w3.cell? ⟨gb389,4,none⟩ = some (.int .i64 a0_4):=(blk_cell BK389.out 4).trans rfl
    have hcz11_5 : w3.cell? ⟨gb389,5,none⟩ = some (.int .i64 a0_5):=(blk_cell BK389.out 5).trans rfl
    have hcz11_6 : w3.cell? ⟨gb389,6,none⟩ = some (.int .i64 a0_6):=(blk_cell BK389.out 6).trans rfl
    have hcz11_7 : w3.cell? ⟨gb389,7,none⟩ = some (.int .i64 a0_7):=(blk_cell BK389.out 7).trans rfl
    have hcz11_8 : w3.cell? ⟨gb389,8,none⟩ = some (.slice A0_8 l0_8.length c0_8):=(blk_cell BK389.out 8).trans rfl
    have hcz11_9 : w3.cell? ⟨gb389,9,none⟩ = some (.int .i64 a0_9):=(blk_cell BK389.out 9).trans rfl
    have hfz11_0:=blk_frozen BK389.out 0
    have hfz11_1:=blk_frozen BK389.out 1
    have hfz11_2:=blk_frozen BK389.out 2
    have hfz11_3:=blk_frozen BK389.out 3
    have hfz11_4:=blk_frozen BK389.out 4
    have hfz11_5:=blk_frozen BK389.out 5
    have hfz11_6:=blk_frozen BK389.out 6
    have hfz11_7:=blk_frozen BK389.out 7
    have hfz11_8:=blk_frozen BK389.out 8
    have hfz11_9:=blk_frozen BK389.out 9
    go_wp2_with (first|((with_reducible refine gate_callee (f:=16) rfl ?_);refine goesL_ (some 13) rfl rfl Try.func16 (by kernel_rfl) rfl #[.int .i64 a0_0,.int .i64 1,.int .i64 4] rfl (by (try simp only [List.map_toArray,List.map_cons,List.map_nil]);first|done|rfl|(simp only [List.length_drop,List.length_take];rfl)) ?_;(with_reducible refine (impl_InRange.calls a0_0 1 4 true _ A4.out).mono ?_);rintro e w' ⟨rfl,⟨nd,rfl⟩⟩;refine ⟨_,rfl,?_⟩)|(go_at_call 16;(with_reducible refine (impl_InRange.calls (l0_1.length : Int) 1 8 false _ A6.out).mono ?_);rintro e w' ⟨rfl,⟨nd,rfl⟩⟩))
    go_meet
    case rel => exact ⟨_,(true),(by first|rfl|(simp;done)|(simp [*];done)),H',⟨by first|omega|exact Nat.le_refl _⟩,⟨by (with_reducible repeat (first|refine blk_drewN ?_ _|refine blk_drew ?_|refine blk_alloc ?_ _));exact BK389.out⟩,⟨by repeat (first|(with_reducible first|exact HB.out|apply below_alloc|apply pw_below_drewN|apply below_drew1|refine below_set ?_ GE389.out)|exact HB.out)⟩⟩
  ·replace c5:=Bool.eq_false_iff.mpr c5
   subst c5
   have H1 : (impl_IsSky.j0 k true a0_0 l0_1 l0_2 a0_3 a0_4 a0_5 a0_6 a0_7 l0_8 a0_9) = some r:=by rw [if_neg (show ¬ (false = true) by decide)] at H;exact H
   clear H
   have H:=H1
   clear H1
   have H':=Aside0.mk H
   clear H
   have hcz12_0 : w3.cell? ⟨gb389,0,none⟩ = some (.int .i64 a0_0):=(blk_cell BK389.out 0).trans rfl
   have hcz12_1 : w3.cell? ⟨gb389,1,none⟩ = some (.slice A0_1 l0_1.length c0_1):=(blk_cell BK389.out 1).trans rfl
   have hcz12_2 : w3.cell? ⟨gb389,2,none⟩ = some (.slice A0_2 l0_2.length c0_2):=(blk_cell BK389.out 2).trans rfl
   have hcz12_3 : w3.cell? ⟨gb389,3,none⟩ = some (.int .i64 a0_3):=(blk_cell BK389.out 3).trans rfl
   have hcz12_4 : w3.cell? ⟨gb389,4,none⟩ = some (.int .i64 a0_4):=(blk_cell BK389.out 4).trans rfl
   have hcz12_5 : w3.cell? ⟨gb389,5,none⟩ = some (.int .i64 a0_5):=(blk_cell BK389.out 5).trans rfl
   have hcz12_6 : w3.cell? ⟨gb389,6,none⟩ = some (.int .i64 a0_6):=(blk_cell BK389.out 6).trans rfl
   have hcz12_7 : w3.cell? ⟨gb389,7,none⟩ = some (.int .i64 a0_7):=(blk_cell BK389.out 7).trans rfl
   have hcz12_8 : w3.cell? ⟨gb389,8,none⟩ = some (.slice A0_8 l0_8.length c0_8):=(blk_cell BK389.out 8).trans rfl
   have hcz12_9 : w3.cell? ⟨gb389,9,none⟩ = some (.int .i64 a0_9):=(blk_cell BK389.out 9).trans rfl
   have hfz12_0:=blk_frozen BK389.out 0
   have hfz12_1:=blk_frozen BK389.out 1
   have hfz12_2:=blk_frozen BK389.out 2
   have hfz12_3:=blk_frozen BK389.out 3
   have hfz12_4:=blk_frozen BK389.out 4
   have hfz12_5:=blk_frozen BK389.out 5
   have hfz12_6:=blk_frozen BK389.out 6
   have hfz12_7:=blk_frozen BK389.out 7
   have hfz12_8:=blk_frozen BK389.out 8
   have hfz12_9:=blk_frozen BK389.out 9
   go_wp2_with (first|((with_reducible refine gate_callee (f:=16) rfl ?_);refine goesL_ (some 13) rfl rfl Try.func16 (by kernel_rfl) rfl #[.int .i64 a0_0,.int .i64 1,.int .i64 4] rfl (by (try simp only [List.map_toArray,List.map_cons,List.map_nil]);first|done|rfl|(simp only [List.length_drop,List.length_take];rfl)) ?_;(with_reducible refine (impl_InRange.calls a0_0 1 4 false _ A4.out).mono ?_);rintro e w' ⟨rfl,⟨nd,rfl⟩⟩;refine ⟨_,rfl,?_⟩))
   go_meet
   case rel => exact ⟨_,(true),(by first|rfl|(simp;done)|(simp [*];done)),H',⟨by first|omega|exact Nat.le_refl _⟩,⟨by (with_reducible repeat (first|refine blk_drewN ?_ _|refine blk_drew ?_|refine blk_alloc ?_ _));exact BK389.out⟩,⟨by repeat (first|(with_reducible first|exact HB.out|apply below_alloc|apply pw_below_drewN|apply below_drew1|refine below_set ?_ GE389.out)|exact HB.out)⟩⟩
 case rest =>
  clear HC2
  obtain ⟨kq,x33_1,rfl,HA,HJ1,BK389,HB⟩:=hcut
  cases kq with
  | zero => exact absurd HA.out (by simp [impl_IsSky.j0])
  | succ kj1 =>
   have H:=HA.out
   clear HA
   simp only [impl_IsSky.j0] at H
   by_cases c13 : x33_1 = true
   ·subst c13
    have H1 : (some false) = some r:=by rw [if_pos rfl] at H;exact H
    clear H
    have H:=H1
    clear H1
    obtain rfl:=Option.some.inj H
    go_wp2
    go_ret
    exact ⟨by first|rfl|(simp [errW_none,errW_some] <;> rfl)|(simp [*,errW_none,errW_some] <;> rfl),by repeat (first|(with_reducible first|exact HB.out|apply below_alloc|apply pw_below_drewN|apply below_drew1|refine below_set ?_ GE389.out)|exact HB.out)⟩
   ·replace c13:=Bool.eq_false_iff.mpr c13
    subst c13
    have H1 : (impl_IsSky.l0 kj1 l0_1 (l0_1.length : Int) 0 a0_0 l0_1 l0_2 a0_3 a0_4 a0_5 a0_6 a0_7 l0_8 a0_9) = some r:=by rw [if_neg (show ¬ (false = true) by decide)] at H;exact H
    clear H
    have H:=H1
    clear H1
    have H':=Aside0.mk H
    clear H
    have hcz14_0 : wc.cell? ⟨gb389,0,none⟩ = some (.int .i64 a0_0):=(blk_cell BK389.out 0).trans rfl
    have hcz14_1 : wc.cell? ⟨gb389,1,none⟩ = some (.slice A0_1 l0_1.length c0_1):=(blk_cell BK389.out 1).trans rfl
    have hcz14_2 : wc.cell? ⟨gb389,2,none⟩ = some (.slice A0_2 l0_2.length c0_2):=(blk_cell BK389.out 2).trans rfl
    have hcz14_3 : wc.cell? ⟨gb389,3,none⟩ = some (.int .i64 a0_3):=(blk_cell BK389.out 3).trans rfl
    have hcz14_4 : wc.cell? ⟨gb389,4,none⟩ = some (.int .i64 a0_4):=(blk_cell BK389.out 4).trans rfl
    have hcz14_5 : wc.cell? ⟨gb389,5,none⟩ = some (.int .i64 a0_5):=(blk_cell BK389.out 5).trans rfl
    have hcz14_6 : wc.cell? ⟨gb389,6,none⟩ = some (.int .i64 a0_6):=(blk_cell BK389.out 6).trans rfl
    have hcz14_7 : wc.cell? ⟨gb389,7,none⟩ = some (.int .i64 a0_7):=(blk_cell BK389.out 7).trans rfl
    have hcz14_8 : wc.cell? ⟨gb389,8,none⟩ = some (.slice A0_8 l0_8.length c0_8):=(blk_cell BK389.out 8).trans rfl
    have hcz14_9 : wc.cell? ⟨gb389,9,none⟩ = some (.int .i64 a0_9):=(blk_cell BK389.out 9).trans rfl
    have hfz14_0:=blk_frozen BK389.out 0
    have hfz14_1:=blk_frozen BK389.out 1
    have hfz14_2:=blk_frozen BK389.out 2
    have hfz14_3:=blk_frozen BK389.out 3
    have hfz14_4:=blk_frozen BK389.out 4
    have hfz14_5:=blk_frozen BK389.out 5
    have hfz14_6:=blk_frozen BK389.out 6
    have hfz14_7:=blk_frozen BK389.out 7
    have hfz14_8:=blk_frozen BK389.out 8
    have hfz14_9:=blk_frozen BK389.out 9
    go_wp2
    go_loopg [37] kj1 (fun kq v37 w' => ∃ (x37_2 : Int),v37 = .int .i64 x37_2 ∧ Aside0 (impl_IsSky.l0 kq l0_1 (l0_1.length : Int) x37_2 a0_0 l0_1 l0_2 a0_3 a0_4 a0_5 a0_6 a0_7 l0_8 a0_9 = some r) ∧ Aside0 (kq ≤ kj1) ∧ Aside0 (w'.heap[gb389]? = some (.cells #[.int .i64 a0_0,(.slice A0_1 l0_1.length c0_1),(.slice A0_2 l0_2.length c0_2),.int .i64 a0_3,.int .i64 a0_4,.int .i64 a0_5,.int .i64 a0_6,.int .i64 a0_7,(.slice A0_8 l0_8.length c0_8),.int .i64 a0_9] 28 (0,0))) ∧ Aside0 (Below w.heap.size w w'))
    case atStart => exact ⟨(0),(by first|rfl|(simp;done)|(simp [*];done)),H',⟨Nat.le_refl _⟩,⟨by (with_reducible repeat (first|refine blk_drewN ?_ _|refine blk_drew ?_|refine blk_alloc ?_ _));exact BK389.out⟩,⟨by repeat (first|(with_reducible first|exact HB.out|apply below_alloc|apply pw_below_drewN|apply below_drew1|refine below_set ?_ GE389.out)|exact HB.out)⟩⟩
    case round =>
     clear H'
     try clear c13
     try clear hcz14_0
     try clear hcz14_1
     try clear hcz14_2
     try clear hcz14_3
     try clear hcz14_4
     try clear hcz14_5
     try clear hcz14_6
     try clear hcz14_7
     try clear hcz14_8
     try clear hcz14_9
     try clear hfz14_0
     try clear hfz14_1
     try clear hfz14_2
     try clear hfz14_3
     try clear hfz14_4
     try clear hfz14_5
     try clear hfz14_6
     try clear hfz14_7
     try clear hfz14_8
     try clear hfz14_9
     obtain ⟨x37_2,rfl,HA,HK2,BK389,HB⟩:=hrel
     cases gk with
     | zero => exact absurd HA.out (by simp [impl_IsSky.l0])
     | succ k2 =>
      have H:=HA.out
      clear HA
      simp only [impl_IsSky.l0] at H
      by_cases c15 : x37_2 < (l0_1.length : Int)
      ·rw [if_pos c15] at H
       have c15b0 : decide (x37_2 < (l0_1.length : Int)) = true:=decide_eq_true c15
       clear c15
       by_cases c16 : 0 ≤ x37_2
       ·rw [if_pos c16] at H
        have c16b0 : decide (0 ≤ x37_2) = true:=decide_eq_true c16
        clear c16
        by_cases c17 : x37_2 < (l0_1.length : Int)
        ·rw [if_pos c17] at H
         have c17b0 : decide (x37_2 < (l0_1.length : Int)) = true:=decide_eq_true c17
         clear c17
         replace H:=Option.bind_eq_some_iff.mp H
         obtain ⟨t394,A180,H⟩:=H
         replace H : (if t394 = true then (impl_IsSky.l0 k2 l0_1 (l0_1.length : Int) (wrap64 (x37_2 + 1)) a0_0 l0_1 l0_2 a0_3 a0_4 a0_5 a0_6 a0_7 l0_8 a0_9) else (some false)) = some r:=H
         have A18:=Aside0.mk A180
         clear A180
         by_cases c19 : t394 = true
         ·subst c19
          have H1 : (impl_IsSky.l0 k2 l0_1 (l0_1.length : Int) (wrap64 (x37_2 + 1)) a0_0 l0_1 l0_2 a0_3 a0_4 a0_5 a0_6 a0_7 l0_8 a0_9) = some r:=by rw [if_pos rfl] at H;exact H
          clear H
          have H:=H1
          clear H1
          have H':=Aside0.mk H
          clear H
          have p392 : 0 ≤ (x37_2 : Int):=of_decide_eq_true (by first|(with_reducible assumption)|assumption)
          have q392 : x37_2 < (l0_1.length : Int):=of_decide_eq_true (by first|(with_reducible assumption)|assumption)
          obtain ⟨ad392,e392,hx392_0,hx392_1,hx392_2,hx392_3⟩:=at_T43 HR0_1.out x37_2 p392 q392
          cases e392
          replace hx392_0:=(HB.out.cell (World.block_lt_of_cell? w _ hx392_0)).trans hx392_0
          replace hx392_1:=(HB.out.cell (World.block_lt_of_cell? w _ hx392_1)).trans hx392_1
          replace hx392_2:=(HB.out.cell (World.block_lt_of_cell? w _ hx392_2)).trans hx392_2
          replace hx392_3:=(HB.out.cell (World.block_lt_of_cell? w _ hx392_3)).trans hx392_3
          replace p392:=eq_true p392
          replace q392:=eq_true q392
          go_wp2_with (first|((with_reducible refine gate_dst (N:=4) rfl ?_);(try (refine gate_guard (by rfl) ?_;dsimp only));refine box_event ?hg (N:=4) ?hd (cs:=#[.int .i64 0,.int .i64 0,.int .i64 0,.int .i64 0]) (t:=43) ?hr ?_;(case hd => rfl);(case hg => rfl);(case hr => first|(go_simp;done)|(go_simp;rfl));intro gb393 hg w20 hbox hb;have BK393:=Aside0.mk (hbox);have GE393:=Aside0.mk ((by rw [hg];exact (below_size (by repeat (first|(with_reducible first|exact HB.out|apply below_alloc|apply pw_below_drewN|apply below_drew1|refine below_set ?_ GE389.out)|exact HB.out))) : w.heap.size ≤ gb393));replace HB:=Aside0.mk (below_step (by repeat (first|(with_reducible first|exact HB.out|apply below_alloc|apply pw_below_drewN|apply below_drew1|refine below_set ?_ GE389.out)|exact HB.out)) hb);have NB389_393:=Aside0.mk ((by rw [hg];exact Nat.ne_of_lt (blk_lt (g:=gb389) (o:=.cells #[.int .i64 a0_0,.slice (some ad392) l0_1.length c0_1,.slice A0_2 l0_2.length c0_2,.int .i64 a0_3,.int .i64 a0_4,.int .i64 a0_5,.int .i64 a0_6,.int .i64 a0_7,.slice A0_8 l0_8.length c0_8,.int .i64 a0_9] 28 (0,0)) (by (with_reducible repeat (first|refine blk_drewN ?_ _|refine blk_drew ?_|refine blk_alloc ?_ _));exact BK389.out)) : gb389 ≠ gb393));replace BK389:=Aside0.mk (blk_below (g:=gb389) (o:=.cells #[.int .i64 a0_0,.slice (some ad392) l0_1.length c0_1,.slice A0_2 l0_2.length c0_2,.int .i64 a0_3,.int .i64 a0_4,.int .i64 a0_5,.int .i64 a0_6,.int .i64 a0_7,.slice A0_8 l0_8.length c0_8,.int .i64 a0_9] 28 (0,0)) (by (with_reducible repeat (first|refine blk_drewN ?_ _|refine blk_drew ?_|refine blk_alloc ?_ _));exact BK389.out) hb);have NB393_389:=Aside0.mk (Ne.symm NB389_393.out);clear hb hbox hg;have hnb21:=NB393_389.out;have hnc21:=NB389_393.out;have hcz22_0 : w20.cell? ⟨gb393,0,none⟩ = some (.int .i64 0):=(blk_cell BK393.out 0).trans rfl;have hcz22_1 : w20.cell? ⟨gb393,1,none⟩ = some (.int .i64 0):=(blk_cell BK393.out 1).trans rfl;have hcz22_2 : w20.cell? ⟨gb393,2,none⟩ = some (.int .i64 0):=(blk_cell BK393.out 2).trans rfl;have hcz22_3 : w20.cell? ⟨gb393,3,none⟩ = some (.int .i64 0):=(blk_cell BK393.out 3).trans rfl;have hfz22_0:=blk_frozen BK393.out 0;have hfz22_1:=blk_frozen BK393.out 1;have hfz22_2:=blk_frozen BK393.out 2;have hfz22_3:=blk_frozen BK393.out 3;have hcz23_0 : w20.cell? ⟨gb389,0,none⟩ = some (.int .i64 a0_0):=(blk_cell BK389.out 0).trans rfl;have hcz23_1 : w20.cell? ⟨gb389,1,none⟩ = some (.slice (some ad392) l0_1.length c0_1):=(blk_cell BK389.out 1).trans rfl;have hcz23_2 : w20.cell? ⟨gb389,2,none⟩ = some (.slice A0_2 l0_2.length c0_2):=(blk_cell BK389.out 2).trans rfl;have hcz23_3 : w20.cell? ⟨gb389,3,none⟩ = some (.int .i64 a0_3):=(blk_cell BK389.out 3).trans rfl;have hcz23_4 : w20.cell? ⟨gb389,4,none⟩ = some (.int .i64 a0_4):=(blk_cell BK389.out 4).trans rfl;have hcz23_5 : w20.cell? ⟨gb389,5,none⟩ = some (.int .i64 a0_5):=(blk_cell BK389.out 5).trans rfl;have hcz23_6 : w20.cell? ⟨gb389,6,none⟩ = some (.int .i64 a0_6):=(blk_cell BK389.out 6).trans rfl;have hcz23_7 : w20.cell? ⟨gb389,7,none⟩ = some (.int .i64 a0_7):=(blk_cell BK389.out 7).trans rfl;have hcz23_8 : w20.cell? ⟨gb389,8,none⟩ = some (.slice A0_8 l0_8.length c0_8):=(blk_cell BK389.out 8).trans rfl;have hcz23_9 : w20.cell? ⟨gb389,9,none⟩ = some (.int .i64 a0_9):=(blk_cell BK389.out 9).trans rfl;have hfz23_0:=blk_frozen BK389.out 0;have hfz23_1:=blk_frozen BK389.out 1;have hfz23_2:=blk_frozen BK389.out 2;have hfz23_3:=blk_frozen BK389.out 3;have hfz23_4:=blk_frozen BK389.out 4;have hfz23_5:=blk_frozen BK389.out 5;have hfz23_6:=blk_frozen BK389.out 6;have hfz23_7:=blk_frozen BK389.out 7;have hfz23_8:=blk_frozen BK389.out 8;have hfz23_9:=blk_frozen BK389.out 9)|((with_reducible refine gate_callee (f:=17) rfl ?_);refine goesL_ (some 44) rfl rfl Try.func17 (by kernel_rfl) rfl #[.agg #[.int .i64 ((rd_T43 l0_1 x37_2).f0),.int .i64 ((rd_T43 l0_1 x37_2).f1),.int .i64 ((rd_T43 l0_1 x37_2).f2),.int .i64 ((rd_T43 l0_1 x37_2).f3)],.int .i64 a0_0] rfl (by (try simp only [List.map_toArray,List.map_cons,List.map_nil]);first|done|rfl|(simp only [List.length_drop,List.length_take];rfl)) ?_;(with_reducible refine (impl_IsSat.calls ((rd_T43 l0_1 x37_2).f0) ((rd_T43 l0_1 x37_2).f1) ((rd_T43 l0_1 x37_2).f2) ((rd_T43 l0_1 x37_2).f3) a0_0 true _ A18.out).mono ?_);rintro e w24 ⟨rfl,hb⟩;refine ⟨_,rfl,?_⟩;replace BK389:=Aside0.mk (blk_below (g:=gb389) (o:=.cells #[.int .i64 a0_0,.slice (some ad392) l0_1.length c0_1,.slice A0_2 l0_2.length c0_2,.int .i64 a0_3,.int .i64 a0_4,.int .i64 a0_5,.int .i64 a0_6,.int .i64 a0_7,.slice A0_8 l0_8.length c0_8,.int .i64 a0_9] 28 (0,0)) (by (with_reducible repeat (first|refine blk_drewN ?_ _|refine blk_drew ?_|refine blk_alloc ?_ _));refine blk_far ?_ NB389_393.out _;(with_reducible repeat (first|refine blk_drewN ?_ _|refine blk_drew ?_|refine blk_alloc ?_ _));refine blk_far ?_ NB389_393.out _;(with_reducible repeat (first|refine blk_drewN ?_ _|refine blk_drew ?_|refine blk_alloc ?_ _));refine blk_far ?_ NB389_393.out _;(with_reducible repeat (first|refine blk_drewN ?_ _|refine blk_drew ?_|refine blk_alloc ?_ _));refine blk_far ?_ NB389_393.out _;(with_reducible repeat (first|refine blk_drewN ?_ _|refine blk_drew ?_|refine blk_alloc ?_ _));exact BK389.out) hb);replace BK393:=Aside0.mk (blk_below (g:=gb393) (o:=.cells #[.int .i64 ((rd_T43 l0_1 x37_2).f0),.int .i64 ((rd_T43 l0_1 x37_2).f1),.int .i64 ((rd_T43 l0_1 x37_2).f2),.int .i64 ((rd_T43 l0_1 x37_2).f3)] 43 (0,0)) (by (with_reducible repeat (first|refine blk_drewN ?_ _|refine blk_drew ?_|refine blk_alloc ?_ _));refine blk_put (cs:=#[.int .i64 ((rd_T43 l0_1 x37_2).f0),.int .i64 ((rd_T43 l0_1 x37_2).f1),.int .i64 ((rd_T43 l0_1 x37_2).f2),.int .i64 0]) ?_ 3 _ rfl;(with_reducible repeat (first|refine blk_drewN ?_ _|refine blk_drew ?_|refine blk_alloc ?_ _));refine blk_put (cs:=#[.int .i64 ((rd_T43 l0_1 x37_2).f0),.int .i64 ((rd_T43 l0_1 x37_2).f1),.int .i64 0,.int .i64 0]) ?_ 2 _ rfl;(with_reducible repeat (first|refine blk_drewN ?_ _|refine blk_drew ?_|refine blk_alloc ?_ _));refine blk_put (cs:=#[.int .i64 ((rd_T43 l0_1 x37_2).f0),.int .i64 0,.int .i64 0,.int .i64 0]) ?_ 1 _ rfl;(with_reducible repeat (first|refine blk_drewN ?_ _|refine blk_drew ?_|refine blk_alloc ?_ _));refine blk_put (cs:=#[.int .i64 0,.int .i64 0,.int .i64 0,.int .i64 0]) ?_ 0 _ rfl;(with_reducible repeat (first|refine blk_drewN ?_ _|refine blk_drew ?_|refine blk_alloc ?_ _));exact BK393.out) hb);replace HB:=Aside0.mk (below_step (by repeat (first|(with_reducible first|exact HB.out|apply below_alloc|apply pw_below_drewN|apply below_drew1|refine below_set ?_ GE389.out|refine below_set ?_ GE393.out)|exact HB.out)) hb);(try clear hb);(try clear hb2);(try clear hk);(try clear hi)))
          go_roundg k2
          case measure => have:=HJ1.out;have:=HK2.out;omega
          case rel => exact ⟨(wrap64 (x37_2 + 1)),(by first|rfl|(simp;done)|(simp [*];done)),H',⟨by have:=HJ1.out;have:=HK2.out;omega⟩,⟨by (with_reducible repeat (first|refine blk_drewN ?_ _|refine blk_drew ?_|refine blk_alloc ?_ _));exact BK389.out⟩,⟨by repeat (first|(with_reducible first|exact HB.out|apply below_alloc|apply pw_below_drewN|apply below_drew1|refine below_set ?_ GE389.out|refine below_set ?_ GE393.out)|exact HB.out)⟩⟩
         ·replace c19:=Bool.eq_false_iff.mpr c19
          subst c19
          have H1 : (some false) = some r:=by rw [if_neg (show ¬ (false = true) by decide)] at H;exact H
          clear H
          have H:=H1
          clear H1
          obtain rfl:=Option.some.inj H
          have p392 : 0 ≤ (x37_2 : Int):=of_decide_eq_true (by first|(with_reducible assumption)|assumption)
          have q392 : x37_2 < (l0_1.length : Int):=of_decide_eq_true (by first|(with_reducible assumption)|assumption)
          obtain ⟨ad392,e392,hx392_0,hx392_1,hx392_2,hx392_3⟩:=at_T43 HR0_1.out x37_2 p392 q392
          cases e392
          replace hx392_0:=(HB.out.cell (World.block_lt_of_cell? w _ hx392_0)).trans hx392_0
          replace hx392_1:=(HB.out.cell (World.block_lt_of_cell? w _ hx392_1)).trans hx392_1
          replace hx392_2:=(HB.out.cell (World.block_lt_of_cell? w _ hx392_2)).trans hx392_2
          replace hx392_3:=(HB.out.cell (World.block_lt_of_cell? w _ hx392_3)).trans hx392_3
          replace p392:=eq_true p392
          replace q392:=eq_true q392
          go_wp2_with (first|((with_reducible refine gate_dst (N:=4) rfl ?_);(try (refine gate_guard (by rfl) ?_;dsimp only));refine box_event ?hg (N:=4) ?hd (cs:=#[.int .i64 0,.int .i64 0,.int .i64 0,.int .i64 0]) (t:=43) ?hr ?_;(case hd => rfl);(case hg => rfl);(case hr => first|(go_simp;done)|(go_simp;rfl));intro gb393 hg w25 hbox hb;have BK393:=Aside0.mk (hbox);have GE393:=Aside0.mk ((by rw [hg];exact (below_size (by repeat (first|(with_reducible first|exact HB.out|apply below_alloc|apply pw_below_drewN|apply below_drew1|refine below_set ?_ GE389.out)|exact HB.out))) : w.heap.size ≤ gb393));replace HB:=Aside0.mk (below_step (by repeat (first|(with_reducible first|exact HB.out|apply below_alloc|apply pw_below_drewN|apply below_drew1|refine below_set ?_ GE389.out)|exact HB.out)) hb);have NB389_393:=Aside0.mk ((by rw [hg];exact Nat.ne_of_lt (blk_lt (g:=gb389) (o:=.cells #[.int .i64 a0_0,.slice (some ad392) l0_1.length c0_1,.slice A0_2 l0_2.length c0_2,.int .i64 a0_3,.int .i64 a0_4,.int .i64 a0_5,.int .i64 a0_6,.int .i64 a0_7,.slice A0_8 l0_8.length c0_8,.int .i64 a0_9] 28 (0,0)) (by (with_reducible repeat (first|refine blk_drewN ?_ _|refine blk_drew ?_|refine blk_alloc ?_ _));exact BK389.out)) : gb389 ≠ gb393));replace BK389:=Aside0.mk (blk_below (g:=gb389) (o:=.cells #[.int .i64 a0_0,.slice (some ad392) l0_1.length c0_1,.slice A0_2 l0_2.length c0_2,.int .i64 a0_3,.int .i64 a0_4,.int .i64 a0_5,.int .i64 a0_6,.int .i64 a0_7,.slice A0_8 l0_8.length c0_8,.int .i64 a0_9] 28 (0,0)) (by (with_reducible repeat (first|refine blk_drewN ?_ _|refine blk_drew ?_|refine blk_alloc ?_ _));exact BK389.out) hb);have NB393_389:=Aside0.mk (Ne.symm NB389_393.out);clear hb hbox hg;have hnb26:=NB393_389.out;have hnc26:=NB389_393.out;have hcz27_0 : w25.cell? ⟨gb393,0,none⟩ = some (.int .i64 0):=(blk_cell BK393.out 0).trans rfl;have hcz27_1 : w25.cell? ⟨gb393,1,none⟩ = some (.int .i64 0):=(blk_cell BK393.out 1).trans rfl;have hcz27_2 : w25.cell? ⟨gb393,2,none⟩ = some (.int .i64 0):=(blk_cell BK393.out 2).trans rfl;have hcz27_3 : w25.cell? ⟨gb393,3,none⟩ = some (.int .i64 0):=(blk_cell BK393.out 3).trans rfl;have hfz27_0:=blk_frozen BK393.out 0;have hfz27_1:=blk_frozen BK393.out 1;have hfz27_2:=blk_frozen BK393.out 2;have hfz27_3:=blk_frozen BK393.out 3;have hcz28_0 : w25.cell? ⟨gb389,0,none⟩ = some (.int .i64 a0_0):=(blk_cell BK389.out 0).trans rfl;have hcz28_1 : w25.cell? ⟨gb389,1,none⟩ = some (.slice (some ad392) l0_1.length c0_1):=(blk_cell BK389.out 1).trans rfl;have hcz28_2 : w25.cell? ⟨gb389,2,none⟩ = some (.slice A0_2 l0_2.length c0_2):=(blk_cell BK389.out 2).trans rfl;have hcz28_3 : w25.cell? ⟨gb389,3,none⟩ = some (.int .i64 a0_3):=(blk_cell BK389.out 3).trans rfl;have hcz28_4 : w25.cell? ⟨gb389,4,none⟩ = some (.int .i64 a0_4):=(blk_cell BK389.out 4).trans rfl;have hcz28_5 : w25.cell? ⟨gb389,5,none⟩ = some (.int .i64 a0_5):=(blk_cell BK389.out 5).trans rfl;have hcz28_6 : w25.cell? ⟨gb389,6,none⟩ = some (.int .i64 a0_6):=(blk_cell BK389.out 6).trans rfl;have hcz28_7 : w25.cell? ⟨gb389,7,none⟩ = some (.int .i64 a0_7):=(blk_cell BK389.out 7).trans rfl;have hcz28_8 : w25.cell? ⟨gb389,8,none⟩ = some (.slice A0_8 l0_8.length c0_8):=(blk_cell BK389.out 8).trans rfl;have hcz28_9 : w25.cell? ⟨gb389,9,none⟩ = some (.int .i64 a0_9):=(blk_cell BK389.out 9).trans rfl;have hfz28_0:=blk_frozen BK389.out 0;have hfz28_1:=blk_frozen BK389.out 1;have hfz28_2:=blk_frozen BK389.out 2;have hfz28_3:=blk_frozen BK389.out 3;have hfz28_4:=blk_frozen BK389.out 4;have hfz28_5:=blk_frozen BK389.out 5;have hfz28_6:=blk_frozen BK389.out 6;have hfz28_7:=blk_frozen BK389.out 7;have hfz28_8:=blk_frozen BK389.out 8;have hfz28_9:=blk_frozen BK389.out 9)|((with_reducible refine gate_callee (f:=17) rfl ?_);refine goesL_ (some 44) rfl rfl Try.func17 (by kernel_rfl) rfl #[.agg #[.int .i64 ((rd_T43 l0_1 x37_2).f0),.int .i64 ((rd_T43 l0_1 x37_2).f1),.int .i64 ((rd_T43 l0_1 x37_2).f2),.int .i64 ((rd_T43 l0_1 x37_2).f3)],.int .i64 a0_0] rfl (by (try simp only [List.map_toArray,List.map_cons,List.map_nil]);first|done|rfl|(simp only [List.length_drop,List.length_take];rfl)) ?_;(with_reducible refine (impl_IsSat.calls ((rd_T43 l0_1 x37_2).f0) ((rd_T43 l0_1 x37_2).f1) ((rd_T43 l0_1 x37_2).f2) ((rd_T43 l0_1 x37_2).f3) a0_0 false _ A18.out).mono ?_);rintro e w29 ⟨rfl,hb⟩;refine ⟨_,rfl,?_⟩;replace BK389:=Aside0.mk (blk_below (g:=gb389) (o:=.cells #[.int .i64 a0_0,.slice (some ad392) l0_1.length c0_1,.slice A0_2 l0_2.length c0_2,.int .i64 a0_3,.int .i64 a0_4,.int .i64 a0_5,.int .i64 a0_6,.int .i64 a0_7,.slice A0_8 l0_8.length c0_8,.int .i64 a0_9] 28 (0,0)) (by (with_reducible repeat (first|refine blk_drewN ?_ _|refine blk_drew ?_|refine blk_alloc ?_ _));refine blk_far ?_ NB389_393.out _;(with_reducible repeat (first|refine blk_drewN ?_ _|refine blk_drew ?_|refine blk_alloc ?_ _));refine blk_far ?_ NB389_393.out _;(with_reducible repeat (first|refine blk_drewN ?_ _|refine blk_drew ?_|refine blk_alloc ?_ _));refine blk_far ?_ NB389_393.out _;(with_reducible repeat (first|refine blk_drewN ?_ _|refine blk_drew ?_|refine blk_alloc ?_ _));refine blk_far ?_ NB389_393.out _;(with_reducible repeat (first|refine blk_drewN ?_ _|refine blk_drew ?_|refine blk_alloc ?_ _));exact BK389.out) hb);replace BK393:=Aside0.mk (blk_below (g:=gb393) (o:=.cells #[.int .i64 ((rd_T43 l0_1 x37_2).f0),.int .i64 ((rd_T43 l0_1 x37_2).f1),.int .i64 ((rd_T43 l0_1 x37_2).f2),.int .i64 ((rd_T43 l0_1 x37_2).f3)] 43 (0,0)) (by (with_reducible repeat (first|refine blk_drewN ?_ _|refine blk_drew ?_|refine blk_alloc ?_ _));refine blk_put (cs:=#[.int .i64 ((rd_T43 l0_1 x37_2).f0),.int .i64 ((rd_T43 l0_1 x37_2).f1),.int .i64 ((rd_T43 l0_1 x37_2).f2),.int .i64 0]) ?_ 3 _ rfl;(with_reducible repeat (first|refine blk_drewN ?_ _|refine blk_drew ?_|refine blk_alloc ?_ _));refine blk_put (cs:=#[.int .i64 ((rd_T43 l0_1 x37_2).f0),.int .i64 ((rd_T43 l0_1 x37_2).f1),.int .i64 0,.int .i64 0]) ?_ 2 _ rfl;(with_reducible repeat (first|refine blk_drewN ?_ _|refine blk_drew ?_|refine blk_alloc ?_ _));refine blk_put (cs:=#[.int .i64 ((rd_T43 l0_1 x37_2).f0),.int .i64 0,.int .i64 0,.int .i64 0]) ?_ 1 _ rfl;(with_reducible repeat (first|refine blk_drewN ?_ _|refine blk_drew ?_|refine blk_alloc ?_ _));refine blk_put (cs:=#[.int .i64 0,.int .i64 0,.int .i64 0,.int .i64 0]) ?_ 0 _ rfl;(with_reducible repeat (first|refine blk_drewN ?_ _|refine blk_drew ?_|refine blk_alloc ?_ _));exact BK393.out) hb);replace HB:=Aside0.mk (below_step (by repeat (first|(with_reducible first|exact HB.out|apply below_alloc|apply pw_below_drewN|apply below_drew1|refine below_set ?_ GE389.out|refine below_set ?_ GE393.out)|exact HB.out)) hb);(try clear hb);(try clear hb2);(try clear hk);(try clear hi)))
          go_ret
          exact ⟨by first|rfl|(simp [errW_none,errW_some] <;> rfl)|(simp [*,errW_none,errW_some] <;> rfl),by repeat (first|(with_reducible first|exact HB.out|apply below_alloc|apply pw_below_drewN|apply below_drew1|refine below_set ?_ GE389.out|refine below_set ?_ GE393.out)|exact HB.out)⟩
        ·rw [if_neg c17] at H
         exact absurd H (by simp)
       ·rw [if_neg c16] at H
        exact absurd H (by simp)
      ·rw [if_neg c15] at H
       have c15b0 : decide (x37_2 < (l0_1.length : Int)) = false:=decide_eq_false c15
       clear c15
       have H':=Aside0.mk H
       clear H
       have hcz30_0 : wr.cell? ⟨gb389,0,none⟩ = some (.int .i64 a0_0):=(blk_cell BK389.out 0).trans rfl
       have hcz30_1 : wr.cell? ⟨gb389,1,none⟩ = some (.slice A0_1 l0_1.length c0_1):=(blk_cell BK389.out 1).trans rfl
       have hcz30_2 : wr.cell? ⟨gb389,2,none⟩ = some (.slice A0_2 l0_2.length c0_2):=(blk_cell BK389.out 2).trans rfl
       have hcz30_3 : wr.cell? ⟨gb389,3,none⟩ = some (.int .i64 a0_3):=(blk_cell BK389.out 3).trans rfl
       have hcz30_4 : wr.cell? ⟨gb389,4,none⟩ = some (.int .i64 a0_4):=(blk_cell BK389.out 4).trans rfl
       have hcz30_5 : wr.cell? ⟨gb389,5,none⟩ = some (.int .i64 a0_5):=(blk_cell BK389.out 5).trans rfl
       have hcz30_6 : wr.cell? ⟨gb389,6,none⟩ = some (.int .i64 a0_6):=(blk_cell BK389.out 6).trans rfl
       have hcz30_7 : wr.cell? ⟨gb389,7,none⟩ = some (.int .i64 a0_7):=(blk_cell BK389.out 7).trans rfl
       have hcz30_8 : wr.cell? ⟨gb389,8,none⟩ = some (.slice A0_8 l0_8.length c0_8):=(blk_cell BK389.out 8).trans rfl
       have hcz30_9 : wr.cell? ⟨gb389,9,none⟩ = some (.int .i64 a0_9):=(blk_cell BK389.out 9).trans rfl
       have hfz30_0:=blk_frozen BK389.out 0
       have hfz30_1:=blk_frozen BK389.out 1
       have hfz30_2:=blk_frozen BK389.out 2
       have hfz30_3:=blk_frozen BK389.out 3
       have hfz30_4:=blk_frozen BK389.out 4
       have hfz30_5:=blk_frozen BK389.out 5
       have hfz30_6:=blk_frozen BK389.out 6
       have hfz30_7:=blk_frozen BK389.out 7
       have hfz30_8:=blk_frozen BK389.out 8
       have hfz30_9:=blk_frozen BK389.out 9
       go_wp2
       go_loopg [50] k2 (fun kq v50 w' => ∃ (x50_3 : Int),v50 = .int .i64 x50_3 ∧ Aside0 (impl_IsSky.l1 kq l0_2 (l0_2.length : Int) x50_3 a0_0 l0_1 l0_2 a0_3 a0_4 a0_5 a0_6 a0_7 l0_8 a0_9 = some r) ∧ Aside0 (kq ≤ k2) ∧ Aside0 (w'.heap[gb389]? = some (.cells #[.int .i64 a0_0,(.slice A0_1 l0_1.length c0_1),(.slice A0_2 l0_2.length c0_2),.int .i64 a0_3,.int .i64 a0_4,.int .i64 a0_5,.int .i64 a0_6,.int .i64 a0_7,(.slice A0_8 l0_8.length c0_8),.int .i64 a0_9] 28 (0,0))) ∧ Aside0 (Below w.heap.size w w'))
       case atStart => exact ⟨(0),(by first|rfl|(simp;done)|(simp [*];done)),H',⟨Nat.le_refl _⟩,⟨by (with_reducible repeat (first|refine blk_drewN ?_ _|refine blk_drew ?_|refine blk_alloc ?_ _));exact BK389.out⟩,⟨by repeat (first|(with_reducible first|exact HB.out|apply below_alloc|apply pw_below_drewN|apply below_drew1|refine below_set ?_ GE389.out)|exact HB.out)⟩⟩
       case round =>
        clear H'
        try clear c13
        try clear c15
        try clear c15b0
        try clear hcz14_0
        try clear hcz14_1
        try clear hcz14_2
        try clear hcz14_3
        try clear hcz14_4
        try clear hcz14_5
        try clear hcz14_6
        try clear hcz14_7
        try clear hcz14_8
        try clear hcz14_9
        try clear hcz30_0
        try clear hcz30_1
        try clear hcz30_2
        try clear hcz30_3
        try clear hcz30_4
        try clear hcz30_5
        try clear hcz30_6
        try clear hcz30_7
        try clear hcz30_8
        try clear hcz30_9
        try clear hfz14_0
        try clear hfz14_1
        try clear hfz14_2
        try clear hfz14_3
        try clear hfz14_4
        try clear hfz14_5
        try clear hfz14_6
        try clear hfz14_7
        try clear hfz14_8
        try clear hfz14_9
        try clear hfz30_0
        try clear hfz30_1
        try clear hfz30_2
        try clear hfz30_3
        try clear hfz30_4
        try clear hfz30_5
        try clear hfz30_6
        try clear hfz30_7
        try clear hfz30_8
        try clear hfz30_9
        obtain ⟨x50_3,rfl,HA,HK3,BK389,HB⟩:=hrel
        cases gk with
        | zero => exact absurd HA.out (by simp [impl_IsSky.l1])
        | succ k3 =>
         have H:=HA.out
         clear HA
         simp only [impl_IsSky.l1] at H
         by_cases c31 : x50_3 < (l0_2.length : Int)
         ·rw [if_pos c31] at H
          have c31b0 : decide (x50_3 < (l0_2.length : Int)) = true:=decide_eq_true c31
          clear c31
          by_cases c32 : 0 ≤ x50_3
          ·rw [if_pos c32] at H
           have c32b0 : decide (0 ≤ x50_3) = true:=decide_eq_true c32
           clear c32
           by_cases c33 : x50_3 < (l0_2.length : Int)
           ·rw [if_pos c33] at H
            have c33b0 : decide (x50_3 < (l0_2.length : Int)) = true:=decide_eq_true c33
            clear c33
            replace H:=Option.bind_eq_some_iff.mp H
            obtain ⟨t397,A340,H⟩:=H
            replace H : (if t397 = true then ((impl_InRange.f ((rd_T46 l0_2 x50_3).f1) 0 359).bind fun t398 => (if t398 = true then ((impl_InRange.f ((rd_T46 l0_2 x50_3).f2) (-60) 60).bind fun t399 => (if t399 = true then (impl_IsSky.l1 k3 l0_2 (l0_2.length : Int) (wrap64 (x50_3 + 1)) a0_0 l0_1 l0_2 a0_3 a0_4 a0_5 a0_6 a0_7 l0_8 a0_9) else (some false))) else (some false))) else (some false)) = some r:=H
            have A34:=Aside0.mk A340
            clear A340
            by_cases c35 : t397 = true
            ·subst c35
             have H1 : ((impl_InRange.f ((rd_T46 l0_2 x50_3).f1) 0 359).bind fun t398 => (if t398 = true then ((impl_InRange.f ((rd_T46 l0_2 x50_3).f2) (-60) 60).bind fun t399 => (if t399 = true then (impl_IsSky.l1 k3 l0_2 (l0_2.length : Int) (wrap64 (x50_3 + 1)) a0_0 l0_1 l0_2 a0_3 a0_4 a0_5 a0_6 a0_7 l0_8 a0_9) else (some false))) else (some false))) = some r:=by rw [if_pos rfl] at H;exact H
             clear H
             have H:=H1
             clear H1
             replace H:=Option.bind_eq_some_iff.mp H
             obtain ⟨t398,A360,H⟩:=H
             replace H : (if t398 = true then ((impl_InRange.f ((rd_T46 l0_2 x50_3).f2) (-60) 60).bind fun t399 => (if t399 = true then (impl_IsSky.l1 k3 l0_2 (l0_2.length : Int) (wrap64 (x50_3 + 1)) a0_0 l0_1 l0_2 a0_3 a0_4 a0_5 a0_6 a0_7 l0_8 a0_9) else (some false))) else (some false)) = some r:=H
             have A36:=Aside0.mk A360
             clear A360
             by_cases c37 : t398 = true
             ·subst c37
              have H1 : ((impl_InRange.f ((rd_T46 l0_2 x50_3).f2) (-60) 60).bind fun t399 => (if t399 = true then (impl_IsSky.l1 k3 l0_2 (l0_2.length : Int) (wrap64 (x50_3 + 1)) a0_0 l0_1 l0_2 a0_3 a0_4 a0_5 a0_6 a0_7 l0_8 a0_9) else (some false))) = some r:=by rw [if_pos rfl] at H;exact H
              clear H
              have H:=H1
              clear H1
              replace H:=Option.bind_eq_some_iff.mp H
              obtain ⟨t399,A380,H⟩:=H
              replace H : (if t399 = true then (impl_IsSky.l1 k3 l0_2 (l0_2.length : Int) (wrap64 (x50_3 + 1)) a0_0 l0_1 l0_2 a0_3 a0_4 a0_5 a0_6 a0_7 l0_8 a0_9) else (some false)) = some r:=H
              have A38:=Aside0.mk A380
              clear A380
              by_cases c39 : t399 = true
              ·subst c39
               have H1 : (impl_IsSky.l1 k3 l0_2 (l0_2.length : Int) (wrap64 (x50_3 + 1)) a0_0 l0_1 l0_2 a0_3 a0_4 a0_5 a0_6 a0_7 l0_8 a0_9) = some r:=by rw [if_pos rfl] at H;exact H
               clear H
               have H:=H1
               clear H1
               have H':=Aside0.mk H
               clear H
               have p395 : 0 ≤ (x50_3 : Int):=of_decide_eq_true (by first|(with_reducible assumption)|assumption)
               have q395 : x50_3 < (l0_2.length : Int):=of_decide_eq_true (by first|(with_reducible assumption)|assumption)
               obtain ⟨ad395,e395,hx395_0,hx395_1,hx395_2⟩:=at_T46 HR0_2.out x50_3 p395 q395
               cases e395
               replace hx395_0:=(HB.out.cell (World.block_lt_of_cell? w _ hx395_0)).trans hx395_0
               replace hx395_1:=(HB.out.cell (World.block_lt_of_cell? w _ hx395_1)).trans hx395_1
               replace hx395_2:=(HB.out.cell (World.block_lt_of_cell? w _ hx395_2)).trans hx395_2
               replace p395:=eq_true p395
               replace q395:=eq_true q395
               go_wp2_with (first|((with_reducible refine gate_dst (N:=6) rfl ?_);(try (refine gate_guard (by rfl) ?_;dsimp only));refine box_event ?hg (N:=6) ?hd (cs:=#[.int .i64 0,.int .i64 0,.int .i64 0]) (t:=46) ?hr ?_;(case hd => rfl);(case hg => rfl);(case hr => first|(go_simp;done)|(go_simp;rfl));intro gb396 hg w40 hbox hb;have BK396:=Aside0.mk (hbox);have GE396:=Aside0.mk ((by rw [hg];exact (below_size (by repeat (first|(with_reducible first|exact HB.out|apply below_alloc|apply pw_below_drewN|apply below_drew1|refine below_set ?_ GE389.out)|exact HB.out))) : w.heap.size ≤ gb396));replace HB:=Aside0.mk (below_step (by repeat (first|(with_reducible first|exact HB.out|apply below_alloc|apply pw_below_drewN|apply below_drew1|refine below_set ?_ GE389.out)|exact HB.out)) hb);have NB389_396:=Aside0.mk ((by rw [hg];exact Nat.ne_of_lt (blk_lt (g:=gb389) (o:=.cells #[.int .i64 a0_0,.slice A0_1 l0_1.length c0_1,.slice (some ad395) l0_2.length c0_2,.int .i64 a0_3,.int .i64 a0_4,.int .i64 a0_5,.int .i64 a0_6,.int .i64 a0_7,.slice A0_8 l0_8.length c0_8,.int .i64 a0_9] 28 (0,0)) (by (with_reducible repeat (first|refine blk_drewN ?_ _|refine blk_drew ?_|refine blk_alloc ?_ _));exact BK389.out)) : gb389 ≠ gb396));replace BK389:=Aside0.mk (blk_below (g:=gb389) (o:=.cells #[.int .i64 a0_0,.slice A0_1 l0_1.length c0_1,.slice (some ad395) l0_2.length c0_2,.int .i64 a0_3,.int .i64 a0_4,.int .i64 a0_5,.int .i64 a0_6,.int .i64 a0_7,.slice A0_8 l0_8.length c0_8,.int .i64 a0_9] 28 (0,0)) (by (with_reducible repeat (first|refine blk_drewN ?_ _|refine blk_drew ?_|refine blk_alloc ?_ _));exact BK389.out) hb);have NB396_389:=Aside0.mk (Ne.symm NB389_396.out);clear hb hbox hg;have hnb41:=NB396_389.out;have hnc41:=NB389_396.out;have hcz42_0 : w40.cell? ⟨gb396,0,none⟩ = some (.int .i64 0):=(blk_cell BK396.out 0).trans rfl;have hcz42_1 : w40.cell? ⟨gb396,1,none⟩ = some (.int .i64 0):=(blk_cell BK396.out 1).trans rfl;have hcz42_2 : w40.cell? ⟨gb396,2,none⟩ = some (.int .i64 0):=(blk_cell BK396.out 2).trans rfl;have hfz42_0:=blk_frozen BK396.out 0;have hfz42_1:=blk_frozen BK396.out 1;have hfz42_2:=blk_frozen BK396.out 2;have hcz43_0 : w40.cell? ⟨gb389,0,none⟩ = some (.int .i64 a0_0):=(blk_cell BK389.out 0).trans rfl;have hcz43_1 : w40.cell? ⟨gb389,1,none⟩ = some (.slice A0_1 l0_1.length c0_1):=(blk_cell BK389.out 1).trans rfl;have hcz43_2 : w40.cell? ⟨gb389,2,none⟩ = some (.slice (some ad395) l0_2.length c0_2):=(blk_cell BK389.out 2).trans rfl;have hcz43_3 : w40.cell? ⟨gb389,3,none⟩ = some (.int .i64 a0_3):=(blk_cell BK389.out 3).trans rfl;have hcz43_4 : w40.cell? ⟨gb389,4,none⟩ = some (.int .i64 a0_4):=(blk_cell BK389.out 4).trans rfl;have hcz43_5 : w40.cell? ⟨gb389,5,none⟩ = some (.int .i64 a0_5):=(blk_cell BK389.out 5).trans rfl;have hcz43_6 : w40.cell? ⟨gb389,6,none⟩ = some (.int .i64 a0_6):=(blk_cell BK389.out 6).trans rfl;have hcz43_7 : w40.cell? ⟨gb389,7,none⟩ = some (.int .i64 a0_7):=(blk_cell BK389.out 7).trans rfl;have hcz43_8 : w40.cell? ⟨gb389,8,none⟩ = some (.slice A0_8 l0_8.length c0_8):=(blk_cell BK389.out 8).trans rfl;have hcz43_9 : w40.cell? ⟨gb389,9,none⟩ = some (.int .i64 a0_9):=(blk_cell BK389.out 9).trans rfl;have hfz43_0:=blk_frozen BK389.out 0;have hfz43_1:=blk_frozen BK389.out 1;have hfz43_2:=blk_frozen BK389.out 2;have hfz43_3:=blk_frozen BK389.out 3;have hfz43_4:=blk_frozen BK389.out 4;have hfz43_5:=blk_frozen BK389.out 5;have hfz43_6:=blk_frozen BK389.out 6;have hfz43_7:=blk_frozen BK389.out 7;have hfz43_8:=blk_frozen BK389.out 8;have hfz43_9:=blk_frozen BK389.out 9)|((with_reducible refine gate_callee (f:=16) rfl ?_);refine goesL_ (some 59) rfl rfl Try.func16 (by kernel_rfl) rfl #[.int .i64 ((rd_T46 l0_2 x50_3).f0),.int .i64 0,.int .i64 (wrap64 (a0_0 - 1))] rfl (by (try simp only [List.map_toArray,List.map_cons,List.map_nil]);first|done|rfl|(simp only [List.length_drop,List.length_take];rfl)) ?_;(with_reducible refine (impl_InRange.calls ((rd_T46 l0_2 x50_3).f0) 0 (wrap64 (a0_0 - 1)) true _ A34.out).mono ?_);rintro e w' ⟨rfl,⟨nd,rfl⟩⟩;refine ⟨_,rfl,?_⟩)|(go_at_call 16;(with_reducible refine (impl_InRange.calls ((rd_T46 l0_2 x50_3).f1) 0 359 true _ A36.out).mono ?_);rintro e w' ⟨rfl,⟨nd,rfl⟩⟩)|(go_at_call 16;(with_reducible refine (impl_InRange.calls ((rd_T46 l0_2 x50_3).f2) (-60) 60 true _ A38.out).mono ?_);rintro e w' ⟨rfl,⟨nd,rfl⟩⟩))
               go_roundg k3
               case measure => have:=HJ1.out;have:=HK2.out;have:=HK3.out;omega
               case rel => exact ⟨(wrap64 (x50_3 + 1)),(by first|rfl|(simp;done)|(simp [*];done)),H',⟨by have:=HJ1.out;have:=HK2.out;have:=HK3.out;omega⟩,⟨by (with_reducible repeat (first|refine blk_drewN ?_ _|refine blk_drew ?_|refine blk_alloc ?_ _));refine blk_far ?_ NB389_396.out _;(with_reducible repeat (first|refine blk_drewN ?_ _|refine blk_drew ?_|refine blk_alloc ?_ _));refine blk_far ?_ NB389_396.out _;(with_reducible repeat (first|refine blk_drewN ?_ _|refine blk_drew ?_|refine blk_alloc ?_ _));refine blk_far ?_ NB389_396.out _;(with_reducible repeat (first|refine blk_drewN ?_ _|refine blk_drew ?_|refine blk_alloc ?_ _));exact BK389.out⟩,⟨by repeat (first|(with_reducible first|exact HB.out|apply below_alloc|apply pw_below_drewN|apply below_drew1|refine below_set ?_ GE389.out|refine below_set ?_ GE396.out)|exact HB.out)⟩⟩
              ·replace c39:=Bool.eq_false_iff.mpr c39
               subst c39
               have H1 : (some false) = some r:=by rw [if_neg (show ¬ (false = true) by decide)] at H;exact H
               clear H
               have H:=H1
               clear H1
               obtain rfl:=Option.some.inj H
               have p395 : 0 ≤ (x50_3 : Int):=of_decide_eq_true (by first|(with_reducible assumption)|assumption)
               have q395 : x50_3 < (l0_2.length : Int):=of_decide_eq_true (by first|(with_reducible assumption)|assumption)
               obtain ⟨ad395,e395,hx395_0,hx395_1,hx395_2⟩:=at_T46 HR0_2.out x50_3 p395 q395
               cases e395
               replace hx395_0:=(HB.out.cell (World.block_lt_of_cell? w _ hx395_0)).trans hx395_0
               replace hx395_1:=(HB.out.cell (World.block_lt_of_cell? w _ hx395_1)).trans hx395_1
               replace hx395_2:=(HB.out.cell (World.block_lt_of_cell? w _ hx395_2)).trans hx395_2
               replace p395:=eq_true p395
               replace q395:=eq_true q395
               go_wp2_with (first|((with_reducible refine gate_dst (N:=6) rfl ?_);(try (refine gate_guard (by rfl) ?_;dsimp only));refine box_event ?hg (N:=6) ?hd (cs:=#[.int .i64 0,.int .i64 0,.int .i64 0]) (t:=46) ?hr ?_;(case hd => rfl);(case hg => rfl);(case hr => first|(go_simp;done)|(go_simp;rfl));intro gb396 hg w44 hbox hb;have BK396:=Aside0.mk (hbox);have GE396:=Aside0.mk ((by rw [hg];exact (below_size (by repeat (first|(with_reducible first|exact HB.out|apply below_alloc|apply pw_below_drewN|apply below_drew1|refine below_set ?_ GE389.out)|exact HB.out))) : w.heap.size ≤ gb396));replace HB:=Aside0.mk (below_step (by repeat (first|(with_reducible first|exact HB.out|apply below_alloc|apply pw_below_drewN|apply below_drew1|refine below_set ?_ GE389.out)|exact HB.out)) hb);have NB389_396:=Aside0.mk ((by rw [hg];exact Nat.ne_of_lt (blk_lt (g:=gb389) (o:=.cells #[.int .i64 a0_0,.slice A0_1 l0_1.length c0_1,.slice (some ad395) l0_2.length c0_2,.int .i64 a0_3,.int .i64 a0_4,.int .i64 a0_5,.int .i64 a0_6,.int .i64 a0_7,.slice A0_8 l0_8.length c0_8,.int .i64 a0_9] 28 (0,0)) (by (with_reducible repeat (first|refine blk_drewN ?_ _|refine blk_drew ?_|refine blk_alloc ?_ _));exact BK389.out)) : gb389 ≠ gb396));replace BK389:=Aside0.mk (blk_below (g:=gb389) (o:=.cells #[.int .i64 a0_0,.slice A0_1 l0_1.length c0_1,.slice (some ad395) l0_2.length c0_2,.int .i64 a0_3,.int .i64 a0_4,.int .i64 a0_5,.int .i64 a0_6,.int .i64 a0_7,.slice A0_8 l0_8.length c0_8,.int .i64 a0_9] 28 (0,0)) (by (with_reducible repeat (first|refine blk_drewN ?_ _|refine blk_drew ?_|refine blk_alloc ?_ _));exact BK389.out) hb);have NB396_389:=Aside0.mk (Ne.symm NB389_396.out);clear hb hbox hg;have hnb45:=NB396_389.out;have hnc45:=NB389_396.out;have hcz46_0 : w44.cell? ⟨gb396,0,none⟩ = some (.int .i64 0):=(blk_cell BK396.out 0).trans rfl;have hcz46_1 : w44.cell? ⟨gb396,1,none⟩ = some (.int .i64 0):=(blk_cell BK396.out 1).trans rfl;have hcz46_2 : w44.cell? ⟨gb396,2,none⟩ = some (.int .i64 0):=(blk_cell BK396.out 2).trans rfl;have hfz46_0:=blk_frozen BK396.out 0;have hfz46_1:=blk_frozen BK396.out 1;have hfz46_2:=blk_frozen BK396.out 2;have hcz47_0 : w44.cell? ⟨gb389,0,none⟩ = some (.int .i64 a0_0):=(blk_cell BK389.out 0).trans rfl;have hcz47_1 : w44.cell? ⟨gb389,1,none⟩ = some (.slice A0_1 l0_1.length c0_1):=(blk_cell BK389.out 1).trans rfl;have hcz47_2 : w44.cell? ⟨gb389,2,none⟩ = some (.slice (some ad395) l0_2.length c0_2):=(blk_cell BK389.out 2).trans rfl;have hcz47_3 : w44.cell? ⟨gb389,3,none⟩ = some (.int .i64 a0_3):=(blk_cell BK389.out 3).trans rfl;have hcz47_4 : w44.cell? ⟨gb389,4,none⟩ = some (.int .i64 a0_4):=(blk_cell BK389.out 4).trans rfl;have hcz47_5 : w44.cell? ⟨gb389,5,none⟩ = some (.int .i64 a0_5):=(blk_cell BK389.out 5).trans rfl;have hcz47_6 : w44.cell? ⟨gb389,6,none⟩ = some (.int .i64 a0_6):=(blk_cell BK389.out 6).trans rfl;have hcz47_7 : w44.cell? ⟨gb389,7,none⟩ = some (.int .i64 a0_7):=(blk_cell BK389.out 7).trans rfl;have hcz47_8 : w44.cell? ⟨gb389,8,none⟩ = some (.slice A0_8 l0_8.length c0_8):=(blk_cell BK389.out 8).trans rfl;have hcz47_9 : w44.cell? ⟨gb389,9,none⟩ = some (.int .i64 a0_9):=(blk_cell BK389.out 9).trans rfl;have hfz47_0:=blk_frozen BK389.out 0;have hfz47_1:=blk_frozen BK389.out 1;have hfz47_2:=blk_frozen BK389.out 2;have hfz47_3:=blk_frozen BK389.out 3;have hfz47_4:=blk_frozen BK389.out 4;have hfz47_5:=blk_frozen BK389.out 5;have hfz47_6:=blk_frozen BK389.out 6;have hfz47_7:=blk_frozen BK389.out 7;have hfz47_8:=blk_frozen BK389.out 8;have hfz47_9:=blk_frozen BK389.out 9)|((with_reducible refine gate_callee (f:=16) rfl ?_);refine goesL_ (some 59) rfl rfl Try.func16 (by kernel_rfl) rfl #[.int .i64 ((rd_T46 l0_2 x50_3).f0),.int .i64 0,.int .i64 (wrap64 (a0_0 - 1))] rfl (by (try simp only [List.map_toArray,List.map_cons,List.map_nil]);first|done|rfl|(simp only [List.length_drop,List.length_take];rfl)) ?_;(with_reducible refine (impl_InRange.calls ((rd_T46 l0_2 x50_3).f0) 0 (wrap64 (a0_0 - 1)) true _ A34.out).mono ?_);rintro e w' ⟨rfl,⟨nd,rfl⟩⟩;refine ⟨_,rfl,?_⟩)|(go_at_call 16;(with_reducible refine (impl_InRange.calls ((rd_T46 l0_2 x50_3).f1) 0 359 true _ A36.out).mono ?_);rintro e w' ⟨rfl,⟨nd,rfl⟩⟩)|(go_at_call 16;(with_reducible refine (impl_InRange.calls ((rd_T46 l0_2 x50_3).f2) (-60) 60 false _ A38.out).mono ?_);rintro e w' ⟨rfl,⟨nd,rfl⟩⟩))
               go_ret
               exact ⟨by first|rfl|(simp [errW_none,errW_some] <;> rfl)|(simp [*,errW_none,errW_some] <;> rfl),by repeat (first|(with_reducible first|exact HB.out|apply below_alloc|apply pw_below_drewN|apply below_drew1|refine below_set ?_ GE389.out|refine below_set ?_ GE396.out)|exact HB.out)⟩
             ·replace c37:=Bool.eq_false_iff.mpr c37
              subst c37
              have H1 : (some false) = some r:=by rw [if_neg (show ¬ (false = true) by decide)] at H;exact H
              clear H
              have H:=H1
              clear H1
              obtain rfl:=Option.some.inj H
              have p395 : 0 ≤ (x50_3 : Int):=of_decide_eq_true (by first|(with_reducible assumption)|assumption)
              have q395 : x50_3 < (l0_2.length : Int):=of_decide_eq_true (by first|(with_reducible assumption)|assumption)
              obtain ⟨ad395,e395,hx395_0,hx395_1,hx395_2⟩:=at_T46 HR0_2.out x50_3 p395 q395
              cases e395
              replace hx395_0:=(HB.out.cell (World.block_lt_of_cell? w _ hx395_0)).trans hx395_0
              replace hx395_1:=(HB.out.cell (World.block_lt_of_cell? w _ hx395_1)).trans hx395_1
              replace hx395_2:=(HB.out.cell (World.block_lt_of_cell? w _ hx395_2)).trans hx395_2
              replace p395:=eq_true p395
              replace q395:=eq_true q395
              go_wp2_with (first|((with_reducible refine gate_dst (N:=6) rfl ?_);(try (refine gate_guard (by rfl) ?_;dsimp only));refine box_event ?hg (N:=6) ?hd (cs:=#[.int .i64 0,.int .i64 0,.int .i64 0]) (t:=46) ?hr ?_;(case hd => rfl);(case hg => rfl);(case hr => first|(go_simp;done)|(go_simp;rfl));intro gb396 hg w48 hbox hb;have BK396:=Aside0.mk (hbox);have GE396:=Aside0.mk ((by rw [hg];exact (below_size (by repeat (first|(with_reducible first|exact HB.out|apply below_alloc|apply pw_below_drewN|apply below_drew1|refine below_set ?_ GE389.out)|exact HB.out))) : w.heap.size ≤ gb396));replace HB:=Aside0.mk (below_step (by repeat (first|(with_reducible first|exact HB.out|apply below_alloc|apply pw_below_drewN|apply below_drew1|refine below_set ?_ GE389.out)|exact HB.out)) hb);have NB389_396:=Aside0.mk ((by rw [hg];exact Nat.ne_of_lt (blk_lt (g:=gb389) (o:=.cells #[.int .i64 a0_0,.slice A0_1 l0_1.length c0_1,.slice (some ad395) l0_2.length c0_2,.int .i64 a0_3,.int .i64 a0_4,.int .i64 a0_5,.int .i64 a0_6,.int .i64 a0_7,.slice A0_8 l0_8.length c0_8,.int .i64 a0_9] 28 (0,0)) (by (with_reducible repeat (first|refine blk_drewN ?_ _|refine blk_drew ?_|refine blk_alloc ?_ _));exact BK389.out)) : gb389 ≠ gb396));replace BK389:=Aside0.mk (blk_below (g:=gb389) (o:=.cells #[.int .i64 a0_0,.slice A0_1 l0_1.length c0_1,.slice (some ad395) l0_2.length c0_2,.int .i64 a0_3,.int .i64 a0_4,.int .i64 a0_5,.int .i64 a0_6,.int .i64 a0_7,.slice A0_8 l0_8.length c0_8,.int .i64 a0_9] 28 (0,0)) (by (with_reducible repeat (first|refine blk_drewN ?_ _|refine blk_drew ?_|refine blk_alloc ?_ _));exact BK389.out) hb);have NB396_389:=Aside0.mk (Ne.symm NB389_396.out);clear hb hbox hg;have hnb49:=NB396_389.out;have hnc49:=NB389_396.out;have hcz50_0 : w48.cell? ⟨gb396,0,none⟩ = some (.int .i64 0):=(blk_cell BK396.out 0).trans rfl;have hcz50_1 : w48.cell? ⟨gb396,1,none⟩ = some (.int .i64 0):=(blk_cell BK396.out 1).trans rfl;have hcz50_2 : w48.cell? ⟨gb396,2,none⟩ = some (.int .i64 0):=(blk_cell BK396.out 2).trans rfl;have hfz50_0:=blk_frozen BK396.out 0;have hfz50_1:=blk_frozen BK396.out 1;have hfz50_2:=blk_frozen BK396.out 2;have hcz51_0 : w48.cell? ⟨gb389,0,none⟩ = some (.int .i64 a0_0):=(blk_cell BK389.out 0).trans rfl;have hcz51_1 : w48.cell? ⟨gb389,1,none⟩ = some (.slice A0_1 l0_1.length c0_1):=(blk_cell BK389.out 1).trans rfl;have hcz51_2 : w48.cell? ⟨gb389,2,none⟩ = some (.slice (some ad395) l0_2.length c0_2):=(blk_cell BK389.out 2).trans rfl;have hcz51_3 : w48.cell? ⟨gb389,3,none⟩ = some (.int .i64 a0_3):=(blk_cell BK389.out 3).trans rfl;have hcz51_4 : w48.cell? ⟨gb389,4,none⟩ = some (.int .i64 a0_4):=(blk_cell BK389.out 4).trans rfl;have hcz51_5 : w48.cell? ⟨gb389,5,none⟩ = some (.int .i64 a0_5):=(blk_cell BK389.out 5).trans rfl;have hcz51_6 : w48.cell? ⟨gb389,6,none⟩ = some (.int .i64 a0_6):=(blk_cell BK389.out 6).trans rfl;have hcz51_7 : w48.cell? ⟨gb389,7,none⟩ = some (.int .i64 a0_7):=(blk_cell BK389.out 7).trans rfl;have hcz51_8 : w48.cell? ⟨gb389,8,none⟩ = some (.slice A0_8 l0_8.length c0_8):=(blk_cell BK389.out 8).trans rfl;have hcz51_9 : w48.cell? ⟨gb389,9,none⟩ = some (.int .i64 a0_9):=(blk_cell BK389.out 9).trans rfl;have hfz51_0:=blk_frozen BK389.out 0;have hfz51_1:=blk_frozen BK389.out 1;have hfz51_2:=blk_frozen BK389.out 2;have hfz51_3:=blk_frozen BK389.out 3;have hfz51_4:=blk_frozen BK389.out 4;have hfz51_5:=blk_frozen BK389.out 5;have hfz51_6:=blk_frozen BK389.out 6;have hfz51_7:=blk_frozen BK389.out 7;have hfz51_8:=blk_frozen BK389.out 8;have hfz51_9:=blk_frozen BK389.out 9)|((with_reducible refine gate_callee (f:=16) rfl ?_);refine goesL_ (some 59) rfl rfl Try.func16 (by kernel_rfl) rfl #[.int .i64 ((rd_T46 l0_2 x50_3).f0),.int .i64 0,.int .i64 (wrap64 (a0_0 - 1))] rfl (by (try simp only [List.map_toArray,List.map_cons,List.map_nil]);first|done|rfl|(simp only [List.length_drop,List.length_take];rfl)) ?_;(with_reducible refine (impl_InRange.calls ((rd_T46 l0_2 x50_3).f0) 0 (wrap64 (a0_0 - 1)) true _ A34.out).mono ?_);rintro e w' ⟨rfl,⟨nd,rfl⟩⟩;refine ⟨_,rfl,?_⟩)|(go_at_call 16;(with_reducible refine (impl_InRange.calls ((rd_T46 l0_2 x50_3).f1) 0 359 false _ A36.out).mono ?_);rintro e w' ⟨rfl,⟨nd,rfl⟩⟩))
              go_ret
              exact ⟨by first|rfl|(simp [errW_none,errW_some] <;> rfl)|(simp [*,errW_none,errW_some] <;> rfl),by repeat (first|(with_reducible first|exact HB.out|apply below_alloc|apply pw_below_drewN|apply below_drew1|refine below_set ?_ GE389.out|refine below_set ?_ GE396.out)|exact HB.out)⟩
            ·replace c35:=Bool.eq_false_iff.mpr c35
             subst c35
             have H1 : (some false) = some r:=by rw [if_neg (show ¬ (false = true) by decide)] at H;exact H
             clear H
             have H:=H1
             clear H1
             obtain rfl:=Option.some.inj H
             have p395 : 0 ≤ (x50_3 : Int):=of_decide_eq_true (by first|(with_reducible assumption)|assumption)
             have q395 : x50_3 < (l0_2.length : Int):=of_decide_eq_true (by first|(with_reducible assumption)|assumption)
             obtain ⟨ad395,e395,hx395_0,hx395_1,hx395_2⟩:=at_T46 HR0_2.out x50_3 p395 q395
             cases e395
             replace hx395_0:=(HB.out.cell (World.block_lt_of_cell? w _ hx395_0)).trans hx395_0
             replace hx395_1:=(HB.out.cell (World.block_lt_of_cell? w _ hx395_1)).trans hx395_1
             replace hx395_2:=(HB.out.cell (World.block_lt_of_cell? w _ hx395_2)).trans hx395_2
             replace p395:=eq_true p395
             replace q395:=eq_true q395
             go_wp2_with (first|((with_reducible refine gate_dst (N:=6) rfl ?_);(try (refine gate_guard (by rfl) ?_;dsimp only));refine box_event ?hg (N:=6) ?hd (cs:=#[.int .i64 0,.int .i64 0,.int .i64 0]) (t:=46) ?hr ?_;(case hd => rfl);(case hg => rfl);(case hr => first|(go_simp;done)|(go_simp;rfl));intro gb396 hg w52 hbox hb;have BK396:=Aside0.mk (hbox);have GE396:=Aside0.mk ((by rw [hg];exact (below_size (by repeat (first|(with_reducible first|exact HB.out|apply below_alloc|apply pw_below_drewN|apply below_drew1|refine below_set ?_ GE389.out)|exact HB.out))) : w.heap.size ≤ gb396));replace HB:=Aside0.mk (below_step (by repeat (first|(with_reducible first|exact HB.out|apply below_alloc|apply pw_below_drewN|apply below_drew1|refine below_set ?_ GE389.out)|exact HB.out)) hb);have NB389_396:=Aside0.mk ((by rw [hg];exact Nat.ne_of_lt (blk_lt (g:=gb389) (o:=.cells #[.int .i64 a0_0,.slice A0_1 l0_1.length c0_1,.slice (some ad395) l0_2.length c0_2,.int .i64 a0_3,.int .i64 a0_4,.int .i64 a0_5,.int .i64 a0_6,.int .i64 a0_7,.slice A0_8 l0_8.length c0_8,.int .i64 a0_9] 28 (0,0)) (by (with_reducible repeat (first|refine blk_drewN ?_ _|refine blk_drew ?_|refine blk_alloc ?_ _));exact BK389.out)) : gb389 ≠ gb396));replace BK389:=Aside0.mk (blk_below (g:=gb389) (o:=.cells #[.int .i64 a0_0,.slice A0_1 l0_1.length c0_1,.slice (some ad395) l0_2.length c0_2,.int .i64 a0_3,.int .i64 a0_4,.int .i64 a0_5,.int .i64 a0_6,.int .i64 a0_7,.slice A0_8 l0_8.length c0_8,.int .i64 a0_9] 28 (0,0)) (by (with_reducible repeat (first|refine blk_drewN ?_ _|refine blk_drew ?_|refine blk_alloc ?_ _));exact BK389.out) hb);have NB396_389:=Aside0.mk (Ne.symm NB389_396.out);clear hb hbox hg;have hnb53:=NB396_389.out;have hnc53:=NB389_396.out;have hcz54_0 : w52.cell? ⟨gb396,0,none⟩ = some (.int .i64 0):=(blk_cell BK396.out 0).trans rfl;have hcz54_1 : w52.cell? ⟨gb396,1,none⟩ = some (.int .i64 0):=(blk_cell BK396.out 1).trans rfl;have hcz54_2 : w52.cell? ⟨gb396,2,none⟩ = some (.int .i64 0):=(blk_cell BK396.out 2).trans rfl;have hfz54_0:=blk_frozen BK396.out 0;have hfz54_1:=blk_frozen BK396.out 1;have hfz54_2:=blk_frozen BK396.out 2;have hcz55_0 : w52.cell? ⟨gb389,0,none⟩ = some (.int .i64 a0_0):=(blk_cell BK389.out 0).trans rfl;have hcz55_1 : w52.cell? ⟨gb389,1,none⟩ = some (.slice A0_1 l0_1.length c0_1):=(blk_cell BK389.out 1).trans rfl;have hcz55_2 : w52.cell? ⟨gb389,2,none⟩ = some (.slice (some ad395) l0_2.length c0_2):=(blk_cell BK389.out 2).trans rfl;have hcz55_3 : w52.cell? ⟨gb389,3,none⟩ = some (.int .i64 a0_3):=(blk_cell BK389.out 3).trans rfl;have hcz55_4 : w52.cell? ⟨gb389,4,none⟩ = some (.int .i64 a0_4):=(blk_cell BK389.out 4).trans rfl;have hcz55_5 : w52.cell? ⟨gb389,5,none⟩ = some (.int .i64 a0_5):=(blk_cell BK389.out 5).trans rfl;have hcz55_6 : w52.cell? ⟨gb389,6,none⟩ = some (.int .i64 a0_6):=(blk_cell BK389.out 6).trans rfl;have hcz55_7 : w52.cell? ⟨gb389,7,none⟩ = some (.int .i64 a0_7):=(blk_cell BK389.out 7).trans rfl;have hcz55_8 : w52.cell? ⟨gb389,8,none⟩ = some (.slice A0_8 l0_8.length c0_8):=(blk_cell BK389.out 8).trans rfl;have hcz55_9 : w52.cell? ⟨gb389,9,none⟩ = some (.int .i64 a0_9):=(blk_cell BK389.out 9).trans rfl;have hfz55_0:=blk_frozen BK389.out 0;have hfz55_1:=blk_frozen BK389.out 1;have hfz55_2:=blk_frozen BK389.out 2;have hfz55_3:=blk_frozen BK389.out 3;have hfz55_4:=blk_frozen BK389.out 4;have hfz55_5:=blk_frozen BK389.out 5;have hfz55_6:=blk_frozen BK389.out 6;have hfz55_7:=blk_frozen BK389.out 7;have hfz55_8:=blk_frozen BK389.out 8;have hfz55_9:=blk_frozen BK389.out 9)|((with_reducible refine gate_callee (f:=16) rfl ?_);refine goesL_ (some 59) rfl rfl Try.func16 (by kernel_rfl) rfl #[.int .i64 ((rd_T46 l0_2 x50_3).f0),.int .i64 0,.int .i64 (wrap64 (a0_0 - 1))] rfl (by (try simp only [List.map_toArray,List.map_cons,List.map_nil]);first|done|rfl|(simp only [List.length_drop,List.length_take];rfl)) ?_;(with_reducible refine (impl_InRange.calls ((rd_T46 l0_2 x50_3).f0) 0 (wrap64 (a0_0 - 1)) false _ A34.out).mono ?_);rintro e w' ⟨rfl,⟨nd,rfl⟩⟩;refine ⟨_,rfl,?_⟩))
             go_ret
             exact ⟨by first|rfl|(simp [errW_none,errW_some] <;> rfl)|(simp [*,errW_none,errW_some] <;> rfl),by repeat (first|(with_reducible first|exact HB.out|apply below_alloc|apply pw_below_drewN|apply below_drew1|refine below_set ?_ GE389.out|refine below_set ?_ GE396.out)|exact HB.out)⟩
           ·rw [if_neg c33] at H
            exact absurd H (by simp)
          ·rw [if_neg c32] at H
           exact absurd H (by simp)
         ·rw [if_neg c31] at H
          have c31b0 : decide (x50_3 < (l0_2.length : Int)) = false:=decide_eq_false c31
          clear c31
          have H':=Aside0.mk H
          clear H
          have hcz56_0 : wr.cell? ⟨gb389,0,none⟩ = some (.int .i64 a0_0):=(blk_cell BK389.out 0).trans rfl
          have hcz56_1 : wr.cell? ⟨gb389,1,none⟩ = some (.slice A0_1 l0_1.length c0_1):=(blk_cell BK389.out 1).trans rfl
          have hcz56_2 : wr.cell? ⟨gb389,2,none⟩ = some (.slice A0_2 l0_2.length c0_2):=(blk_cell BK389.out 2).trans rfl
          have hcz56_3 : wr.cell? ⟨gb389,3,none⟩ = some (.int .i64 a0_3):=(blk_cell BK389.out 3).trans rfl
          have hcz56_4 : wr.cell? ⟨gb389,4,none⟩ = some (.int .i64 a0_4):=(blk_cell BK389.out 4).trans rfl
          have hcz56_5 : wr.cell? ⟨gb389,5,none⟩ = some (.int .i64 a0_5):=(blk_cell BK389.out 5).trans rfl
          have hcz56_6 : wr.cell? ⟨gb389,6,none⟩ = some (.int .i64 a0_6):=(blk_cell BK389.out 6).trans rfl
          have hcz56_7 : wr.cell? ⟨gb389,7,none⟩ = some (.int .i64 a0_7):=(blk_cell BK389.out 7).trans rfl
          have hcz56_8 : wr.cell? ⟨gb389,8,none⟩ = some (.slice A0_8 l0_8.length c0_8):=(blk_cell BK389.out 8).trans rfl
          have hcz56_9 : wr.cell? ⟨gb389,9,none⟩ = some (.int .i64 a0_9):=(blk_cell BK389.out 9).trans rfl
          have hfz56_0:=blk_frozen BK389.out 0
          have hfz56_1:=blk_frozen BK389.out 1
          have hfz56_2:=blk_frozen BK389.out 2
          have hfz56_3:=blk_frozen BK389.out 3
          have hfz56_4:=blk_frozen BK389.out 4
          have hfz56_5:=blk_frozen BK389.out 5
          have hfz56_6:=blk_frozen BK389.out 6
          have hfz56_7:=blk_frozen BK389.out 7
          have hfz56_8:=blk_frozen BK389.out 8
          have hfz56_9:=blk_frozen BK389.out 9
          go_wp2
          go_loopg [77] k3 (fun kq v77 w' => ∃ (x77_4 : Int),v77 = .int .i64 x77_4 ∧ Aside0 (impl_IsSky.l2 kq l0_8 (l0_8.length : Int) x77_4 a0_0 l0_1 l0_2 a0_3 a0_4 a0_5 a0_6 a0_7 l0_8 a0_9 = some r) ∧ Aside0 (kq ≤ k3) ∧ Aside0 (w'.heap[gb389]? = some (.cells #[.int .i64 a0_0,(.slice A0_1 l0_1.length c0_1),(.slice A0_2 l0_2.length c0_2),.int .i64 a0_3,.int .i64 a0_4,.int .i64 a0_5,.int .i64 a0_6,.int .i64 a0_7,(.slice A0_8 l0_8.length c0_8),.int .i64 a0_9] 28 (0,0))) ∧ Aside0 (Below w.heap.size w w'))
          case atStart => exact ⟨(0),(by first|rfl|(simp;done)|(simp [*];done)),H',⟨Nat.le_refl _⟩,⟨by (with_reducible repeat (first|refine blk_drewN ?_ _|refine blk_drew ?_|refine blk_alloc ?_ _));exact BK389.out⟩,⟨by repeat (first|(with_reducible first|exact HB.out|apply below_alloc|apply pw_below_drewN|apply below_drew1|refine below_set ?_ GE389.out)|exact HB.out)⟩⟩
          case round =>
           clear H'
           try clear c13
           try clear c15
           try clear c15b0
           try clear c31
           try clear c31b0
           try clear hcz14_0
           try clear hcz14_1
           try clear hcz14_2
           try clear hcz14_3
           try clear hcz14_4
           try clear hcz14_5
           try clear hcz14_6
           try clear hcz14_7
           try clear hcz14_8
           try clear hcz14_9
           try clear hcz30_0
           try clear hcz30_1
           try clear hcz30_2
           try clear hcz30_3
           try clear hcz30_4
           try clear hcz30_5
           try clear hcz30_6
           try clear hcz30_7
           try clear hcz30_8
           try clear hcz30_9
           try clear hcz56_0
           try clear hcz56_1
           try clear hcz56_2
           try clear hcz56_3
           try clear hcz56_4
           try clear hcz56_5
           try clear hcz56_6
           try clear hcz56_7
           try clear hcz56_8
           try clear hcz56_9
           try clear hfz14_0
           try clear hfz14_1
           try clear hfz14_2
           try clear hfz14_3
           try clear hfz14_4
           try clear hfz14_5
           try clear hfz14_6
           try clear hfz14_7
           try clear hfz14_8
           try clear hfz14_9
           try clear hfz30_0
           try clear hfz30_1
           try clear hfz30_2
           try clear hfz30_3
           try clear hfz30_4
           try clear hfz30_5
           try clear hfz30_6
           try clear hfz30_7
           try clear hfz30_8
           try clear hfz30_9
           try clear hfz56_0
           try clear hfz56_1
           try clear hfz56_2
           try clear hfz56_3
           try clear hfz56_4
           try clear hfz56_5
           try clear hfz56_6
           try clear hfz56_7
           try clear hfz56_8
           try clear hfz56_9
           obtain ⟨x77_4,rfl,HA,HK4,BK389,HB⟩:=hrel
           cases gk with
           | zero => exact absurd HA.out (by simp [impl_IsSky.l2])
           | succ k4 =>
            have H:=HA.out
            clear HA
            simp only [impl_IsSky.l2] at H
            by_cases c57 : x77_4 < (l0_8.length : Int)
            ·rw [if_pos c57] at H
             have c57b0 : decide (x77_4 < (l0_8.length : Int)) = true:=decide_eq_true c57
             clear c57
             by_cases c58 : 0 ≤ x77_4
             ·rw [if_pos c58] at H
              have c58b0 : decide (0 ≤ x77_4) = true:=decide_eq_true c58
              clear c58
              by_cases c59 : x77_4 < (l0_8.length : Int)
              ·rw [if_pos c59] at H
               have c59b0 : decide (x77_4 < (l0_8.length : Int)) = true:=decide_eq_true c59
               clear c59
               replace H:=Option.bind_eq_some_iff.mp H
               obtain ⟨t402,A600,H⟩:=H
               replace H : (if t402 = true then ((impl_isWidth.f ((rd_T50 l0_8 x77_4).f1.f1)).bind fun t403 => (if t403 = true then (impl_IsSky.l2 k4 l0_8 (l0_8.length : Int) (wrap64 (x77_4 + 1)) a0_0 l0_1 l0_2 a0_3 a0_4 a0_5 a0_6 a0_7 l0_8 a0_9) else (some false))) else (some false)) = some r:=H
               have A60:=Aside0.mk A600
               clear A600
               by_cases c61 : t402 = true
               ·subst c61
                have H1 : ((impl_isWidth.f ((rd_T50 l0_8 x77_4).f1.f1)).bind fun t403 => (if t403 = true then (impl_IsSky.l2 k4 l0_8 (l0_8.length : Int) (wrap64 (x77_4 + 1)) a0_0 l0_1 l0_2 a0_3 a0_4 a0_5 a0_6 a0_7 l0_8 a0_9) else (some false))) = some r:=by rw [if_pos rfl] at H;exact H
                clear H
                have H:=H1
                clear H1
                replace H:=Option.bind_eq_some_iff.mp H
                obtain ⟨t403,A620,H⟩:=H
                replace H : (if t403 = true then (impl_IsSky.l2 k4 l0_8 (l0_8.length : Int) (wrap64 (x77_4 + 1)) a0_0 l0_1 l0_2 a0_3 a0_4 a0_5 a0_6 a0_7 l0_8 a0_9) else (some false)) = some r:=H
                have A62:=Aside0.mk A620
                clear A620
                by_cases c63 : t403 = true
                ·subst c63
                 have H1 : (impl_IsSky.l2 k4 l0_8 (l0_8.length : Int) (wrap64 (x77_4 + 1)) a0_0 l0_1 l0_2 a0_3 a0_4 a0_5 a0_6 a0_7 l0_8 a0_9) = some r:=by rw [if_pos rfl] at H;exact H
                 clear H
                 have H:=H1
                 clear H1
                 have H':=Aside0.mk H
                 clear H
                 have p400 : 0 ≤ (x77_4 : Int):=of_decide_eq_true (by first|(with_reducible assumption)|assumption)
                 have q400 : x77_4 < (l0_8.length : Int):=of_decide_eq_true (by first|(with_reducible assumption)|assumption)
                 obtain ⟨ad400,e400,hx400_0,hx400_1,hx400_2⟩:=at_T50 HR0_8.out x77_4 p400 q400
                 cases e400
                 replace hx400_0:=(HB.out.cell (World.block_lt_of_cell? w _ hx400_0)).trans hx400_0
                 replace hx400_1:=(HB.out.cell (World.block_lt_of_cell? w _ hx400_1)).trans hx400_1
                 replace hx400_2:=(HB.out.cell (World.block_lt_of_cell? w _ hx400_2)).trans hx400_2
                 replace p400:=eq_true p400
                 replace q400:=eq_true q400
                 go_wp2_with (first|((with_reducible refine gate_dst (N:=8) rfl ?_);(try (refine gate_guard (by rfl) ?_;dsimp only));refine box_event ?hg (N:=8) ?hd (cs:=#[.int .i64 0,.int .i64 0,.int .i64 0]) (t:=50) ?hr ?_;(case hd => rfl);(case hg => rfl);(case hr => first|(go_simp;done)|(go_simp;rfl));intro gb401 hg w64 hbox hb;have BK401:=Aside0.mk (hbox);have GE401:=Aside0.mk ((by rw [hg];exact (below_size (by repeat (first|(with_reducible first|exact HB.out|apply below_alloc|apply pw_below_drewN|apply below_drew1|refine below_set ?_ GE389.out)|exact HB.out))) : w.heap.size ≤ gb401));replace HB:=Aside0.mk (below_step (by repeat (first|(with_reducible first|exact HB.out|apply below_alloc|apply pw_below_drewN|apply below_drew1|refine below_set ?_ GE389.out)|exact HB.out)) hb);have NB389_401:=Aside0.mk ((by rw [hg];exact Nat.ne_of_lt (blk_lt (g:=gb389) (o:=.cells #[.int .i64 a0_0,.slice A0_1 l0_1.length c0_1,.slice A0_2 l0_2.length c0_2,.int .i64 a0_3,.int .i64 a0_4,.int .i64 a0_5,.int .i64 a0_6,.int .i64 a0_7,.slice (some ad400) l0_8.length c0_8,.int .i64 a0_9] 28 (0,0)) (by (with_reducible repeat (first|refine blk_drewN ?_ _|refine blk_drew ?_|refine blk_alloc ?_ _));exact BK389.out)) : gb389 ≠ gb401));replace BK389:=Aside0.mk (blk_below (g:=gb389) (o:=.cells #[.int .i64 a0_0,.slice A0_1 l0_1.length c0_1,.slice A0_2 l0_2.length c0_2,.int .i64 a0_3,.int .i64 a0_4,.int .i64 a0_5,.int .i64 a0_6,.int .i64 a0_7,.slice (some ad400) l0_8.length c0_8,.int .i64 a0_9] 28 (0,0)) (by (with_reducible repeat (first|refine blk_drewN ?_ _|refine blk_drew ?_|refine blk_alloc ?_ _));exact BK389.out) hb);have NB401_389:=Aside0.mk (Ne.symm NB389_401.out);clear hb hbox hg;have hnb65:=NB401_389.out;have hnc65:=NB389_401.out;have hcz66_0 : w64.cell? ⟨gb401,0,none⟩ = some (.int .i64 0):=(blk_cell BK401.out 0).trans rfl;have hcz66_1 : w64.cell? ⟨gb401,1,none⟩ = some (.int .i64 0):=(blk_cell BK401.out 1).trans rfl;have hcz66_2 : w64.cell? ⟨gb401,2,none⟩ = some (.int .i64 0):=(blk_cell BK401.out 2).trans rfl;have hfz66_0:=blk_frozen BK401.out 0;have hfz66_1:=blk_frozen BK401.out 1;have hfz66_2:=blk_frozen BK401.out 2;have hcz67_0 : w64.cell? ⟨gb389,0,none⟩ = some (.int .i64 a0_0):=(blk_cell BK389.out 0).trans rfl;have hcz67_1 : w64.cell? ⟨gb389,1,none⟩ = some (.slice A0_1 l0_1.length c0_1):=(blk_cell BK389.out 1).trans rfl;have hcz67_2 : w64.cell? ⟨gb389,2,none⟩ = some (.slice A0_2 l0_2.length c0_2):=(blk_cell BK389.out 2).trans rfl;have hcz67_3 : w64.cell? ⟨gb389,3,none⟩ = some (.int .i64 a0_3):=(blk_cell BK389.out 3).trans rfl;have hcz67_4 : w64.cell? ⟨gb389,4,none⟩ = some (.int .i64 a0_4):=(blk_cell BK389.out 4).trans rfl;have hcz67_5 : w64.cell? ⟨gb389,5,none⟩ = some (.int .i64 a0_5):=(blk_cell BK389.out 5).trans rfl;have hcz67_6 : w64.cell? ⟨gb389,6,none⟩ = some (.int .i64 a0_6):=(blk_cell BK389.out 6).trans rfl;have hcz67_7 : w64.cell? ⟨gb389,7,none⟩ = some (.int .i64 a0_7):=(blk_cell BK389.out 7).trans rfl;have hcz67_8 : w64.cell? ⟨gb389,8,none⟩ = some (.slice (some ad400) l0_8.length c0_8):=(blk_cell BK389.out 8).trans rfl;have hcz67_9 : w64.cell? ⟨gb389,9,none⟩ = some (.int .i64 a0_9):=(blk_cell BK389.out 9).trans rfl;have hfz67_0:=blk_frozen BK389.out 0;have hfz67_1:=blk_frozen BK389.out 1;have hfz67_2:=blk_frozen BK389.out 2;have hfz67_3:=blk_frozen BK389.out 3;have hfz67_4:=blk_frozen BK389.out 4;have hfz67_5:=blk_frozen BK389.out 5;have hfz67_6:=blk_frozen BK389.out 6;have hfz67_7:=blk_frozen BK389.out 7;have hfz67_8:=blk_frozen BK389.out 8;have hfz67_9:=blk_frozen BK389.out 9)|((with_reducible refine gate_callee (f:=16) rfl ?_);refine goesL_ (some 86) rfl rfl Try.func16 (by kernel_rfl) rfl #[.int .i64 ((rd_T50 l0_8 x77_4).f0),.int .i64 0,.int .i64 (wrap64 (a0_0 - 1))] rfl (by (try simp only [List.map_toArray,List.map_cons,List.map_nil]);first|done|rfl|(simp only [List.length_drop,List.length_take];rfl)) ?_;(with_reducible refine (impl_InRange.calls ((rd_T50 l0_8 x77_4).f0) 0 (wrap64 (a0_0 - 1)) true _ A60.out).mono ?_);rintro e w' ⟨rfl,⟨nd,rfl⟩⟩;refine ⟨_,rfl,?_⟩)|(go_at_call 18;(with_reducible refine (impl_isWidth.calls ((rd_T50 l0_8 x77_4).f1.f1) true _ A62.out).mono ?_);rintro e w' ⟨rfl,⟨nd,rfl⟩⟩))
                 go_roundg k4
                 case measure => have:=HJ1.out;have:=HK2.out;have:=HK3.out;have:=HK4.out;omega
                 case rel => exact ⟨(wrap64 (x77_4 + 1)),(by first|rfl|(simp;done)|(simp [*];done)),H',⟨by have:=HJ1.out;have:=HK2.out;have:=HK3.out;have:=HK4.out;omega⟩,⟨by (with_reducible repeat (first|refine blk_drewN ?_ _|refine blk_drew ?_|refine blk_alloc ?_ _));refine blk_far ?_ NB389_401.out _;(with_reducible repeat (first|refine blk_drewN ?_ _|refine blk_drew ?_|refine blk_alloc ?_ _));refine blk_far ?_ NB389_401.out _;(with_reducible repeat (first|refine blk_drewN ?_ _|refine blk_drew ?_|refine blk_alloc ?_ _));refine blk_far ?_ NB389_401.out _;(with_reducible repeat (first|refine blk_drewN ?_ _|refine blk_drew ?_|refine blk_alloc ?_ _));exact BK389.out⟩,⟨by repeat (first|(with_reducible first|exact HB.out|apply below_alloc|apply pw_below_drewN|apply below_drew1|refine below_set ?_ GE389.out|refine below_set ?_ GE401.out)|exact HB.out)⟩⟩
                ·replace c63:=Bool.eq_false_iff.mpr c63
                 subst c63
                 have H1 : (some false) = some r:=by rw [if_neg (show ¬ (false = true) by decide)] at H;exact H
                 clear H
                 have H:=H1
                 clear H1
                 obtain rfl:=Option.some.inj H
                 have p400 : 0 ≤ (x77_4 : Int):=of_decide_eq_true (by first|(with_reducible assumption)|assumption)
                 have q400 : x77_4 < (l0_8.length : Int):=of_decide_eq_true (by first|(with_reducible assumption)|assumption)
                 obtain ⟨ad400,e400,hx400_0,hx400_1,hx400_2⟩:=at_T50 HR0_8.out x77_4 p400 q400
                 cases e400
                 replace hx400_0:=(HB.out.cell (World.block_lt_of_cell? w _ hx400_0)).trans hx400_0
                 replace hx400_1:=(HB.out.cell (World.block_lt_of_cell? w _ hx400_1)).trans hx400_1
                 replace hx400_2:=(HB.out.cell (World.block_lt_of_cell? w _ hx400_2)).trans hx400_2
                 replace p400:=eq_true p400
                 replace q400:=eq_true q400
                 go_wp2_with (first|((with_reducible refine gate_dst (N:=8) rfl ?_);(try (refine gate_guard (by rfl) ?_;dsimp only));refine box_event ?hg (N:=8) ?hd (cs:=#[.int .i64 0,.int .i64 0,.int .i64 0]) (t:=50) ?hr ?_;(case hd => rfl);(case hg => rfl);(case hr => first|(go_simp;done)|(go_simp;rfl));intro gb401 hg w68 hbox hb;have BK401:=Aside0.mk (hbox);have GE401:=Aside0.mk ((by rw [hg];exact (below_size (by repeat (first|(with_reducible first|exact HB.out|apply below_alloc|apply pw_below_drewN|apply below_drew1|refine below_set ?_ GE389.out)|exact HB.out))) : w.heap.size ≤ gb401));replace HB:=Aside0.mk (below_step (by repeat (first|(with_reducible first|exact HB.out|apply below_alloc|apply pw_below_drewN|apply below_drew1|refine below_set ?_ GE389.out)|exact HB.out)) hb);have NB389_401:=Aside0.mk ((by rw [hg];exact Nat.ne_of_lt (blk_lt (g:=gb389) (o:=.cells #[.int .i64 a0_0,.slice A0_1 l0_1.length c0_1,.slice A0_2 l0_2.length c0_2,.int .i64 a0_3,.int .i64 a0_4,.int .i64 a0_5,.int .i64 a0_6,.int .i64 a0_7,.slice (some ad400) l0_8.length c0_8,.int .i64 a0_9] 28 (0,0)) (by (with_reducible repeat (first|refine blk_drewN ?_ _|refine blk_drew ?_|refine blk_alloc ?_ _));exact BK389.out)) : gb389 ≠ gb401));replace BK389:=Aside0.mk (blk_below (g:=gb389) (o:=.cells #[.int .i64 a0_0,.slice A0_1 l0_1.length c0_1,.slice A0_2 l0_2.length c0_2,.int .i64 a0_3,.int .i64 a0_4,.int .i64 a0_5,.int .i64 a0_6,.int .i64 a0_7,.slice (some ad400) l0_8.length c0_8,.int .i64 a0_9] 28 (0,0)) (by (with_reducible repeat (first|refine blk_drewN ?_ _|refine blk_drew ?_|refine blk_alloc ?_ _));exact BK389.out) hb);have NB401_389:=Aside0.mk (Ne.symm NB389_401.out);clear hb hbox hg;have hnb69:=NB401_389.out;have hnc69:=NB389_401.out;have hcz70_0 : w68.cell? ⟨gb401,0,none⟩ = some (.int .i64 0):=(blk_cell BK401.out 0).trans rfl;have hcz70_1 : w68.cell? ⟨gb401,1,none⟩ = some (.int .i64 0):=(blk_cell BK401.out 1).trans rfl;have hcz70_2 : w68.cell? ⟨gb401,2,none⟩ = some (.int .i64 0):=(blk_cell BK401.out 2).trans rfl;have hfz70_0:=blk_frozen BK401.out 0;have hfz70_1:=blk_frozen BK401.out 1;have hfz70_2:=blk_frozen BK401.out 2;have hcz71_0 : w68.cell? ⟨gb389,0,none⟩ = some (.int .i64 a0_0):=(blk_cell BK389.out 0).trans rfl;have hcz71_1 : w68.cell? ⟨gb389,1,none⟩ = some (.slice A0_1 l0_1.length c0_1):=(blk_cell BK389.out 1).trans rfl;have hcz71_2 : w68.cell? ⟨gb389,2,none⟩ = some (.slice A0_2 l0_2.length c0_2):=(blk_cell BK389.out 2).trans rfl;have hcz71_3 : w68.cell? ⟨gb389,3,none⟩ = some (.int .i64 a0_3):=(blk_cell BK389.out 3).trans rfl;have hcz71_4 : w68.cell? ⟨gb389,4,none⟩ = some (.int .i64 a0_4):=(blk_cell BK389.out 4).trans rfl;have hcz71_5 : w68.cell? ⟨gb389,5,none⟩ = some (.int .i64 a0_5):=(blk_cell BK389.out 5).trans rfl;have hcz71_6 : w68.cell? ⟨gb389,6,none⟩ = some (.int .i64 a0_6):=(blk_cell BK389.out 6).trans rfl;have hcz71_7 : w68.cell? ⟨gb389,7,none⟩ = some (.int .i64 a0_7):=(blk_cell BK389.out 7).trans rfl;have hcz71_8 : w68.cell? ⟨gb389,8,none⟩ = some (.slice (some ad400) l0_8.length c0_8):=(blk_cell BK389.out 8).trans rfl;have hcz71_9 : w68.cell? ⟨gb389,9,none⟩ = some (.int .i64 a0_9):=(blk_cell BK389.out 9).trans rfl;have hfz71_0:=blk_frozen BK389.out 0;have hfz71_1:=blk_frozen BK389.out 1;have hfz71_2:=blk_frozen BK389.out 2;have hfz71_3:=blk_frozen BK389.out 3;have hfz71_4:=blk_frozen BK389.out 4;have hfz71_5:=blk_frozen BK389.out 5;have hfz71_6:=blk_frozen BK389.out 6;have hfz71_7:=blk_frozen BK389.out 7;have hfz71_8:=blk_frozen BK389.out 8;have hfz71_9:=blk_frozen BK389.out 9)|((with_reducible refine gate_callee (f:=16) rfl ?_);refine goesL_ (some 86) rfl rfl Try.func16 (by kernel_rfl) rfl #[.int .i64 ((rd_T50 l0_8 x77_4).f0),.int .i64 0,.int .i64 (wrap64 (a0_0 - 1))] rfl (by (try simp only [List.map_toArray,List.map_cons,List.map_nil]);first|done|rfl|(simp only [List.length_drop,List.length_take];rfl)) ?_;(with_reducible refine (impl_InRange.calls ((rd_T50 l0_8 x77_4).f0) 0 (wrap64 (a0_0 - 1)) true _ A60.out).mono ?_);rintro e w' ⟨rfl,⟨nd,rfl⟩⟩;refine ⟨_,rfl,?_⟩)|(go_at_call 18;(with_reducible refine (impl_isWidth.calls ((rd_T50 l0_8 x77_4).f1.f1) false _ A62.out).mono ?_);rintro e w' ⟨rfl,⟨nd,rfl⟩⟩))
                 go_ret
                 exact ⟨by first|rfl|(simp [errW_none,errW_some] <;> rfl)|(simp [*,errW_none,errW_some] <;> rfl),by repeat (first|(with_reducible first|exact HB.out|apply below_alloc|apply pw_below_drewN|apply below_drew1|refine below_set ?_ GE389.out|refine below_set ?_ GE401.out)|exact HB.out)⟩
               ·replace c61:=Bool.eq_false_iff.mpr c61
                subst c61
                have H1 : (some false) = some r:=by rw [if_neg (show ¬ (false = true) by decide)] at H;exact H
                clear H
                have H:=H1
                clear H1
                obtain rfl:=Option.some.inj H
                have p400 : 0 ≤ (x77_4 : Int):=of_decide_eq_true (by first|(with_reducible assumption)|assumption)
                have q400 : x77_4 < (l0_8.length : Int):=of_decide_eq_true (by first|(with_reducible assumption)|assumption)
                obtain ⟨ad400,e400,hx400_0,hx400_1,hx400_2⟩:=at_T50 HR0_8.out x77_4 p400 q400
                cases e400
                replace hx400_0:=(HB.out.cell (World.block_lt_of_cell? w _ hx400_0)).trans hx400_0
                replace hx400_1:=(HB.out.cell (World.block_lt_of_cell? w _ hx400_1)).trans hx400_1
                replace hx400_2:=(HB.out.cell (World.block_lt_of_cell? w _ hx400_2)).trans hx400_2
                replace p400:=eq_true p400
                replace q400:=eq_true q400
                go_wp2_with (first|((with_reducible refine gate_dst (N:=8) rfl ?_);(try (refine gate_guard (by rfl) ?_;dsimp only));refine box_event ?hg (N:=8) ?hd (cs:=#[.int .i64 0,.int .i64 0,.int .i64 0]) (t:=50) ?hr ?_;(case hd => rfl);(case hg => rfl);(case hr => first|(go_simp;done)|(go_simp;rfl));intro gb401 hg w72 hbox hb;have BK401:=Aside0.mk (hbox);have GE401:=Aside0.mk ((by rw [hg];exact (below_size (by repeat (first|(with_reducible first|exact HB.out|apply below_alloc|apply pw_below_drewN|apply below_drew1|refine below_set ?_ GE389.out)|exact HB.out))) : w.heap.size ≤ gb401));replace HB:=Aside0.mk (below_step (by repeat (first|(with_reducible first|exact HB.out|apply below_alloc|apply pw_below_drewN|apply below_drew1|refine below_set ?_ GE389.out)|exact HB.out)) hb);have NB389_401:=Aside0.mk ((by rw [hg];exact Nat.ne_of_lt (blk_lt (g:=gb389) (o:=.cells #[.int .i64 a0_0,.slice A0_1 l0_1.length c0_1,.slice A0_2 l0_2.length c0_2,.int .i64 a0_3,.int .i64 a0_4,.int .i64 a0_5,.int .i64 a0_6,.int .i64 a0_7,.slice (some ad400) l0_8.length c0_8,.int .i64 a0_9] 28 (0,0)) (by (with_reducible repeat (first|refine blk_drewN ?_ _|refine blk_drew ?_|refine blk_alloc ?_ _));exact BK389.out)) : gb389 ≠ gb401));replace BK389:=Aside0.mk (blk_below (g:=gb389) (o:=.cells #[.int .i64 a0_0,.slice A0_1 l0_1.length c0_1,.slice A0_2 l0_2.length c0_2,.int .i64 a0_3,.int .i64 a0_4,.int .i64 a0_5,.int .i64 a0_6,.int .i64 a0_7,.slice (some ad400) l0_8.length c0_8,.int .i64 a0_9] 28 (0,0)) (by (with_reducible repeat (first|refine blk_drewN ?_ _|refine blk_drew ?_|refine blk_alloc ?_ _));exact BK389.out) hb);have NB401_389:=Aside0.mk (Ne.symm NB389_401.out);clear hb hbox hg;have hnb73:=NB401_389.out;have hnc73:=NB389_401.out;have hcz74_0 : w72.cell? ⟨gb401,0,none⟩ = some (.int .i64 0):=(blk_cell BK401.out 0).trans rfl;have hcz74_1 : w72.cell? ⟨gb401,1,none⟩ = some (.int .i64 0):=(blk_cell BK401.out 1).trans rfl;have hcz74_2 : w72.cell? ⟨gb401,2,none⟩ = some (.int .i64 0):=(blk_cell BK401.out 2).trans rfl;have hfz74_0:=blk_frozen BK401.out 0;have hfz74_1:=blk_frozen BK401.out 1;have hfz74_2:=blk_frozen BK401.out 2;have hcz75_0 : w72.cell? ⟨gb389,0,none⟩ = some (.int .i64 a0_0):=(blk_cell BK389.out 0).trans rfl;have hcz75_1 : w72.cell? ⟨gb389,1,none⟩ = some (.slice A0_1 l0_1.length c0_1):=(blk_cell BK389.out 1).trans rfl;have hcz75_2 : w72.cell? ⟨gb389,2,none⟩ = some (.slice A0_2 l0_2.length c0_2):=(blk_cell BK389.out 2).trans rfl;have hcz75_3 : w72.cell? ⟨gb389,3,none⟩ = some (.int .i64 a0_3):=(blk_cell BK389.out 3).trans rfl;have hcz75_4 : w72.cell? ⟨gb389,4,none⟩ = some (.int .i64 a0_4):=(blk_cell BK389.out 4).trans rfl;have hcz75_5 : w72.cell? ⟨gb389,5,none⟩ = some (.int .i64 a0_5):=(blk_cell BK389.out 5).trans rfl;have hcz75_6 : w72.cell? ⟨gb389,6,none⟩ = some (.int .i64 a0_6):=(blk_cell BK389.out 6).trans rfl;have hcz75_7 : w72.cell? ⟨gb389,7,none⟩ = some (.int .i64 a0_7):=(blk_cell BK389.out 7).trans rfl;have hcz75_8 : w72.cell? ⟨gb389,8,none⟩ = some (.slice (some ad400) l0_8.length c0_8):=(blk_cell BK389.out 8).trans rfl;have hcz75_9 : w72.cell? ⟨gb389,9,none⟩ = some (.int .i64 a0_9):=(blk_cell BK389.out 9).trans rfl;have hfz75_0:=blk_frozen BK389.out 0;have hfz75_1:=blk_frozen BK389.out 1;have hfz75_2:=blk_frozen BK389.out 2;have hfz75_3:=blk_frozen BK389.out 3;have hfz75_4:=blk_frozen BK389.out 4;have hfz75_5:=blk_frozen BK389.out 5;have hfz75_6:=blk_frozen BK389.out 6;have hfz75_7:=blk_frozen BK389.out 7;have hfz75_8:=blk_frozen BK389.out 8;have hfz75_9:=blk_frozen BK389.out 9)|((with_reducible refine gate_callee (f:=16) rfl ?_);refine goesL_ (some 86) rfl rfl Try.func16 (by kernel_rfl) rfl #[.int .i64 ((rd_T50 l0_8 x77_4).f0),.int .i64 0,.int .i64 (wrap64 (a0_0 - 1))] rfl (by (try simp only [List.map_toArray,List.map_cons,List.map_nil]);first|done|rfl|(simp only [List.length_drop,List.length_take];rfl)) ?_;(with_reducible refine (impl_InRange.calls ((rd_T50 l0_8 x77_4).f0) 0 (wrap64 (a0_0 - 1)) false _ A60.out).mono ?_);rintro e w' ⟨rfl,⟨nd,rfl⟩⟩;refine ⟨_,rfl,?_⟩))
                go_ret
                exact ⟨by first|rfl|(simp [errW_none,errW_some] <;> rfl)|(simp [*,errW_none,errW_some] <;> rfl),by repeat (first|(with_reducible first|exact HB.out|apply below_alloc|apply pw_below_drewN|apply below_drew1|refine below_set ?_ GE389.out|refine below_set ?_ GE401.out)|exact HB.out)⟩
              ·rw [if_neg c59] at H
               exact absurd H (by simp)
             ·rw [if_neg c58] at H
              exact absurd H (by simp)
            ·rw [if_neg c57] at H
             have c57b0 : decide (x77_4 < (l0_8.length : Int)) = false:=decide_eq_false c57
             clear c57
             obtain ⟨y404,hy404⟩ : ∃ y_ : List Int,y_ = (([a0_3,a0_4,a0_5,a0_7] : List Int)):=⟨_,rfl⟩
             replace H : (impl_IsSky.l3 k4 y404 (y404.length : Int) 0 a0_0 l0_1 l0_2 a0_3 a0_4 a0_5 a0_6 a0_7 l0_8 a0_9) = some r:=by first|(rw [hy404];with_reducible exact H)|(have H2_:=(Option.bind_some _ _).symm.trans H;rw [hy404];with_reducible exact H2_)|(have H2_:=(Option.bind_some _ _).symm.trans H;with_reducible exact H2_)|with_reducible exact H|(rw [hy404];exact H)|exact H
             have Ny404:=Aside0.mk hy404
             clear hy404
             have H':=Aside0.mk H
             clear H
             have hcz76_0 : wr.cell? ⟨gb389,0,none⟩ = some (.int .i64 a0_0):=(blk_cell BK389.out 0).trans rfl
             have hcz76_1 : wr.cell? ⟨gb389,1,none⟩ = some (.slice A0_1 l0_1.length c0_1):=(blk_cell BK389.out 1).trans rfl
             have hcz76_2 : wr.cell? ⟨gb389,2,none⟩ = some (.slice A0_2 l0_2.length c0_2):=(blk_cell BK389.out 2).trans rfl
             have hcz76_3 : wr.cell? ⟨gb389,3,none⟩ = some (.int .i64 a0_3):=(blk_cell BK389.out 3).trans rfl
             have hcz76_4 : wr.cell? ⟨gb389,4,none⟩ = some (.int .i64 a0_4):=(blk_cell BK389.out 4).trans rfl
             have hcz76_5 : wr.cell? ⟨gb389,5,none⟩ = some (.int .i64 a0_5):=(blk_cell BK389.out 5).trans rfl
             have hcz76_6 : wr.cell? ⟨gb389,6,none⟩ = some (.int .i64 a0_6):=(blk_cell BK389.out 6).trans rfl
             have hcz76_7 : wr.cell? ⟨gb389,7,none⟩ = some (.int .i64 a0_7):=(blk_cell BK389.out 7).trans rfl
             have hcz76_8 : wr.cell? ⟨gb389,8,none⟩ = some (.slice A0_8 l0_8.length c0_8):=(blk_cell BK389.out 8).trans rfl
             have hcz76_9 : wr.cell? ⟨gb389,9,none⟩ = some (.int .i64 a0_9):=(blk_cell BK389.out 9).trans rfl
             have hfz76_0:=blk_frozen BK389.out 0
             have hfz76_1:=blk_frozen BK389.out 1
             have hfz76_2:=blk_frozen BK389.out 2
             have hfz76_3:=blk_frozen BK389.out 3
             have hfz76_4:=blk_frozen BK389.out 4
             have hfz76_5:=blk_frozen BK389.out 5
             have hfz76_6:=blk_frozen BK389.out 6
             have hfz76_7:=blk_frozen BK389.out 7
             have hfz76_8:=blk_frozen BK389.out 8
             have hfz76_9:=blk_frozen BK389.out 9
             go_wp2_with (first|((with_reducible refine gate_dst (N:=104) rfl ?_);(try (refine gate_guard (by rfl) ?_;dsimp only));refine Kd.R_lit (Kd.int .i64) _ 3 ?hg (N:=104) ?hd (xs:=([a0_3,a0_4,a0_5,a0_7] : List Int)) (inner:=[.int .i64 a0_3,.int .i64 a0_4,.int .i64 a0_5,.int .i64 a0_7]) (ok:=fun _ => True) (okp:=fun _ => True) ?hr ?hp (fun _ hk => hk) trivial (Below.refl _ _) (Nat.le_refl _) (by simp) ?_;(case hd => rfl);(case hg => rfl);(case hr => first|(go_simp;done)|(go_simp;rfl));(case hp => exact (Reps.one (show Kd.M (Kd.int .i64) _ _ _ a0_3 [.int .i64 a0_3] from rfl) (Reps.one (show Kd.M (Kd.int .i64) _ _ _ a0_4 [.int .i64 a0_4] from rfl) (Reps.one (show Kd.M (Kd.int .i64) _ _ _ a0_5 [.int .i64 a0_5] from rfl) (Reps.one (show Kd.M (Kd.int .i64) _ _ _ a0_7 [.int .i64 a0_7] from rfl) (Reps.none _ _))))));intro v405 w77 ho78 hb hg_ hnew_;clear hg_ hnew_;(first|rw [← Ny404.out] at ho78|(simp only [Int.reduceToNat] at ho78;rw [← Ny404.out] at ho78));have HO406:=Aside0.mk (Kd.R_lower ho78 (below_size (by repeat (first|(with_reducible first|exact HB.out|apply below_alloc|apply pw_below_drewN|apply below_drew1|refine below_set ?_ GE389.out)|exact HB.out))));replace BK389:=Aside0.mk (blk_below (g:=gb389) (o:=.cells #[.int .i64 a0_0,.slice A0_1 l0_1.length c0_1,.slice A0_2 l0_2.length c0_2,.int .i64 a0_3,.int .i64 a0_4,.int .i64 a0_5,.int .i64 a0_6,.int .i64 a0_7,.slice A0_8 l0_8.length c0_8,.int .i64 a0_9] 28 (0,0)) (by (with_reducible repeat (first|refine blk_drewN ?_ _|refine blk_drew ?_|refine blk_alloc ?_ _));exact BK389.out) hb);replace HB:=Aside0.mk (below_step (by repeat (first|(with_reducible first|exact HB.out|apply below_alloc|apply pw_below_drewN|apply below_drew1|refine below_set ?_ GE389.out)|exact HB.out)) hb);clear hb ho78;obtain ⟨Ao79,co79,eo79⟩:=Kd.R_slice HO406.out;subst eo79))
             go_loopg [106] k4 (fun kq v106 w' => ∃ (x106_5 : Int),v106 = .int .i64 x106_5 ∧ Aside0 (impl_IsSky.l3 kq y404 (y404.length : Int) x106_5 a0_0 l0_1 l0_2 a0_3 a0_4 a0_5 a0_6 a0_7 l0_8 a0_9 = some r) ∧ Aside0 (kq ≤ k4) ∧ Aside0 (Kd.R (Kd.int .i64) 3 w' w.heap.size (fun _ => True) (.slice Ao79 y404.length co79) y404) ∧ Aside0 (w'.heap[gb389]? = some (.cells #[.int .i64 a0_0,(.slice A0_1 l0_1.length c0_1),(.slice A0_2 l0_2.length c0_2),.int .i64 a0_3,.int .i64 a0_4,.int .i64 a0_5,.int .i64 a0_6,.int .i64 a0_7,(.slice A0_8 l0_8.length c0_8),.int .i64 a0_9] 28 (0,0))) ∧ Aside0 (Below w.heap.size w w'))
             case atStart => exact ⟨(0),(by first|rfl|(simp;done)|(simp [*];done)),H',⟨Nat.le_refl _⟩,⟨by (with_reducible repeat (first|apply Kd.R_alloc|apply Kd.R_drewN|apply Kd.R_drew));exact HO406.out⟩,⟨by (with_reducible repeat (first|refine blk_drewN ?_ _|refine blk_drew ?_|refine blk_alloc ?_ _));exact BK389.out⟩,⟨by repeat (first|(with_reducible first|exact HB.out|apply below_alloc|apply pw_below_drewN|apply below_drew1|refine below_set ?_ GE389.out)|exact HB.out)⟩⟩
             case round =>
              clear H'
              try clear c13
              try clear c15
              try clear c15b0
              try clear c31
              try clear c31b0
              try clear c57
              try clear c57b0
              try clear hcz14_0
              try clear hcz14_1
              try clear hcz14_2
              try clear hcz14_3
              try clear hcz14_4
              try clear hcz14_5
              try clear hcz14_6
              try clear hcz14_7
              try clear hcz14_8
              try clear hcz14_9
              try clear hcz30_0
              try clear hcz30_1
              try clear hcz30_2
              try clear hcz30_3
              try clear hcz30_4
              try clear hcz30_5
              try clear hcz30_6
              try clear hcz30_7
              try clear hcz30_8
              try clear hcz30_9
              try clear hcz56_0
              try clear hcz56_1
              try clear hcz56_2
              try clear hcz56_3
              try clear hcz56_4
              try clear hcz56_5
              try clear hcz56_6
              try clear hcz56_7
              try clear hcz56_8
              try clear hcz56_9
              try clear hcz76_0
              try clear hcz76_1
              try clear hcz76_2
              try clear hcz76_3
              try clear hcz76_4
              try clear hcz76_5
              try clear hcz76_6
              try clear hcz76_7
              try clear hcz76_8
              try clear hcz76_9
              try clear hfz14_0
              try clear hfz14_1
              try clear hfz14_2
              try clear hfz14_3
              try clear hfz14_4
              try clear hfz14_5
              try clear hfz14_6
              try clear hfz14_7
              try clear hfz14_8
              try clear hfz14_9
              try clear hfz30_0
              try clear hfz30_1
              try clear hfz30_2
              try clear hfz30_3
              try clear hfz30_4
              try clear hfz30_5
              try clear hfz30_6
              try clear hfz30_7
              try clear hfz30_8
              try clear hfz30_9
              try clear hfz56_0
              try clear hfz56_1
              try clear hfz56_2
              try clear hfz56_3
              try clear hfz56_4
              try clear hfz56_5
              try clear hfz56_6
              try clear hfz56_7
              try clear hfz56_8
              try clear hfz56_9
              try clear hfz76_0
              try clear hfz76_1
              try clear hfz76_2
              try clear hfz76_3
              try clear hfz76_4
              try clear hfz76_5
              try clear hfz76_6
              try clear hfz76_7
              try clear hfz76_8
              try clear hfz76_9
              obtain ⟨x106_5,rfl,HA,HK5,HO_104,BK389,HB⟩:=hrel
              cases gk with
              | zero => exact absurd HA.out (by simp [impl_IsSky.l3])
              | succ k5 =>
               have H:=HA.out
               clear HA
               simp only [impl_IsSky.l3] at H
               by_cases c80 : x106_5 < (y404.length : Int)
               ·rw [if_pos c80] at H
                have c80b0 : decide (x106_5 < (y404.length : Int)) = true:=decide_eq_true c80
                clear c80
                by_cases c81 : 0 ≤ x106_5
                ·rw [if_pos c81] at H
                 have c81b0 : decide (0 ≤ x106_5) = true:=decide_eq_true c81
                 clear c81
                 by_cases c82 : x106_5 < (y404.length : Int)
                 ·rw [if_pos c82] at H
                  have c82b0 : decide (x106_5 < (y404.length : Int)) = true:=decide_eq_true c82
                  clear c82
                  replace H:=Option.bind_eq_some_iff.mp H
                  obtain ⟨t408,A830,H⟩:=H
                  replace H : (if t408 = true then (impl_IsSky.l3 k5 y404 (y404.length : Int) (wrap64 (x106_5 + 1)) a0_0 l0_1 l0_2 a0_3 a0_4 a0_5 a0_6 a0_7 l0_8 a0_9) else (some false)) = some r:=H
                  have A83:=Aside0.mk A830
                  clear A830
                  by_cases c84 : t408 = true
                  ·subst c84
                   have H1 : (impl_IsSky.l3 k5 y404 (y404.length : Int) (wrap64 (x106_5 + 1)) a0_0 l0_1 l0_2 a0_3 a0_4 a0_5 a0_6 a0_7 l0_8 a0_9) = some r:=by rw [if_pos rfl] at H;exact H
                   clear H
                   have H:=H1
                   clear H1
                   have H':=Aside0.mk H
                   clear H
                   have p407 : 0 ≤ (x106_5 : Int):=of_decide_eq_true (by first|(with_reducible assumption)|assumption)
                   have q407 : x106_5 < (y404.length : Int):=of_decide_eq_true (by first|(with_reducible assumption)|assumption)
                   obtain ⟨ad407,e407,hx407_0⟩:=Kd.at_int (Kd.R_reads' HO_104.out).2.2 x106_5 p407 q407
                   cases e407
                   replace p407:=eq_true p407
                   replace q407:=eq_true q407
                   go_wp2_with (first|((with_reducible refine gate_callee (f:=16) rfl ?_);refine goesL_ (some 111) rfl rfl Try.func16 (by kernel_rfl) rfl #[.int .i64 (rd y404 x106_5),.int .i64 0,.int .i64 180] rfl (by (try simp only [List.map_toArray,List.map_cons,List.map_nil]);first|done|rfl|(simp only [List.length_drop,List.length_take];rfl)) ?_;(with_reducible refine (impl_InRange.calls (rd y404 x106_5) 0 180 true _ A83.out).mono ?_);rintro e w' ⟨rfl,⟨nd,rfl⟩⟩;refine ⟨_,rfl,?_⟩))
                   go_roundg k5
                   case measure => have:=HJ1.out;have:=HK2.out;have:=HK3.out;have:=HK4.out;have:=HK5.out;omega
                   case rel => exact ⟨(wrap64 (x106_5 + 1)),(by first|rfl|(simp;done)|(simp [*];done)),H',⟨by have:=HJ1.out;have:=HK2.out;have:=HK3.out;have:=HK4.out;have:=HK5.out;omega⟩,⟨by (with_reducible repeat (first|apply Kd.R_alloc|apply Kd.R_drewN|apply Kd.R_drew));exact HO_104.out⟩,⟨by (with_reducible repeat (first|refine blk_drewN ?_ _|refine blk_drew ?_|refine blk_alloc ?_ _));exact BK389.out⟩,⟨by repeat (first|(with_reducible first|exact HB.out|apply below_alloc|apply pw_below_drewN|apply below_drew1|refine below_set ?_ GE389.out)|exact HB.out)⟩⟩
                  ·replace c84:=Bool.eq_false_iff.mpr c84
                   subst c84
                   have H1 : (some false) = some r:=by rw [if_neg (show ¬ (false = true) by decide)] at H;exact H
                   clear H
                   have H:=H1
                   clear H1
                   obtain rfl:=Option.some.inj H
                   have p407 : 0 ≤ (x106_5 : Int):=of_decide_eq_true (by first|(with_reducible assumption)|assumption)
                   have q407 : x106_5 < (y404.length : Int):=of_decide_eq_true (by first|(with_reducible assumption)|assumption)
                   obtain ⟨ad407,e407,hx407_0⟩:=Kd.at_int (Kd.R_reads' HO_104.out).2.2 x106_5 p407 q407
                   cases e407
                   replace p407:=eq_true p407
                   replace q407:=eq_true q407
                   go_wp2_with (first|((with_reducible refine gate_callee (f:=16) rfl ?_);refine goesL_ (some 111) rfl rfl Try.func16 (by kernel_rfl) rfl #[.int .i64 (rd y404 x106_5),.int .i64 0,.int .i64 180] rfl (by (try simp only [List.map_toArray,List.map_cons,List.map_nil]);first|done|rfl|(simp only [List.length_drop,List.length_take];rfl)) ?_;(with_reducible refine (impl_InRange.calls (rd y404 x106_5) 0 180 false _ A83.out).mono ?_);rintro e w' ⟨rfl,⟨nd,rfl⟩⟩;refine ⟨_,rfl,?_⟩))
                   go_ret
                   exact ⟨by first|rfl|(simp [errW_none,errW_some] <;> rfl)|(simp [*,errW_none,errW_some] <;> rfl),by repeat (first|(with_reducible first|exact HB.out|apply below_alloc|apply pw_below_drewN|apply below_drew1|refine below_set ?_ GE389.out)|exact HB.out)⟩
                 ·rw [if_neg c82] at H
                  exact absurd H (by simp)
                ·rw [if_neg c81] at H
                 exact absurd H (by simp)
               ·rw [if_neg c80] at H
                have c80b0 : decide (x106_5 < (y404.length : Int)) = false:=decide_eq_false c80
                clear c80
                replace H:=Option.bind_eq_some_iff.mp H
                obtain ⟨t409,A850,H⟩:=H
                replace H : (if t409 = true then ((impl_InRange.f a0_9 0 20).bind fun t410 => (some t410)) else (some false)) = some r:=H
                have A85:=Aside0.mk A850
                clear A850
                by_cases c86 : t409 = true
                ·subst c86
                 have H1 : ((impl_InRange.f a0_9 0 20).bind fun t410 => (some t410)) = some r:=by rw [if_pos rfl] at H;exact H
                 clear H
                 have H:=H1
                 clear H1
                 replace H:=Option.bind_eq_some_iff.mp H
                 obtain ⟨t410,A870,H⟩:=H
                 replace H : (some t410) = some r:=H
                 have A87:=Aside0.mk A870
                 clear A870
                 obtain rfl:=Option.some.inj H
                 have hcz88_0 : wr.cell? ⟨gb389,0,none⟩ = some (.int .i64 a0_0):=(blk_cell BK389.out 0).trans rfl
                 have hcz88_1 : wr.cell? ⟨gb389,1,none⟩ = some (.slice A0_1 l0_1.length c0_1):=(blk_cell BK389.out 1).trans rfl
                 have hcz88_2 : wr.cell? ⟨gb389,2,none⟩ = some (.slice A0_2 l0_2.length c0_2):=(blk_cell BK389.out 2).trans rfl
                 have hcz88_3 : wr.cell? ⟨gb389,3,none⟩ = some (.int .i64 a0_3):=(blk_cell BK389.out 3).trans rfl
                 have hcz88_4 : wr.cell? ⟨gb389,4,none⟩ = some (.int .i64 a0_4):=(blk_cell BK389.out 4).trans rfl
                 have hcz88_5 : wr.cell? ⟨gb389,5,none⟩ = some (.int .i64 a0_5):=(blk_cell BK389.out 5).trans rfl
                 have hcz88_6 : wr.cell? ⟨gb389,6,none⟩ = some (.int .i64 a0_6):=(blk_cell BK389.out 6).trans rfl
                 have hcz88_7 : wr.cell? ⟨gb389,7,none⟩ = some (.int .i64 a0_7):=(blk_cell BK389.out 7).trans rfl
                 have hcz88_8 : wr.cell? ⟨gb389,8,none⟩ = some (.slice A0_8 l0_8.length c0_8):=(blk_cell BK389.out 8).trans rfl
                 have hcz88_9 : wr.cell? ⟨gb389,9,none⟩ = some (.int .i64 a0_9):=(blk_cell BK389.out 9).trans rfl
                 have hfz88_0:=blk_frozen BK389.out 0
                 have hfz88_1:=blk_frozen BK389.out 1
                 have hfz88_2:=blk_frozen BK389.out 2
                 have hfz88_3:=blk_frozen BK389.out 3
                 have hfz88_4:=blk_frozen BK389.out 4
                 have hfz88_5:=blk_frozen BK389.out 5
                 have hfz88_6:=blk_frozen BK389.out 6
                 have hfz88_7:=blk_frozen BK389.out 7
                 have hfz88_8:=blk_frozen BK389.out 8
                 have hfz88_9:=blk_frozen BK389.out 9
                 go_wp2_with (first|((with_reducible refine gate_callee (f:=16) rfl ?_);refine goesL_ (some 116) rfl rfl Try.func16 (by kernel_rfl) rfl #[.int .i64 a0_6,.int .i64 (-60),.int .i64 60] rfl (by (try simp only [List.map_toArray,List.map_cons,List.map_nil]);first|done|rfl|(simp only [List.length_drop,List.length_take];rfl)) ?_;(with_reducible refine (impl_InRange.calls a0_6 (-60) 60 true _ A85.out).mono ?_);rintro e w' ⟨rfl,⟨nd,rfl⟩⟩;refine ⟨_,rfl,?_⟩)|(go_at_call 16;(with_reducible refine (impl_InRange.calls a0_9 0 20 t410 _ A87.out).mono ?_);rintro e w' ⟨rfl,⟨nd,rfl⟩⟩))
                 go_ret
                 exact ⟨by first|rfl|(simp [errW_none,errW_some] <;> rfl)|(simp [*,errW_none,errW_some] <;> rfl),by repeat (first|(with_reducible first|exact HB.out|apply below_alloc|apply pw_below_drewN|apply below_drew1|refine below_set ?_ GE389.out)|exact HB.out)⟩
                ·replace c86:=Bool.eq_false_iff.mpr c86
                 subst c86
                 have H1 : (some false) = some r:=by rw [if_neg (show ¬ (false = true) by decide)] at H;exact H
                 clear H
                 have H:=H1
                 clear H1
                 obtain rfl:=Option.some.inj H
                 have hcz89_0 : wr.cell? ⟨gb389,0,none⟩ = some (.int .i64 a0_0):=(blk_cell BK389.out 0).trans rfl
                 have hcz89_1 : wr.cell? ⟨gb389,1,none⟩ = some (.slice A0_1 l0_1.length c0_1):=(blk_cell BK389.out 1).trans rfl
                 have hcz89_2 : wr.cell? ⟨gb389,2,none⟩ = some (.slice A0_2 l0_2.length c0_2):=(blk_cell BK389.out 2).trans rfl
                 have hcz89_3 : wr.cell? ⟨gb389,3,none⟩ = some (.int .i64 a0_3):=(blk_cell BK389.out 3).trans rfl
                 have hcz89_4 : wr.cell? ⟨gb389,4,none⟩ = some (.int .i64 a0_4):=(blk_cell BK389.out 4).trans rfl
                 have hcz89_5 : wr.cell? ⟨gb389,5,none⟩ = some (.int .i64 a0_5):=(blk_cell BK389.out 5).trans rfl
                 have hcz89_6 : wr.cell? ⟨gb389,6,none⟩ = some (.int .i64 a0_6):=(blk_cell BK389.out 6).trans rfl
                 have hcz89_7 : wr.cell? ⟨gb389,7,none⟩ = some (.int .i64 a0_7):=(blk_cell BK389.out 7).trans rfl
                 have hcz89_8 : wr.cell? ⟨gb389,8,none⟩ = some (.slice A0_8 l0_8.length c0_8):=(blk_cell BK389.out 8).trans rfl
                 have hcz89_9 : wr.cell? ⟨gb389,9,none⟩ = some (.int .i64 a0_9):=(blk_cell BK389.out 9).trans rfl
                 have hfz89_0:=blk_frozen BK389.out 0
                 have hfz89_1:=blk_frozen BK389.out 1
                 have hfz89_2:=blk_frozen BK389.out 2
                 have hfz89_3:=blk_frozen BK389.out 3
                 have hfz89_4:=blk_frozen BK389.out 4
                 have hfz89_5:=blk_frozen BK389.out 5
                 have hfz89_6:=blk_frozen BK389.out 6
                 have hfz89_7:=blk_frozen BK389.out 7
                 have hfz89_8:=blk_frozen BK389.out 8
                 have hfz89_9:=blk_frozen BK389.out 9
                 go_wp2_with (first|((with_reducible refine gate_callee (f:=16) rfl ?_);refine goesL_ (some 116) rfl rfl Try.func16 (by kernel_rfl) rfl #[.int .i64 a0_6,.int .i64 (-60),.int .i64 60] rfl (by (try simp only [List.map_toArray,List.map_cons,List.map_nil]);first|done|rfl|(simp only [List.length_drop,List.length_take];rfl)) ?_;(with_reducible refine (impl_InRange.calls a0_6 (-60) 60 false _ A85.out).mono ?_);rintro e w' ⟨rfl,⟨nd,rfl⟩⟩;refine ⟨_,rfl,?_⟩))
                 go_ret
                 exact ⟨by first|rfl|(simp [errW_none,errW_some] <;> rfl)|(simp [*,errW_none,errW_some] <;> rfl),by repeat (first|(with_reducible first|exact HB.out|apply below_alloc|apply pw_below_drewN|apply below_drew1|refine below_set ?_ GE389.out)|exact HB.out)⟩

end Go.Proofs.Ytpkmgdjhimkiiaa.PFnSkies
