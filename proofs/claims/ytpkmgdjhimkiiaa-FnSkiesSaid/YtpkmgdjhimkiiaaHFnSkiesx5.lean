/- The functions that FnSkies reaches: each Go function with a Lean function of the same answers; conditions: none beyond what each theorem states. Out of the lines of print.sh, mended. -/
import Derived.Test.YtpkmgdjhimkiiaaHFnSkiesx0
import Derived.Test.YtpkmgdjhimkiiaaHFnSkiesx1
import Derived.Test.YtpkmgdjhimkiiaaHFnSkiesx4
namespace Go.Proofs.Ytpkmgdjhimkiiaa.PFnSkies
open Go.RowKit Go.Proofs.YtpkmgdjhimkiiaaW.PrintWords Go.Proofs.YtpkmgdjhimkiiaaW.PrintLast Go.Proofs.YtpkmgdjhimkiiaaW.PrintMore
attribute [local go_sem] max2_int min2_int max_two min_two max_three min_three max_four min_four   -- for this text's walks alone
set_option linter.unusedVariables false
set_option linter.unusedSimpArgs false

/-! ### spec_DrawLimitOf: function 5 -/
def spec_DrawLimitOf.f (k : Nat) (l0 : List Int) : Option (Int × (List (S43)) × (List (S46)) × Int × Int × Int × Int × Int × (List (S50)) × Int × Int × Int):=(spec_l1New.f k l0).bind fun bt329 => ((spec_l7Any.f k bt329.1 bt329.2.1 bt329.2.2).bind fun bt333 => ((spec_l1Below.f bt329.1 bt333.2.2.2.2.2.2.2.2.2.2.1 bt333.2.2.2.2.2.2.2.2.2.2.2 10).bind fun bt352 => ((spec_l1Below.f bt329.1 bt352.2.1 bt352.2.2 10).bind fun bt355 => (some (bt333.1,bt333.2.1,bt333.2.2.1,bt333.2.2.2.1,bt333.2.2.2.2.1,bt333.2.2.2.2.2.1,bt333.2.2.2.2.2.2.1,bt333.2.2.2.2.2.2.2.1,bt333.2.2.2.2.2.2.2.2.1,bt333.2.2.2.2.2.2.2.2.2.1,wrap64 (bt352.1 - 1),wrap64 (bt355.1 - 1))))))
theorem spec_DrawLimitOf.mono : ∀ a0 k,LeO (spec_DrawLimitOf.f k a0) (spec_DrawLimitOf.f (k + 1) a0):=by
 intro a0 k
 unfold spec_DrawLimitOf.f
 repeat' first
   | (with_reducible exact spec_l1New.mono _ _)
   | (with_reducible exact spec_l7Any.mono _ _ _ _)
   | (with_reducible exact LeO.refl _)
   | (with_reducible exact LeO.none _)
   | (with_reducible refine LeO.ite ?_ ?_)
   | (with_reducible refine LeO.bind ?_ (fun _ => ?_))
   | exact spec_l1New.mono _ _
   | exact spec_l7Any.mono _ _ _ _
   | exact LeO.none _
   | refine LeO.ite ?_ ?_
   | refine LeO.bind ?_ (fun _ => ?_)
def spec_DrawLimitOf.T4 : Bool × List (List Nat × List Nat):=(true,[([],[]),([],[]),([],[]),([2],[2]),([3],[3]),([0,3,0],[0]),([1,5,0,1,5],[1]),([4,6,0,1,2,3,4,5,6],[4])])
def spec_DrawLimitOf.B4 : List Nat:=[0,0,0,4,12,13,47,127]
theorem spec_DrawLimitOf.tab4 : rtab .any (opsOf Try.f5 4) = spec_DrawLimitOf.T4:=by kernel_rfl
theorem spec_DrawLimitOf.bits4 : waitsOk spec_DrawLimitOf.T4.2 spec_DrawLimitOf.B4 = true:=by kernel_rfl
set_option maxHeartbeats 8000000 in
set_option maxRecDepth 100000 in
theorem spec_DrawLimitOf.calls (k : Nat) (A0 : Option Addr) (c0 : Nat) (l0 : List Int) (r1 : Int) (r2 : List (S43)) (r3 : List (S46)) (r4 : Int) (r5 : Int) (r6 : Int) (r7 : Int) (r8 : Int) (r9 : List (S50)) (r10 : Int) (r11 : Int) (r12 : Int) (w : World) (hr0 : Kd.C (Kd.int .u8) w A0 l0.length l0) (hc0 : l0.length ≤ c0) (h : spec_DrawLimitOf.f k l0 = some (r1,r2,r3,r4,r5,r6,r7,r8,r9,r10,r11,r12)) :
  Calls Try.prog 5 #[.slice A0 l0.length c0] w fun e w' => ∃ v1_ v2_ v8_ : Value,e = .returned (.tuple #[.agg #[.int .i64 r1,v1_,v2_,.int .i64 r4,.int .i64 r5,.int .i64 r6,.int .i64 r7,.int .i64 r8,v8_,.int .i64 r10],.int .i64 r11,.int .i64 r12]) ∧ Kd.R k43 43 w' w.heap.size (fun _ => True) v1_ r2 ∧ Kd.R k46 46 w' w.heap.size (fun _ => True) v2_ r3 ∧ Kd.R k50 50 w' w.heap.size (fun _ => True) v8_ r9 ∧ Below w.heap.size w w':=by
 have hu28:=Try.underlying28
 have HR0:=Aside0.mk hr0
 have HC0:=Aside0.mk hc0
 clear hr0 hc0
 have HB:=Aside0.mk (Below.refl w.heap.size w)
 have H : ((spec_l1New.f k l0).bind fun bt329 => ((spec_l7Any.f k bt329.1 bt329.2.1 bt329.2.2).bind fun bt333 => ((spec_l1Below.f bt329.1 bt333.2.2.2.2.2.2.2.2.2.2.1 bt333.2.2.2.2.2.2.2.2.2.2.2 10).bind fun bt352 => ((spec_l1Below.f bt329.1 bt352.2.1 bt352.2.2 10).bind fun bt355 => (some (bt333.1,bt333.2.1,bt333.2.2.1,bt333.2.2.2.1,bt333.2.2.2.2.1,bt333.2.2.2.2.2.1,bt333.2.2.2.2.2.2.1,bt333.2.2.2.2.2.2.2.1,bt333.2.2.2.2.2.2.2.2.1,bt333.2.2.2.2.2.2.2.2.2.1,wrap64 (bt352.1 - 1),wrap64 (bt355.1 - 1))))))) = some (r1,r2,r3,r4,r5,r6,r7,r8,r9,r10,r11,r12):=h
 clear h
 replace H:=Option.bind_eq_some_iff.mp H
 obtain ⟨⟨t329,t330,t331⟩,A20,H⟩:=H
 replace H : ((spec_l7Any.f k t329 t330 t331).bind fun bt333 => ((spec_l1Below.f t329 bt333.2.2.2.2.2.2.2.2.2.2.1 bt333.2.2.2.2.2.2.2.2.2.2.2 10).bind fun bt352 => ((spec_l1Below.f t329 bt352.2.1 bt352.2.2 10).bind fun bt355 => (some (bt333.1,bt333.2.1,bt333.2.2.1,bt333.2.2.2.1,bt333.2.2.2.2.1,bt333.2.2.2.2.2.1,bt333.2.2.2.2.2.2.1,bt333.2.2.2.2.2.2.2.1,bt333.2.2.2.2.2.2.2.2.1,bt333.2.2.2.2.2.2.2.2.2.1,wrap64 (bt352.1 - 1),wrap64 (bt355.1 - 1)))))) = some (r1,r2,r3,r4,r5,r6,r7,r8,r9,r10,r11,r12):=H
 have A2:=Aside0.mk A20
 clear A20
 replace H:=Option.bind_eq_some_iff.mp H
 obtain ⟨⟨t333,t334,t337,t340,t341,t342,t343,t344,t345,t348,t349,t350⟩,A30,H⟩:=H
 replace H : ((spec_l1Below.f t329 t349 t350 10).bind fun bt352 => ((spec_l1Below.f t329 bt352.2.1 bt352.2.2 10).bind fun bt355 => (some (t333,t334,t337,t340,t341,t342,t343,t344,t345,t348,wrap64 (bt352.1 - 1),wrap64 (bt355.1 - 1))))) = some (r1,r2,r3,r4,r5,r6,r7,r8,r9,r10,r11,r12):=H
 have A3:=Aside0.mk A30
 clear A30
 replace H:=Option.bind_eq_some_iff.mp H
 obtain ⟨⟨t352,t353,t354⟩,A40,H⟩:=H
 replace H : ((spec_l1Below.f t329 t353 t354 10).bind fun bt355 => (some (t333,t334,t337,t340,t341,t342,t343,t344,t345,t348,wrap64 (t352 - 1),wrap64 (bt355.1 - 1)))) = some (r1,r2,r3,r4,r5,r6,r7,r8,r9,r10,r11,r12):=H
 have A4:=Aside0.mk A40
 clear A40
 replace H:=Option.bind_eq_some_iff.mp H
 obtain ⟨⟨t355,t356,t357⟩,A50,H⟩:=H
 replace H : (some (t333,t334,t337,t340,t341,t342,t343,t344,t345,t348,wrap64 (t352 - 1),wrap64 (t355 - 1))) = some (r1,r2,r3,r4,r5,r6,r7,r8,r9,r10,r11,r12):=H
 have A5:=Aside0.mk A50
 clear A50
 simp only [Option.some.injEq,Prod.mk.injEq] at H
 obtain ⟨rfl,rfl,rfl,rfl,rfl,rfl,rfl,rfl,rfl,rfl,rfl,rfl⟩:=H
 go_enter Try.func5,Try.ntmps5
 try go_wp2_with (first|((with_reducible refine gate_dst (N:=2) rfl ?_);refine box_event ?hg (N:=2) ?hd (cs:=#[.int .i64 0,.slice none 0 0,.slice none 0 0,.int .i64 0,.int .i64 0,.int .i64 0,.int .i64 0,.int .i64 0,.slice none 0 0,.int .i64 0]) (t:=28) ?hr ?_;(case hd => rfl);(case hg => rfl);(case hr => first|(go_simp;done)|(go_simp;rfl));intro gb328 hg w6 hbox hb;have BK328:=Aside0.mk (hbox);have GE328:=Aside0.mk ((by rw [hg];exact (below_size (by repeat (first|(with_reducible first|exact HB.out|apply below_alloc|apply pw_below_drewN|apply below_drew1)|exact HB.out))) : w.heap.size ≤ gb328));replace HB:=Aside0.mk (below_step (by repeat (first|(with_reducible first|exact HB.out|apply below_alloc|apply pw_below_drewN|apply below_drew1)|exact HB.out)) hb);clear hb hbox hg)|((with_reducible refine gate_callee (f:=11) rfl ?_);refine goesL_ (some 9) rfl rfl Try.func11 (by kernel_rfl) rfl #[.slice A0 l0.length c0] rfl (by (try simp only [List.map_toArray,List.map_cons,List.map_nil]);first|done|rfl|(simp only [List.length_drop,List.length_take];rfl)) ?_;(with_reducible refine (spec_l1New.calls k _ _ l0 t329 t330 t331 w _ ?side1 ?side2 ?side3 A2.out).mono ?_);(case side1 => repeat (first|(with_reducible first|exact HB.out|apply below_alloc|apply pw_below_drewN|apply below_drew1|refine below_set ?_ GE328.out)|exact HB.out));(case side2 => exact HR0.out);(case side3 => exact HC0.out);rintro e w7 ⟨g332,rfl,hi,hb,hb2⟩;refine ⟨_,rfl,?_⟩;replace HB:=Aside0.mk (hb);have HI332:=Aside0.mk (hi);have NB332_328:=Aside0.mk (IsS54.ne_blk hi (blk_below (g:=gb328) (o:=.cells #[.int .i64 0,.slice none 0 0,.slice none 0 0,.int .i64 0,.int .i64 0,.int .i64 0,.int .i64 0,.int .i64 0,.slice none 0 0,.int .i64 0] 28 (0,0)) (by (with_reducible repeat (first|refine blk_drewN ?_ _|refine blk_drew ?_|refine blk_alloc ?_ _));exact BK328.out) hb2) (by decide));have NB328_332:=Aside0.mk (Ne.symm (IsS54.ne_blk hi (blk_below (g:=gb328) (o:=.cells #[.int .i64 0,.slice none 0 0,.slice none 0 0,.int .i64 0,.int .i64 0,.int .i64 0,.int .i64 0,.int .i64 0,.slice none 0 0,.int .i64 0] 28 (0,0)) (by (with_reducible repeat (first|refine blk_drewN ?_ _|refine blk_drew ?_|refine blk_alloc ?_ _));exact BK328.out) hb2) (by decide)));replace BK328:=Aside0.mk (blk_below (g:=gb328) (o:=.cells #[.int .i64 0,.slice none 0 0,.slice none 0 0,.int .i64 0,.int .i64 0,.int .i64 0,.int .i64 0,.int .i64 0,.slice none 0 0,.int .i64 0] 28 (0,0)) (by (with_reducible repeat (first|refine blk_drewN ?_ _|refine blk_drew ?_|refine blk_alloc ?_ _));exact BK328.out) hb2);(try clear hb);(try clear hb2);(try clear hk);(try clear hi))|((with_reducible refine gate_callee (f:=12) rfl ?_);refine goesL_ (some 11) rfl rfl Try.func12 (by kernel_rfl) rfl #[.pointer (some ⟨g332,0,none⟩)] rfl (by (try simp only [List.map_toArray,List.map_cons,List.map_nil]);first|done|rfl|(simp only [List.length_drop,List.length_take];rfl)) ?_;(with_reducible refine (spec_l7Any.calls k g332 t329 t330 t331 t333 t334 t337 t340 t341 t342 t343 t344 t345 t348 t349 t350 w _ ?side1 ?side2 A3.out).mono ?_);(case side1 => repeat (first|(with_reducible first|exact HI332.out|apply IsS54.alloc|apply IsS54.drewN|apply IsS54.drew|apply IsS54.set_1|apply IsS54.set_2|refine IsS54.far ?_ NB332_328.out _)|exact HI332.out));(case side2 => repeat (first|(with_reducible first|exact HB.out|apply below_alloc|apply pw_below_drewN|apply below_drew1|refine below_set ?_ (IsS54.ge HI332.out)|refine below_set ?_ GE328.out)|exact HB.out));rintro e w8 ⟨v335,v338,v346,rfl,ho0,ho1,ho2,hi,hb,hk⟩;refine ⟨_,rfl,?_⟩;replace BK328:=Aside0.mk (KeepBut.blk hk (g':=gb328) (o:=.cells #[.int .i64 0,.slice none 0 0,.slice none 0 0,.int .i64 0,.int .i64 0,.int .i64 0,.int .i64 0,.int .i64 0,.slice none 0 0,.int .i64 0] 28 (0,0)) (by (with_reducible repeat (first|refine blk_drewN ?_ _|refine blk_drew ?_|refine blk_alloc ?_ _));exact BK328.out) NB328_332.out (by simp));have HO336:=Aside0.mk (Kd.R_lower ho0 (below_size (by repeat (first|(with_reducible first|exact HB.out|apply below_alloc|apply pw_below_drewN|apply below_drew1|refine below_set ?_ (IsS54.ge HI332.out)|refine below_set ?_ GE328.out)|exact HB.out))));have HO339:=Aside0.mk (Kd.R_lower ho1 (below_size (by repeat (first|(with_reducible first|exact HB.out|apply below_alloc|apply pw_below_drewN|apply below_drew1|refine below_set ?_ (IsS54.ge HI332.out)|refine below_set ?_ GE328.out)|exact HB.out))));have HO347:=Aside0.mk (Kd.R_lower ho2 (below_size (by repeat (first|(with_reducible first|exact HB.out|apply below_alloc|apply pw_below_drewN|apply below_drew1|refine below_set ?_ (IsS54.ge HI332.out)|refine below_set ?_ GE328.out)|exact HB.out))));replace HB:=Aside0.mk (hb);replace HI332:=Aside0.mk (hi);(try clear hb);(try clear hb2);(try clear hk);(try clear hi);(try clear ho0);(try clear ho1);(try clear ho2))|((with_reducible refine gate_dst (N:=6) rfl ?_);refine box_event ?hg (N:=6) ?hd (cs:=#[.int .i64 0,.slice none 0 0,.slice none 0 0,.int .i64 0,.int .i64 0,.int .i64 0,.int .i64 0,.int .i64 0,.slice none 0 0,.int .i64 0]) (t:=28) ?hr ?_;(case hd => rfl);(case hg => rfl);(case hr => first|(go_simp;done)|(go_simp;rfl));intro gb351 hg w9 hbox hb;replace HO336:=Aside0.mk (Kd.R_below (by (with_reducible repeat (first|apply Kd.R_alloc|apply Kd.R_drewN|apply Kd.R_drew));exact HO336.out) hb);replace HO339:=Aside0.mk (Kd.R_below (by (with_reducible repeat (first|apply Kd.R_alloc|apply Kd.R_drewN|apply Kd.R_drew));exact HO339.out) hb);replace HO347:=Aside0.mk (Kd.R_below (by (with_reducible repeat (first|apply Kd.R_alloc|apply Kd.R_drewN|apply Kd.R_drew));exact HO347.out) hb);have BK351:=Aside0.mk (hbox);have GE351:=Aside0.mk ((by rw [hg];exact (below_size (by repeat (first|(with_reducible first|exact HB.out|apply below_alloc|apply pw_below_drewN|apply below_drew1|refine below_set ?_ (IsS54.ge HI332.out)|refine below_set ?_ GE328.out)|exact HB.out))) : w.heap.size ≤ gb351));replace HB:=Aside0.mk (below_step (by repeat (first|(with_reducible first|exact HB.out|apply below_alloc|apply pw_below_drewN|apply below_drew1|refine below_set ?_ (IsS54.ge HI332.out)|refine below_set ?_ GE328.out)|exact HB.out)) hb);have NB328_351:=Aside0.mk ((by rw [hg];exact Nat.ne_of_lt (blk_lt (g:=gb328) (o:=.cells #[.int .i64 0,.slice none 0 0,.slice none 0 0,.int .i64 0,.int .i64 0,.int .i64 0,.int .i64 0,.int .i64 0,.slice none 0 0,.int .i64 0] 28 (0,0)) (by (with_reducible repeat (first|refine blk_drewN ?_ _|refine blk_drew ?_|refine blk_alloc ?_ _));exact BK328.out)) : gb328 ≠ gb351));replace BK328:=Aside0.mk (blk_below (g:=gb328) (o:=.cells #[.int .i64 0,.slice none 0 0,.slice none 0 0,.int .i64 0,.int .i64 0,.int .i64 0,.int .i64 0,.int .i64 0,.slice none 0 0,.int .i64 0] 28 (0,0)) (by (with_reducible repeat (first|refine blk_drewN ?_ _|refine blk_drew ?_|refine blk_alloc ?_ _));exact BK328.out) hb);have NB351_328:=Aside0.mk (Ne.symm NB328_351.out);have NB332_351:=Aside0.mk ((by rw [hg];exact Nat.ne_of_lt (IsS54.lt (show IsS54 w _ g332 t329 t349 t350 from by repeat (first|(with_reducible first|exact HI332.out|apply IsS54.alloc|apply IsS54.drewN|apply IsS54.drew|apply IsS54.set_1|apply IsS54.set_2|refine IsS54.far ?_ NB332_328.out _)|exact HI332.out))) : g332 ≠ gb351));replace HI332:=Aside0.mk (IsS54.below (by repeat (first|(with_reducible first|exact HI332.out|apply IsS54.alloc|apply IsS54.drewN|apply IsS54.drew|apply IsS54.set_1|apply IsS54.set_2|refine IsS54.far ?_ NB332_328.out _)|exact HI332.out)) hb);have NB351_332:=Aside0.mk (Ne.symm NB332_351.out);clear hb hbox hg;have hnb10:=NB351_328.out;have hnc10:=NB328_351.out;have hnb11:=NB351_332.out;have hnc11:=NB332_351.out;have hcz12_0 : w9.cell? ⟨gb351,0,none⟩ = some (.int .i64 0):=(blk_cell BK351.out 0).trans rfl;have hcz12_1 : w9.cell? ⟨gb351,1,none⟩ = some (.slice none 0 0):=(blk_cell BK351.out 1).trans rfl;have hcz12_2 : w9.cell? ⟨gb351,2,none⟩ = some (.slice none 0 0):=(blk_cell BK351.out 2).trans rfl;have hcz12_3 : w9.cell? ⟨gb351,3,none⟩ = some (.int .i64 0):=(blk_cell BK351.out 3).trans rfl;have hcz12_4 : w9.cell? ⟨gb351,4,none⟩ = some (.int .i64 0):=(blk_cell BK351.out 4).trans rfl;have hcz12_5 : w9.cell? ⟨gb351,5,none⟩ = some (.int .i64 0):=(blk_cell BK351.out 5).trans rfl;have hcz12_6 : w9.cell? ⟨gb351,6,none⟩ = some (.int .i64 0):=(blk_cell BK351.out 6).trans rfl;have hcz12_7 : w9.cell? ⟨gb351,7,none⟩ = some (.int .i64 0):=(blk_cell BK351.out 7).trans rfl;have hcz12_8 : w9.cell? ⟨gb351,8,none⟩ = some (.slice none 0 0):=(blk_cell BK351.out 8).trans rfl;have hcz12_9 : w9.cell? ⟨gb351,9,none⟩ = some (.int .i64 0):=(blk_cell BK351.out 9).trans rfl;have hfz12_0:=blk_frozen BK351.out 0;have hfz12_1:=blk_frozen BK351.out 1;have hfz12_2:=blk_frozen BK351.out 2;have hfz12_3:=blk_frozen BK351.out 3;have hfz12_4:=blk_frozen BK351.out 4;have hfz12_5:=blk_frozen BK351.out 5;have hfz12_6:=blk_frozen BK351.out 6;have hfz12_7:=blk_frozen BK351.out 7;have hfz12_8:=blk_frozen BK351.out 8;have hfz12_9:=blk_frozen BK351.out 9;obtain ⟨Ao13,co13,eo13⟩:=Kd.R_slice HO336.out;subst eo13;obtain ⟨Ao14,co14,eo14⟩:=Kd.R_slice HO339.out;subst eo14;obtain ⟨Ao15,co15,eo15⟩:=Kd.R_slice HO347.out;subst eo15)|((with_reducible refine gate_callee (f:=13) rfl ?_);refine goesL_ (some 13) rfl rfl Try.func13 (by kernel_rfl) rfl #[.pointer (some ⟨g332,0,none⟩),.int .i64 10] rfl (by (try simp only [List.map_toArray,List.map_cons,List.map_nil]);first|done|rfl|(simp only [List.length_drop,List.length_take];rfl)) ?_;(with_reducible refine (spec_l1Below.calls g332 t329 t349 t350 10 t352 t353 t354 w _ ?side1 ?side2 A4.out).mono ?_);(case side1 => repeat (first|(with_reducible first|exact HI332.out|apply IsS54.alloc|apply IsS54.drewN|apply IsS54.drew|apply IsS54.set_1|apply IsS54.set_2|refine IsS54.far ?_ NB332_328.out _|refine IsS54.far ?_ NB332_351.out _)|exact HI332.out));(case side2 => repeat (first|(with_reducible first|exact HB.out|apply below_alloc|apply pw_below_drewN|apply below_drew1|refine below_set ?_ (IsS54.ge HI332.out)|refine below_set ?_ GE328.out|refine below_set ?_ GE351.out)|exact HB.out));rintro e w16 ⟨rfl,hi,hb,hk⟩;refine ⟨_,rfl,?_⟩;replace BK328:=Aside0.mk (KeepBut.blk hk (g':=gb328) (o:=.cells #[.int .i64 0,.slice none 0 0,.slice none 0 0,.int .i64 0,.int .i64 0,.int .i64 0,.int .i64 0,.int .i64 0,.slice none 0 0,.int .i64 0] 28 (0,0)) (by (with_reducible repeat (first|refine blk_drewN ?_ _|refine blk_drew ?_|refine blk_alloc ?_ _));refine blk_far ?_ NB328_351.out _;(with_reducible repeat (first|refine blk_drewN ?_ _|refine blk_drew ?_|refine blk_alloc ?_ _));refine blk_far ?_ NB328_351.out _;(with_reducible repeat (first|refine blk_drewN ?_ _|refine blk_drew ?_|refine blk_alloc ?_ _));refine blk_far ?_ NB328_351.out _;(with_reducible repeat (first|refine blk_drewN ?_ _|refine blk_drew ?_|refine blk_alloc ?_ _));refine blk_far ?_ NB328_351.out _;(with_reducible repeat (first|refine blk_drewN ?_ _|refine blk_drew ?_|refine blk_alloc ?_ _));refine blk_far ?_ NB328_351.out _;(with_reducible repeat (first|refine blk_drewN ?_ _|refine blk_drew ?_|refine blk_alloc ?_ _));refine blk_far ?_ NB328_351.out _;(with_reducible repeat (first|refine blk_drewN ?_ _|refine blk_drew ?_|refine blk_alloc ?_ _));refine blk_far ?_ NB328_351.out _;(with_reducible repeat (first|refine blk_drewN ?_ _|refine blk_drew ?_|refine blk_alloc ?_ _));refine blk_far ?_ NB328_351.out _;(with_reducible repeat (first|refine blk_drewN ?_ _|refine blk_drew ?_|refine blk_alloc ?_ _));refine blk_far ?_ NB328_351.out _;(with_reducible repeat (first|refine blk_drewN ?_ _|refine blk_drew ?_|refine blk_alloc ?_ _));refine blk_far ?_ NB328_351.out _;(with_reducible repeat (first|refine blk_drewN ?_ _|refine blk_drew ?_|refine blk_alloc ?_ _));exact BK328.out) NB328_332.out (by simp));replace HO336:=Aside0.mk (Kd.R_mono (Kd.R_keep (IsS54.apart (show IsS54 w _ g332 t329 t349 t350 from by repeat (first|(with_reducible first|exact HI332.out|apply IsS54.alloc|apply IsS54.drewN|apply IsS54.drew|apply IsS54.set_1|apply IsS54.set_2|refine IsS54.far ?_ NB332_328.out _|refine IsS54.far ?_ NB332_351.out _)|exact HI332.out)) (by (with_reducible repeat (first|apply Kd.R_alloc|apply Kd.R_drewN|apply Kd.R_drew));exact (Kd.R_mono (Kd.R_far (p:=⟨gb351,9,none⟩) (Kd.R_far (p:=⟨gb351,8,none⟩) (Kd.R_far (p:=⟨gb351,7,none⟩) (Kd.R_far (p:=⟨gb351,6,none⟩) (Kd.R_far (p:=⟨gb351,5,none⟩) (Kd.R_far (p:=⟨gb351,4,none⟩) (Kd.R_far (p:=⟨gb351,3,none⟩) (Kd.R_far (p:=⟨gb351,2,none⟩) (Kd.R_far (p:=⟨gb351,1,none⟩) (Kd.R_far (p:=⟨gb351,0,none⟩) (Kd.R_types HO336.out BK351.out (by decide)) (fun _ hk => hk.2) (.int .i64 t333)) (fun _ hk => hk.2) (.slice Ao13 t334.length co13)) (fun _ hk => hk.2) (.slice Ao14 t337.length co14)) (fun _ hk => hk.2) (.int .i64 t340)) (fun _ hk => hk.2) (.int .i64 t341)) (fun _ hk => hk.2) (.int .i64 t342)) (fun _ hk => hk.2) (.int .i64 t343)) (fun _ hk => hk.2) (.int .i64 t344)) (fun _ hk => hk.2) (.slice Ao15 t345.length co15)) (fun _ hk => hk.2) (.int .i64 t348)) (fun _ h_ => h_.1))) (by decide)) hk (fun _ h => h.2)) (fun _ h => h.1));replace HO339:=Aside0.mk (Kd.R_mono (Kd.R_keep (IsS54.apart (show IsS54 w _ g332 t329 t349 t350 from by repeat (first|(with_reducible first|exact HI332.out|apply IsS54.alloc|apply IsS54.drewN|apply IsS54.drew|apply IsS54.set_1|apply IsS54.set_2|refine IsS54.far ?_ NB332_328.out _|refine IsS54.far ?_ NB332_351.out _)|exact HI332.out)) (by (with_reducible repeat (first|apply Kd.R_alloc|apply Kd.R_drewN|apply Kd.R_drew));exact (Kd.R_mono (Kd.R_far (p:=⟨gb351,9,none⟩) (Kd.R_far (p:=⟨gb351,8,none⟩) (Kd.R_far (p:=⟨gb351,7,none⟩) (Kd.R_far (p:=⟨gb351,6,none⟩) (Kd.R_far (p:=⟨gb351,5,none⟩) (Kd.R_far (p:=⟨gb351,4,none⟩) (Kd.R_far (p:=⟨gb351,3,none⟩) (Kd.R_far (p:=⟨gb351,2,none⟩) (Kd.R_far (p:=⟨gb351,1,none⟩) (Kd.R_far (p:=⟨gb351,0,none⟩) (Kd.R_types HO339.out BK351.out (by decide)) (fun _ hk => hk.2) (.int .i64 t333)) (fun _ hk => hk.2) (.slice Ao13 t334.length co13)) (fun _ hk => hk.2) (.slice Ao14 t337.length co14)) (fun _ hk => hk.2) (.int .i64 t340)) (fun _ hk => hk.2) (.int .i64 t341)) (fun _ hk => hk.2) (.int .i64 t342)) (fun _ hk => hk.2) (.int .i64 t343)) (fun _ hk => hk.2) (.int .i64 t344)) (fun _ hk => hk.2) (.slice Ao15 t345.length co15)) (fun _ hk => hk.2) (.int .i64 t348)) (fun _ h_ => h_.1))) (by decide)) hk (fun _ h => h.2)) (fun _ h => h.1));replace HO347:=Aside0.mk (Kd.R_mono (Kd.R_keep (IsS54.apart (show IsS54 w _ g332 t329 t349 t350 from by repeat (first|(with_reducible first|exact HI332.out|apply IsS54.alloc|apply IsS54.drewN|apply IsS54.drew|apply IsS54.set_1|apply IsS54.set_2|refine IsS54.far ?_ NB332_328.out _|refine IsS54.far ?_ NB332_351.out _)|exact HI332.out)) (by (with_reducible repeat (first|apply Kd.R_alloc|apply Kd.R_drewN|apply Kd.R_drew));exact (Kd.R_mono (Kd.R_far (p:=⟨gb351,9,none⟩) (Kd.R_far (p:=⟨gb351,8,none⟩) (Kd.R_far (p:=⟨gb351,7,none⟩) (Kd.R_far (p:=⟨gb351,6,none⟩) (Kd.R_far (p:=⟨gb351,5,none⟩) (Kd.R_far (p:=⟨gb351,4,none⟩) (Kd.R_far (p:=⟨gb351,3,none⟩) (Kd.R_far (p:=⟨gb351,2,none⟩) (Kd.R_far (p:=⟨gb351,1,none⟩) (Kd.R_far (p:=⟨gb351,0,none⟩) (Kd.R_types HO347.out BK351.out (by decide)) (fun _ hk => hk.2) (.int .i64 t333)) (fun _ hk => hk.2) (.slice Ao13 t334.length co13)) (fun _ hk => hk.2) (.slice Ao14 t337.length co14)) (fun _ hk => hk.2) (.int .i64 t340)) (fun _ hk => hk.2) (.int .i64 t341)) (fun _ hk => hk.2) (.int .i64 t342)) (fun _ hk => hk.2) (.int .i64 t343)) (fun _ hk => hk.2) (.int .i64 t344)) (fun _ hk => hk.2) (.slice Ao15 t345.length co15)) (fun _ hk => hk.2) (.int .i64 t348)) (fun _ h_ => h_.1))) (by decide)) hk (fun _ h => h.2)) (fun _ h => h.1));replace BK351:=Aside0.mk (KeepBut.blk hk (g':=gb351) (o:=.cells #[.int .i64 t333,.slice Ao13 t334.length co13,.slice Ao14 t337.length co14,.int .i64 t340,.int .i64 t341,.int .i64 t342,.int .i64 t343,.int .i64 t344,.slice Ao15 t345.length co15,.int .i64 t348] 28 (0,0)) (by (with_reducible repeat (first|refine blk_drewN ?_ _|refine blk_drew ?_|refine blk_alloc ?_ _));refine blk_put (cs:=#[.int .i64 t333,.slice Ao13 t334.length co13,.slice Ao14 t337.length co14,.int .i64 t340,.int .i64 t341,.int .i64 t342,.int .i64 t343,.int .i64 t344,.slice Ao15 t345.length co15,.int .i64 0]) ?_ 9 _ rfl;(with_reducible repeat (first|refine blk_drewN ?_ _|refine blk_drew ?_|refine blk_alloc ?_ _));refine blk_put (cs:=#[.int .i64 t333,.slice Ao13 t334.length co13,.slice Ao14 t337.length co14,.int .i64 t340,.int .i64 t341,.int .i64 t342,.int .i64 t343,.int .i64 t344,.slice none 0 0,.int .i64 0]) ?_ 8 _ rfl;(with_reducible repeat (first|refine blk_drewN ?_ _|refine blk_drew ?_|refine blk_alloc ?_ _));refine blk_put (cs:=#[.int .i64 t333,.slice Ao13 t334.length co13,.slice Ao14 t337.length co14,.int .i64 t340,.int .i64 t341,.int .i64 t342,.int .i64 t343,.int .i64 0,.slice none 0 0,.int .i64 0]) ?_ 7 _ rfl;(with_reducible repeat (first|refine blk_drewN ?_ _|refine blk_drew ?_|refine blk_alloc ?_ _));refine blk_put (cs:=#[.int .i64 t333,.slice Ao13 t334.length co13,.slice Ao14 t337.length co14,.int .i64 t340,.int .i64 t341,.int .i64 t342,.int .i64 0,.int .i64 0,.slice none 0 0,.int .i64 0]) ?_ 6 _ rfl;(with_reducible repeat (first|refine blk_drewN ?_ _|refine blk_drew ?_|refine blk_alloc ?_ _));refine blk_put (cs:=#[.int .i64 t333,.slice Ao13 t334.length co13,.slice Ao14 t337.length co14,.int .i64 t340,.int .i64 t341,.int .i64 0,.int .i64 0,.int .i64 0,.slice none 0 0,.int .i64 0]) ?_ 5 _ rfl;(with_reducible repeat (first|refine blk_drewN ?_ _|refine blk_drew ?_|refine blk_alloc ?_ _));refine blk_put (cs:=#[.int .i64 t333,.slice Ao13 t334.length co13,.slice Ao14 t337.length co14,.int .i64 t340,.int .i64 0,.int .i64 0,.int .i64 0,.int .i64 0,.slice none 0 0,.int .i64 0]) ?_ 4 _ rfl;(with_reducible repeat (first|refine blk_drewN ?_ _|refine blk_drew ?_|refine blk_alloc ?_ _));refine blk_put (cs:=#[.int .i64 t333,.slice Ao13 t334.length co13,.slice Ao14 t337.length co14,.int .i64 0,.int .i64 0,.int .i64 0,.int .i64 0,.int .i64 0,.slice none 0 0,.int .i64 0]) ?_ 3 _ rfl;(with_reducible repeat (first|refine blk_drewN ?_ _|refine blk_drew ?_|refine blk_alloc ?_ _));refine blk_put (cs:=#[.int .i64 t333,.slice Ao13 t334.length co13,.slice none 0 0,.int .i64 0,.int .i64 0,.int .i64 0,.int .i64 0,.int .i64 0,.slice none 0 0,.int .i64 0]) ?_ 2 _ rfl;(with_reducible repeat (first|refine blk_drewN ?_ _|refine blk_drew ?_|refine blk_alloc ?_ _));refine blk_put (cs:=#[.int .i64 t333,.slice none 0 0,.slice none 0 0,.int .i64 0,.int .i64 0,.int .i64 0,.int .i64 0,.int .i64 0,.slice none 0 0,.int .i64 0]) ?_ 1 _ rfl;(with_reducible repeat (first|refine blk_drewN ?_ _|refine blk_drew ?_|refine blk_alloc ?_ _));refine blk_put (cs:=#[.int .i64 0,.slice none 0 0,.slice none 0 0,.int .i64 0,.int .i64 0,.int .i64 0,.int .i64 0,.int .i64 0,.slice none 0 0,.int .i64 0]) ?_ 0 _ rfl;(with_reducible repeat (first|refine blk_drewN ?_ _|refine blk_drew ?_|refine blk_alloc ?_ _));exact BK351.out) NB351_332.out (by simp));replace HB:=Aside0.mk (hb);replace HI332:=Aside0.mk (hi);(try clear hb);(try clear hb2);(try clear hk);(try clear hi)))
 replace HO336:=Aside0.mk (Kd.R_drew HO336.out)
 replace HO339:=Aside0.mk (Kd.R_drew HO339.out)
 replace HO347:=Aside0.mk (Kd.R_drew HO347.out)
 replace BK328:=Aside0.mk (blk_drew BK328.out)
 replace BK351:=Aside0.mk (blk_drew BK351.out)
 replace HI332:=Aside0.mk (IsS54.drew HI332.out)
 replace HB:=Aside0.mk (below_drew1 HB.out)
 refine start_ (n:=8) (S:=fun w' => w'.cell? ⟨gb351,0,none⟩ = some (.int .i64 t333) ∧ w'.cell? ⟨gb351,1,none⟩ = some (.slice Ao13 t334.length co13) ∧ w'.cell? ⟨gb351,2,none⟩ = some (.slice Ao14 t337.length co14) ∧ w'.cell? ⟨gb351,3,none⟩ = some (.int .i64 t340) ∧ w'.cell? ⟨gb351,4,none⟩ = some (.int .i64 t341) ∧ w'.cell? ⟨gb351,5,none⟩ = some (.int .i64 t342) ∧ w'.cell? ⟨gb351,6,none⟩ = some (.int .i64 t343) ∧ w'.cell? ⟨gb351,7,none⟩ = some (.int .i64 t344) ∧ w'.cell? ⟨gb351,8,none⟩ = some (.slice Ao15 t345.length co15) ∧ w'.cell? ⟨gb351,9,none⟩ = some (.int .i64 t348)) (ds:=[]) #[false,false,false,false,false,false,false,false] (by kernel_rfl) rfl rfl ⟨(blk_cell BK351.out 0).trans rfl,(blk_cell BK351.out 1).trans rfl,(blk_cell BK351.out 2).trans rfl,(blk_cell BK351.out 3).trans rfl,(blk_cell BK351.out 4).trans rfl,(blk_cell BK351.out 5).trans rfl,(blk_cell BK351.out 6).trans rfl,(blk_cell BK351.out 7).trans rfl,(blk_cell BK351.out 8).trans rfl,(blk_cell BK351.out 9).trans rfl⟩ (fun hHeld => ?_);refine with_tabW spec_DrawLimitOf.tab4 spec_DrawLimitOf.bits4 (fun HT_ HW_ => ?_)
 generalize w16.drew = w17 at HO336 HO339 HO347 BK328 BK351 HI332 HB hHeld ⊢
 refine pure_ (i:=1) (N:=some 16) (v:=?_) (a':=?_) #[false,true,false,false,false,false,false,false] rfl rfl (any_of HT_.out (by kernel_rfl)) (fun _ _ _ h => h) (Or.inl ⟨by rfl,?_⟩) ?_ ?_
 rotate_left
 ·intro w'
  go_simp
  with_reducible rfl
 rotate_left
 ·simp only [Act.put,List.setIfInBounds_toArray,List.set_cons_zero,List.set_cons_succ,i64_w,i32_w]
  rfl
 refine pure_ (i:=2) (N:=some 17) (v:=?_) (a':=?_) #[false,true,true,false,false,false,false,false] rfl rfl (any_of HT_.out (by kernel_rfl)) (fun _ _ _ h => h) (Or.inl ⟨by rfl,?_⟩) ?_ ?_
 rotate_left
 ·intro w'
  go_simp
  with_reducible rfl
 rotate_left
 ·simp only [Act.put,List.setIfInBounds_toArray,List.set_cons_zero,List.set_cons_succ,i64_w,i32_w]
  rfl
 refine take_ (i:=0) (N:=some 15) (v:=?_) (a':=?_) #[true,true,true,false,false,false,false,false] rfl rfl (take_ofW HT_.out HW_.out (by kernel_rfl)) (fun _ _ _ h => h) (Or.inl ⟨by rfl,?_⟩) hHeld ?_ ?_
 rotate_left
 ·rintro w' ⟨s0,s1,s2,s3,s4,s5,s6,s7,s8,s9⟩
  go_simp
  with_reducible rfl
 rotate_left
 ·simp only [Act.put,List.setIfInBounds_toArray,List.set_cons_zero,List.set_cons_succ,i64_w,i32_w]
  rfl
 refine one_ (i:=3) (N:=some 18) #[true,true,true,true,false,false,false,false] rfl rfl (one_of HT_.out (by kernel_rfl)) (by decide) (fun K hK => ?_)
 refine goes_ Try.func13 (by kernel_rfl) rfl #[.pointer (some ⟨g332,0,none⟩),.int .i64 10] (by rfl) rfl rfl (by (try simp only [List.map_toArray,List.map_cons,List.map_nil]);first|done|rfl|(simp only [List.length_drop,List.length_take];rfl)) ?_
 with_reducible refine (spec_l1Below.calls g332 t329 t353 t354 10 t355 t356 t357 w _ ?side1 ?side2 A5.out).mono ?_
 (case side1 => repeat (first|(with_reducible first|exact HI332.out|apply IsS54.alloc|apply IsS54.drewN|apply IsS54.drew|apply IsS54.set_1|apply IsS54.set_2|refine IsS54.far ?_ NB332_328.out _|refine IsS54.far ?_ NB332_351.out _)|exact HI332.out))
 (case side2 => repeat (first|(with_reducible first|exact HB.out|apply below_alloc|apply pw_below_drewN|apply below_drew1|refine below_set ?_ (IsS54.ge HI332.out)|refine below_set ?_ GE328.out|refine below_set ?_ GE351.out)|exact HB.out))
 rintro e w18 ⟨rfl,hi,hb,hk⟩
 refine ⟨_,rfl,?_⟩
 replace BK328:=Aside0.mk (KeepBut.blk hk (g':=gb328) (o:=.cells #[.int .i64 0,.slice none 0 0,.slice none 0 0,.int .i64 0,.int .i64 0,.int .i64 0,.int .i64 0,.int .i64 0,.slice none 0 0,.int .i64 0] 28 (0,0)) (by (with_reducible repeat (first|refine blk_drewN ?_ _|refine blk_drew ?_|refine blk_alloc ?_ _));exact BK328.out) NB328_332.out (by simp))
 replace HO336:=Aside0.mk (Kd.R_mono (Kd.R_keep (IsS54.apart (show IsS54 w _ g332 t329 t353 t354 from by repeat (first|(with_reducible first|exact HI332.out|apply IsS54.alloc|apply IsS54.drewN|apply IsS54.drew|apply IsS54.set_1|apply IsS54.set_2|refine IsS54.far ?_ NB332_328.out _|refine IsS54.far ?_ NB332_351.out _)|exact HI332.out)) (by (with_reducible repeat (first|apply Kd.R_alloc|apply Kd.R_drewN|apply Kd.R_drew));exact HO336.out) (by decide)) hk (fun _ h => h.2)) (fun _ h => h.1))
 replace HO339:=Aside0.mk (Kd.R_mono (Kd.R_keep (IsS54.apart (show IsS54 w _ g332 t329 t353 t354 from by repeat (first|(with_reducible first|exact HI332.out|apply IsS54.alloc|apply IsS54.drewN|apply IsS54.drew|apply IsS54.set_1|apply IsS54.set_2|refine IsS54.far ?_ NB332_328.out _|refine IsS54.far ?_ NB332_351.out _)|exact HI332.out)) (by (with_reducible repeat (first|apply Kd.R_alloc|apply Kd.R_drewN|apply Kd.R_drew));exact HO339.out) (by decide)) hk (fun _ h => h.2)) (fun _ h => h.1))
 replace HO347:=Aside0.mk (Kd.R_mono (Kd.R_keep (IsS54.apart (show IsS54 w _ g332 t329 t353 t354 from by repeat (first|(with_reducible first|exact HI332.out|apply IsS54.alloc|apply IsS54.drewN|apply IsS54.drew|apply IsS54.set_1|apply IsS54.set_2|refine IsS54.far ?_ NB332_328.out _|refine IsS54.far ?_ NB332_351.out _)|exact HI332.out)) (by (with_reducible repeat (first|apply Kd.R_alloc|apply Kd.R_drewN|apply Kd.R_drew));exact HO347.out) (by decide)) hk (fun _ h => h.2)) (fun _ h => h.1))
 replace BK351:=Aside0.mk (KeepBut.blk hk (g':=gb351) (o:=.cells #[.int .i64 t333,.slice Ao13 t334.length co13,.slice Ao14 t337.length co14,.int .i64 t340,.int .i64 t341,.int .i64 t342,.int .i64 t343,.int .i64 t344,.slice Ao15 t345.length co15,.int .i64 t348] 28 (0,0)) (by (with_reducible repeat (first|refine blk_drewN ?_ _|refine blk_drew ?_|refine blk_alloc ?_ _));exact BK351.out) NB351_332.out (by simp))
 replace HB:=Aside0.mk (hb)
 replace HI332:=Aside0.mk (hi)
 (try clear hb)
 (try clear hb2)
 (try clear hk)
 (try clear hi)
 refine hK.out _ _ ⟨(blk_cell BK351.out 0).trans rfl,(blk_cell BK351.out 1).trans rfl,(blk_cell BK351.out 2).trans rfl,(blk_cell BK351.out 3).trans rfl,(blk_cell BK351.out 4).trans rfl,(blk_cell BK351.out 5).trans rfl,(blk_cell BK351.out 6).trans rfl,(blk_cell BK351.out 7).trans rfl,(blk_cell BK351.out 8).trans rfl,(blk_cell BK351.out 9).trans rfl⟩ (fun hHeld => ?_)
 clear hK K
 refine norm_ (a':=?_) ?_ ?_
 rotate_left
 ·show Act.put _ (some 18) _ = _
  simp only [Act.put,List.setIfInBounds_toArray,List.set_cons_zero,List.set_cons_succ,i64_w,i32_w]
  rfl
 refine pure_ (i:=4) (N:=some 19) (v:=?_) (a':=?_) #[true,true,true,true,true,false,false,false] rfl rfl (any_of HT_.out (by kernel_rfl)) (fun _ _ _ h => h) (Or.inl ⟨by rfl,?_⟩) ?_ ?_
 rotate_left
 ·intro w'
  go_simp
  with_reducible rfl
 rotate_left
 ·simp only [Act.put,List.setIfInBounds_toArray,List.set_cons_zero,List.set_cons_succ,i64_w,i32_w]
  rfl
 refine one_ (i:=5) (N:=none) #[true,true,true,true,true,true,false,false] rfl rfl (one_of HT_.out (by kernel_rfl)) (by decide) (fun K hK => ?_)
 have hs19 : w18.cell? ⟨gb328,0,none⟩ = some (.int .i64 0):=(blk_cell BK328.out 0).trans rfl
 have hfs19:=blk_frozen BK328.out 0
 have hns19_1:=NB351_328.out
 have hms19_1:=NB328_351.out
 have hs20 : w18.cell? ⟨gb328,1,none⟩ = some (.slice none 0 0):=(blk_cell BK328.out 1).trans rfl
 have hfs20:=blk_frozen BK328.out 1
 have hns20_1:=NB351_328.out
 have hms20_1:=NB328_351.out
 have hs21 : w18.cell? ⟨gb328,2,none⟩ = some (.slice none 0 0):=(blk_cell BK328.out 2).trans rfl
 have hfs21:=blk_frozen BK328.out 2
 have hns21_1:=NB351_328.out
 have hms21_1:=NB328_351.out
 have hs22 : w18.cell? ⟨gb328,3,none⟩ = some (.int .i64 0):=(blk_cell BK328.out 3).trans rfl
 have hfs22:=blk_frozen BK328.out 3
 have hns22_1:=NB351_328.out
 have hms22_1:=NB328_351.out
 have hs23 : w18.cell? ⟨gb328,4,none⟩ = some (.int .i64 0):=(blk_cell BK328.out 4).trans rfl
 have hfs23:=blk_frozen BK328.out 4
 have hns23_1:=NB351_328.out
 have hms23_1:=NB328_351.out
 have hs24 : w18.cell? ⟨gb328,5,none⟩ = some (.int .i64 0):=(blk_cell BK328.out 5).trans rfl
 have hfs24:=blk_frozen BK328.out 5
 have hns24_1:=NB351_328.out
 have hms24_1:=NB328_351.out
 have hs25 : w18.cell? ⟨gb328,6,none⟩ = some (.int .i64 0):=(blk_cell BK328.out 6).trans rfl
 have hfs25:=blk_frozen BK328.out 6
 have hns25_1:=NB351_328.out
 have hms25_1:=NB328_351.out
 have hs26 : w18.cell? ⟨gb328,7,none⟩ = some (.int .i64 0):=(blk_cell BK328.out 7).trans rfl
 have hfs26:=blk_frozen BK328.out 7
 have hns26_1:=NB351_328.out
 have hms26_1:=NB328_351.out
 have hs27 : w18.cell? ⟨gb328,8,none⟩ = some (.slice none 0 0):=(blk_cell BK328.out 8).trans rfl
 have hfs27:=blk_frozen BK328.out 8
 have hns27_1:=NB351_328.out
 have hms27_1:=NB328_351.out
 have hs28 : w18.cell? ⟨gb328,9,none⟩ = some (.int .i64 0):=(blk_cell BK328.out 9).trans rfl
 have hfs28:=blk_frozen BK328.out 9
 have hns28_1:=NB351_328.out
 have hms28_1:=NB328_351.out
 refine skip_ (w1:=?_) (by rfl) rfl ?_ ?_
 rotate_left
 ·go_simp
  rfl
 refine hK.out _ _ ⟨((cell_far (p:=⟨gb328,_,none⟩) NB351_328.out _).trans (((cell_far (p:=⟨gb328,_,none⟩) NB351_328.out _).trans (((cell_far (p:=⟨gb328,_,none⟩) NB351_328.out _).trans (((cell_far (p:=⟨gb328,_,none⟩) NB351_328.out _).trans (((cell_far (p:=⟨gb328,_,none⟩) NB351_328.out _).trans (((cell_far (p:=⟨gb328,_,none⟩) NB351_328.out _).trans (((cell_far (p:=⟨gb328,_,none⟩) NB351_328.out _).trans (((cell_far (p:=⟨gb328,_,none⟩) NB351_328.out _).trans (((cell_far (p:=⟨gb328,_,none⟩) NB351_328.out _).trans (((cell_far (p:=⟨gb328,_,none⟩) NB351_328.out _).trans (hHeld.1)))))))))))))))))))),((cell_far (p:=⟨gb328,_,none⟩) NB351_328.out _).trans (((cell_far (p:=⟨gb328,_,none⟩) NB351_328.out _).trans (((cell_far (p:=⟨gb328,_,none⟩) NB351_328.out _).trans (((cell_far (p:=⟨gb328,_,none⟩) NB351_328.out _).trans (((cell_far (p:=⟨gb328,_,none⟩) NB351_328.out _).trans (((cell_far (p:=⟨gb328,_,none⟩) NB351_328.out _).trans (((cell_far (p:=⟨gb328,_,none⟩) NB351_328.out _).trans (((cell_far (p:=⟨gb328,_,none⟩) NB351_328.out _).trans (((cell_far (p:=⟨gb328,_,none⟩) NB351_328.out _).trans (((cell_far (p:=⟨gb328,_,none⟩) NB351_328.out _).trans (hHeld.2.1)))))))))))))))))))),((cell_far (p:=⟨gb328,_,none⟩) NB351_328.out _).trans (((cell_far (p:=⟨gb328,_,none⟩) NB351_328.out _).trans (((cell_far (p:=⟨gb328,_,none⟩) NB351_328.out _).trans (((cell_far (p:=⟨gb328,_,none⟩) NB351_328.out _).trans (((cell_far (p:=⟨gb328,_,none⟩) NB351_328.out _).trans (((cell_far (p:=⟨gb328,_,none⟩) NB351_328.out _).trans (((cell_far (p:=⟨gb328,_,none⟩) NB351_328.out _).trans (((cell_far (p:=⟨gb328,_,none⟩) NB351_328.out _).trans (((cell_far (p:=⟨gb328,_,none⟩) NB351_328.out _).trans (((cell_far (p:=⟨gb328,_,none⟩) NB351_328.out _).trans (hHeld.2.2.1)))))))))))))))))))),((cell_far (p:=⟨gb328,_,none⟩) NB351_328.out _).trans (((cell_far (p:=⟨gb328,_,none⟩) NB351_328.out _).trans (((cell_far (p:=⟨gb328,_,none⟩) NB351_328.out _).trans (((cell_far (p:=⟨gb328,_,none⟩) NB351_328.out _).trans (((cell_far (p:=⟨gb328,_,none⟩) NB351_328.out _).trans (((cell_far (p:=⟨gb328,_,none⟩) NB351_328.out _).trans (((cell_far (p:=⟨gb328,_,none⟩) NB351_328.out _).trans (((cell_far (p:=⟨gb328,_,none⟩) NB351_328.out _).trans (((cell_far (p:=⟨gb328,_,none⟩) NB351_328.out _).trans (((cell_far (p:=⟨gb328,_,none⟩) NB351_328.out _).trans (hHeld.2.2.2.1)))))))))))))))))))),((cell_far (p:=⟨gb328,_,none⟩) NB351_328.out _).trans (((cell_far (p:=⟨gb328,_,none⟩) NB351_328.out _).trans (((cell_far (p:=⟨gb328,_,none⟩) NB351_328.out _).trans (((cell_far (p:=⟨gb328,_,none⟩) NB351_328.out _).trans (((cell_far (p:=⟨gb328,_,none⟩) NB351_328.out _).trans (((cell_far (p:=⟨gb328,_,none⟩) NB351_328.out _).trans (((cell_far (p:=⟨gb328,_,none⟩) NB351_328.out _).trans (((cell_far (p:=⟨gb328,_,none⟩) NB351_328.out _).trans (((cell_far (p:=⟨gb328,_,none⟩) NB351_328.out _).trans (((cell_far (p:=⟨gb328,_,none⟩) NB351_328.out _).trans (hHeld.2.2.2.2.1)))))))))))))))))))),((cell_far (p:=⟨gb328,_,none⟩) NB351_328.out _).trans (((cell_far (p:=⟨gb328,_,none⟩) NB351_328.out _).trans (((cell_far (p:=⟨gb328,_,none⟩) NB351_328.out _).trans (((cell_far (p:=⟨gb328,_,none⟩) NB351_328.out _).trans (((cell_far (p:=⟨gb328,_,none⟩) NB351_328.out _).trans (((cell_far (p:=⟨gb328,_,none⟩) NB351_328.out _).trans (((cell_far (p:=⟨gb328,_,none⟩) NB351_328.out _).trans (((cell_far (p:=⟨gb328,_,none⟩) NB351_328.out _).trans (((cell_far (p:=⟨gb328,_,none⟩) NB351_328.out _).trans (((cell_far (p:=⟨gb328,_,none⟩) NB351_328.out _).trans (hHeld.2.2.2.2.2.1)))))))))))))))))))),((cell_far (p:=⟨gb328,_,none⟩) NB351_328.out _).trans (((cell_far (p:=⟨gb328,_,none⟩) NB351_328.out _).trans (((cell_far (p:=⟨gb328,_,none⟩) NB351_328.out _).trans (((cell_far (p:=⟨gb328,_,none⟩) NB351_328.out _).trans (((cell_far (p:=⟨gb328,_,none⟩) NB351_328.out _).trans (((cell_far (p:=⟨gb328,_,none⟩) NB351_328.out _).trans (((cell_far (p:=⟨gb328,_,none⟩) NB351_328.out _).trans (((cell_far (p:=⟨gb328,_,none⟩) NB351_328.out _).trans (((cell_far (p:=⟨gb328,_,none⟩) NB351_328.out _).trans (((cell_far (p:=⟨gb328,_,none⟩) NB351_328.out _).trans (hHeld.2.2.2.2.2.2.1)))))))))))))))))))),((cell_far (p:=⟨gb328,_,none⟩) NB351_328.out _).trans (((cell_far (p:=⟨gb328,_,none⟩) NB351_328.out _).trans (((cell_far (p:=⟨gb328,_,none⟩) NB351_328.out _).trans (((cell_far (p:=⟨gb328,_,none⟩) NB351_328.out _).trans (((cell_far (p:=⟨gb328,_,none⟩) NB351_328.out _).trans (((cell_far (p:=⟨gb328,_,none⟩) NB351_328.out _).trans (((cell_far (p:=⟨gb328,_,none⟩) NB351_328.out _).trans (((cell_far (p:=⟨gb328,_,none⟩) NB351_328.out _).trans (((cell_far (p:=⟨gb328,_,none⟩) NB351_328.out _).trans (((cell_far (p:=⟨gb328,_,none⟩) NB351_328.out _).trans (hHeld.2.2.2.2.2.2.2.1)))))))))))))))))))),((cell_far (p:=⟨gb328,_,none⟩) NB351_328.out _).trans (((cell_far (p:=⟨gb328,_,none⟩) NB351_328.out _).trans (((cell_far (p:=⟨gb328,_,none⟩) NB351_328.out _).trans (((cell_far (p:=⟨gb328,_,none⟩) NB351_328.out _).trans (((cell_far (p:=⟨gb328,_,none⟩) NB351_328.out _).trans (((cell_far (p:=⟨gb328,_,none⟩) NB351_328.out _).trans (((cell_far (p:=⟨gb328,_,none⟩) NB351_328.out _).trans (((cell_far (p:=⟨gb328,_,none⟩) NB351_328.out _).trans (((cell_far (p:=⟨gb328,_,none⟩) NB351_328.out _).trans (((cell_far (p:=⟨gb328,_,none⟩) NB351_328.out _).trans (hHeld.2.2.2.2.2.2.2.2.1)))))))))))))))))))),((cell_far (p:=⟨gb328,_,none⟩) NB351_328.out _).trans (((cell_far (p:=⟨gb328,_,none⟩) NB351_328.out _).trans (((cell_far (p:=⟨gb328,_,none⟩) NB351_328.out _).trans (((cell_far (p:=⟨gb328,_,none⟩) NB351_328.out _).trans (((cell_far (p:=⟨gb328,_,none⟩) NB351_328.out _).trans (((cell_far (p:=⟨gb328,_,none⟩) NB351_328.out _).trans (((cell_far (p:=⟨gb328,_,none⟩) NB351_328.out _).trans (((cell_far (p:=⟨gb328,_,none⟩) NB351_328.out _).trans (((cell_far (p:=⟨gb328,_,none⟩) NB351_328.out _).trans (((cell_far (p:=⟨gb328,_,none⟩) NB351_328.out _).trans (hHeld.2.2.2.2.2.2.2.2.2))))))))))))))))))))⟩ (fun hHeld => ?_)
 clear hK K
 refine pure_ (i:=6) (N:=some 3) (v:=?_) (a':=?_) #[true,true,true,true,true,true,true,false] rfl rfl (any_of HT_.out (by kernel_rfl)) (fun _ _ _ h => h) (Or.inl ⟨by rfl,?_⟩) ?_ ?_
 rotate_left
 ·intro w'
  go_simp
  with_reducible rfl
 rotate_left
 ·simp only [Act.put,List.setIfInBounds_toArray,List.set_cons_zero,List.set_cons_succ,i64_w,i32_w]
  rfl
 refine pure_ (i:=7) (N:=some 4) (v:=?_) (a':=?_) #[true,true,true,true,true,true,true,true] rfl rfl (any_of HT_.out (by kernel_rfl)) (fun _ _ _ h => h) (Or.inl ⟨by rfl,?_⟩) ?_ ?_
 rotate_left
 ·intro w'
  go_simp
  with_reducible rfl
 rotate_left
 ·simp only [Act.put,List.setIfInBounds_toArray,List.set_cons_zero,List.set_cons_succ,i64_w,i32_w]
  rfl
 refine done_ (done_of HT_.out (by kernel_rfl)) ?_
 try go_wp2
 refine bodyPost_ret (results_ctt rfl _ _ gb328 28 #[.int .i64 t333,.slice Ao13 t334.length co13,.slice Ao14 t337.length co14,.int .i64 t340,.int .i64 t341,.int .i64 t342,.int .i64 t343,.int .i64 t344,.slice Ao15 t345.length co15,.int .i64 t348] (0,0) _ rfl (by (with_reducible repeat (first|refine blk_drewN ?_ _|refine blk_drew ?_|refine blk_alloc ?_ _));refine blk_put (cs:=#[.int .i64 t333,.slice Ao13 t334.length co13,.slice Ao14 t337.length co14,.int .i64 t340,.int .i64 t341,.int .i64 t342,.int .i64 t343,.int .i64 t344,.slice Ao15 t345.length co15,.int .i64 0]) ?_ 9 _ rfl;(with_reducible repeat (first|refine blk_drewN ?_ _|refine blk_drew ?_|refine blk_alloc ?_ _));refine blk_put (cs:=#[.int .i64 t333,.slice Ao13 t334.length co13,.slice Ao14 t337.length co14,.int .i64 t340,.int .i64 t341,.int .i64 t342,.int .i64 t343,.int .i64 t344,.slice none 0 0,.int .i64 0]) ?_ 8 _ rfl;(with_reducible repeat (first|refine blk_drewN ?_ _|refine blk_drew ?_|refine blk_alloc ?_ _));refine blk_put (cs:=#[.int .i64 t333,.slice Ao13 t334.length co13,.slice Ao14 t337.length co14,.int .i64 t340,.int .i64 t341,.int .i64 t342,.int .i64 t343,.int .i64 0,.slice none 0 0,.int .i64 0]) ?_ 7 _ rfl;(with_reducible repeat (first|refine blk_drewN ?_ _|refine blk_drew ?_|refine blk_alloc ?_ _));refine blk_put (cs:=#[.int .i64 t333,.slice Ao13 t334.length co13,.slice Ao14 t337.length co14,.int .i64 t340,.int .i64 t341,.int .i64 t342,.int .i64 0,.int .i64 0,.slice none 0 0,.int .i64 0]) ?_ 6 _ rfl;(with_reducible repeat (first|refine blk_drewN ?_ _|refine blk_drew ?_|refine blk_alloc ?_ _));refine blk_put (cs:=#[.int .i64 t333,.slice Ao13 t334.length co13,.slice Ao14 t337.length co14,.int .i64 t340,.int .i64 t341,.int .i64 0,.int .i64 0,.int .i64 0,.slice none 0 0,.int .i64 0]) ?_ 5 _ rfl;(with_reducible repeat (first|refine blk_drewN ?_ _|refine blk_drew ?_|refine blk_alloc ?_ _));refine blk_put (cs:=#[.int .i64 t333,.slice Ao13 t334.length co13,.slice Ao14 t337.length co14,.int .i64 t340,.int .i64 0,.int .i64 0,.int .i64 0,.int .i64 0,.slice none 0 0,.int .i64 0]) ?_ 4 _ rfl;(with_reducible repeat (first|refine blk_drewN ?_ _|refine blk_drew ?_|refine blk_alloc ?_ _));refine blk_put (cs:=#[.int .i64 t333,.slice Ao13 t334.length co13,.slice Ao14 t337.length co14,.int .i64 0,.int .i64 0,.int .i64 0,.int .i64 0,.int .i64 0,.slice none 0 0,.int .i64 0]) ?_ 3 _ rfl;(with_reducible repeat (first|refine blk_drewN ?_ _|refine blk_drew ?_|refine blk_alloc ?_ _));refine blk_put (cs:=#[.int .i64 t333,.slice Ao13 t334.length co13,.slice none 0 0,.int .i64 0,.int .i64 0,.int .i64 0,.int .i64 0,.int .i64 0,.slice none 0 0,.int .i64 0]) ?_ 2 _ rfl;(with_reducible repeat (first|refine blk_drewN ?_ _|refine blk_drew ?_|refine blk_alloc ?_ _));refine blk_put (cs:=#[.int .i64 t333,.slice none 0 0,.slice none 0 0,.int .i64 0,.int .i64 0,.int .i64 0,.int .i64 0,.int .i64 0,.slice none 0 0,.int .i64 0]) ?_ 1 _ rfl;(with_reducible repeat (first|refine blk_drewN ?_ _|refine blk_drew ?_|refine blk_alloc ?_ _));refine blk_put (cs:=#[.int .i64 0,.slice none 0 0,.slice none 0 0,.int .i64 0,.int .i64 0,.int .i64 0,.int .i64 0,.int .i64 0,.slice none 0 0,.int .i64 0]) ?_ 0 _ rfl;(with_reducible repeat (first|refine blk_drewN ?_ _|refine blk_drew ?_|refine blk_alloc ?_ _));exact BK328.out) Try.underlying28 rfl (by kernel_rfl)) rfl ?_
 exact ⟨_,_,_,by first|rfl|(simp [errW_none,errW_some] <;> rfl)|(simp [*,errW_none,errW_some] <;> rfl),by (with_reducible repeat (first|apply Kd.R_alloc|apply Kd.R_drewN|apply Kd.R_drew));exact Kd.R_mono (Kd.R_far (p:=⟨gb328,9,none⟩) (Kd.R_far (p:=⟨gb328,8,none⟩) (Kd.R_far (p:=⟨gb328,7,none⟩) (Kd.R_far (p:=⟨gb328,6,none⟩) (Kd.R_far (p:=⟨gb328,5,none⟩) (Kd.R_far (p:=⟨gb328,4,none⟩) (Kd.R_far (p:=⟨gb328,3,none⟩) (Kd.R_far (p:=⟨gb328,2,none⟩) (Kd.R_far (p:=⟨gb328,1,none⟩) (Kd.R_far (p:=⟨gb328,0,none⟩) (Kd.R_types HO336.out BK328.out (by decide)) (fun _ hk => hk.2) (.int .i64 t333)) (fun _ hk => hk.2) (.slice Ao13 t334.length co13)) (fun _ hk => hk.2) (.slice Ao14 t337.length co14)) (fun _ hk => hk.2) (.int .i64 t340)) (fun _ hk => hk.2) (.int .i64 t341)) (fun _ hk => hk.2) (.int .i64 t342)) (fun _ hk => hk.2) (.int .i64 t343)) (fun _ hk => hk.2) (.int .i64 t344)) (fun _ hk => hk.2) (.slice Ao15 t345.length co15)) (fun _ hk => hk.2) (.int .i64 t348)) (fun _ hk => trivial),by (with_reducible repeat (first|apply Kd.R_alloc|apply Kd.R_drewN|apply Kd.R_drew));exact Kd.R_mono (Kd.R_far (p:=⟨gb328,9,none⟩) (Kd.R_far (p:=⟨gb328,8,none⟩) (Kd.R_far (p:=⟨gb328,7,none⟩) (Kd.R_far (p:=⟨gb328,6,none⟩) (Kd.R_far (p:=⟨gb328,5,none⟩) (Kd.R_far (p:=⟨gb328,4,none⟩) (Kd.R_far (p:=⟨gb328,3,none⟩) (Kd.R_far (p:=⟨gb328,2,none⟩) (Kd.R_far (p:=⟨gb328,1,none⟩) (Kd.R_far (p:=⟨gb328,0,none⟩) (Kd.R_types HO339.out BK328.out (by decide)) (fun _ hk => hk.2) (.int .i64 t333)) (fun _ hk => hk.2) (.slice Ao13 t334.length co13)) (fun _ hk => hk.2) (.slice Ao14 t337.length co14)) (fun _ hk => hk.2) (.int .i64 t340)) (fun _ hk => hk.2) (.int .i64 t341)) (fun _ hk => hk.2) (.int .i64 t342)) (fun _ hk => hk.2) (.int .i64 t343)) (fun _ hk => hk.2) (.int .i64 t344)) (fun _ hk => hk.2) (.slice Ao15 t345.length co15)) (fun _ hk => hk.2) (.int .i64 t348)) (fun _ hk => trivial),by (with_reducible repeat (first|apply Kd.R_alloc|apply Kd.R_drewN|apply Kd.R_drew));exact Kd.R_mono (Kd.R_far (p:=⟨gb328,9,none⟩) (Kd.R_far (p:=⟨gb328,8,none⟩) (Kd.R_far (p:=⟨gb328,7,none⟩) (Kd.R_far (p:=⟨gb328,6,none⟩) (Kd.R_far (p:=⟨gb328,5,none⟩) (Kd.R_far (p:=⟨gb328,4,none⟩) (Kd.R_far (p:=⟨gb328,3,none⟩) (Kd.R_far (p:=⟨gb328,2,none⟩) (Kd.R_far (p:=⟨gb328,1,none⟩) (Kd.R_far (p:=⟨gb328,0,none⟩) (Kd.R_types HO347.out BK328.out (by decide)) (fun _ hk => hk.2) (.int .i64 t333)) (fun _ hk => hk.2) (.slice Ao13 t334.length co13)) (fun _ hk => hk.2) (.slice Ao14 t337.length co14)) (fun _ hk => hk.2) (.int .i64 t340)) (fun _ hk => hk.2) (.int .i64 t341)) (fun _ hk => hk.2) (.int .i64 t342)) (fun _ hk => hk.2) (.int .i64 t343)) (fun _ hk => hk.2) (.int .i64 t344)) (fun _ hk => hk.2) (.slice Ao15 t345.length co15)) (fun _ hk => hk.2) (.int .i64 t348)) (fun _ hk => trivial),by repeat (first|(with_reducible first|exact HB.out|apply below_alloc|apply pw_below_drewN|apply below_drew1|refine below_set ?_ (IsS54.ge HI332.out)|refine below_set ?_ GE328.out|refine below_set ?_ GE351.out)|exact HB.out)⟩

/-! ### impl_NodesOf: function 10 -/
def impl_NodesOf.f (a0_0 : Int) (l0_1 : List (S43)) (l0_2 : List (S46)) (a0_3 : Int) (a0_4 : Int) (a0_5 : Int) (a0_6 : Int) (a0_7 : Int) (l0_8 : List (S50)) (a0_9 : Int) : Option (Int):=some (wrap64 ((l0_1.length : Int) + (l0_2.length : Int)))
set_option maxHeartbeats 8000000 in
set_option maxRecDepth 100000 in
theorem impl_NodesOf.calls (a0_0 : Int) (A0_1 : Option Addr) (c0_1 : Nat) (l0_1 : List (S43)) (A0_2 : Option Addr) (c0_2 : Nat) (l0_2 : List (S46)) (a0_3 : Int) (a0_4 : Int) (a0_5 : Int) (a0_6 : Int) (a0_7 : Int) (A0_8 : Option Addr) (c0_8 : Nat) (l0_8 : List (S50)) (a0_9 : Int) (r : Int) (w : World) (hr0_1 : Kd.C k43 w A0_1 l0_1.length l0_1) (hc0_1 : l0_1.length ≤ c0_1) (hr0_2 : Kd.C k46 w A0_2 l0_2.length l0_2) (hc0_2 : l0_2.length ≤ c0_2) (hr0_8 : Kd.C k50 w A0_8 l0_8.length l0_8) (hc0_8 : l0_8.length ≤ c0_8) (h : impl_NodesOf.f a0_0 l0_1 l0_2 a0_3 a0_4 a0_5 a0_6 a0_7 l0_8 a0_9 = some r) :
  Calls Try.prog 10 #[.agg #[.int .i64 a0_0,.slice A0_1 l0_1.length c0_1,.slice A0_2 l0_2.length c0_2,.int .i64 a0_3,.int .i64 a0_4,.int .i64 a0_5,.int .i64 a0_6,.int .i64 a0_7,.slice A0_8 l0_8.length c0_8,.int .i64 a0_9]] w fun e w' => e = .returned (.int .i64 r) ∧ Below w.heap.size w w':=by
 have hu28:=Try.underlying28
 have HR0_1:=Aside0.mk hr0_1
 have HC0_1:=Aside0.mk hc0_1
 clear hr0_1 hc0_1
 have HR0_2:=Aside0.mk hr0_2
 have HC0_2:=Aside0.mk hc0_2
 clear hr0_2 hc0_2
 have HR0_8:=Aside0.mk hr0_8
 have HC0_8:=Aside0.mk hc0_8
 clear hr0_8 hc0_8
 have HB:=Aside0.mk (Below.refl w.heap.size w)
 have H : (some (wrap64 ((l0_1.length : Int) + (l0_2.length : Int)))) = some r:=h
 clear h
 obtain rfl:=Option.some.inj H
 go_enter Try.func10,Try.ntmps10
 go_wp2_with (first|((with_reducible refine gate_dst (N:=1) rfl ?_);refine box_event ?hg (N:=1) ?hd (cs:=#[.int .i64 a0_0,.slice A0_1 l0_1.length c0_1,.slice A0_2 l0_2.length c0_2,.int .i64 a0_3,.int .i64 a0_4,.int .i64 a0_5,.int .i64 a0_6,.int .i64 a0_7,.slice A0_8 l0_8.length c0_8,.int .i64 a0_9]) (t:=28) ?hr ?_;(case hd => rfl);(case hg => rfl);(case hr => first|(go_simp;done)|(go_simp;rfl));intro gb358 hg w2 hbox hb;have BK358:=Aside0.mk (hbox);have GE358:=Aside0.mk ((by rw [hg];exact (below_size (by repeat (first|(with_reducible first|exact HB.out|apply below_alloc|apply pw_below_drewN|apply below_drew1)|exact HB.out))) : w.heap.size ≤ gb358));replace HB:=Aside0.mk (below_step (by repeat (first|(with_reducible first|exact HB.out|apply below_alloc|apply pw_below_drewN|apply below_drew1)|exact HB.out)) hb);clear hb hbox hg;have hcz3_0 : w2.cell? ⟨gb358,0,none⟩ = some (.int .i64 a0_0):=(blk_cell BK358.out 0).trans rfl;have hcz3_1 : w2.cell? ⟨gb358,1,none⟩ = some (.slice A0_1 l0_1.length c0_1):=(blk_cell BK358.out 1).trans rfl;have hcz3_2 : w2.cell? ⟨gb358,2,none⟩ = some (.slice A0_2 l0_2.length c0_2):=(blk_cell BK358.out 2).trans rfl;have hcz3_3 : w2.cell? ⟨gb358,3,none⟩ = some (.int .i64 a0_3):=(blk_cell BK358.out 3).trans rfl;have hcz3_4 : w2.cell? ⟨gb358,4,none⟩ = some (.int .i64 a0_4):=(blk_cell BK358.out 4).trans rfl;have hcz3_5 : w2.cell? ⟨gb358,5,none⟩ = some (.int .i64 a0_5):=(blk_cell BK358.out 5).trans rfl;have hcz3_6 : w2.cell? ⟨gb358,6,none⟩ = some (.int .i64 a0_6):=(blk_cell BK358.out 6).trans rfl;have hcz3_7 : w2.cell? ⟨gb358,7,none⟩ = some (.int .i64 a0_7):=(blk_cell BK358.out 7).trans rfl;have hcz3_8 : w2.cell? ⟨gb358,8,none⟩ = some (.slice A0_8 l0_8.length c0_8):=(blk_cell BK358.out 8).trans rfl;have hcz3_9 : w2.cell? ⟨gb358,9,none⟩ = some (.int .i64 a0_9):=(blk_cell BK358.out 9).trans rfl;have hfz3_0:=blk_frozen BK358.out 0;have hfz3_1:=blk_frozen BK358.out 1;have hfz3_2:=blk_frozen BK358.out 2;have hfz3_3:=blk_frozen BK358.out 3;have hfz3_4:=blk_frozen BK358.out 4;have hfz3_5:=blk_frozen BK358.out 5;have hfz3_6:=blk_frozen BK358.out 6;have hfz3_7:=blk_frozen BK358.out 7;have hfz3_8:=blk_frozen BK358.out 8;have hfz3_9:=blk_frozen BK358.out 9))
 go_ret
 exact ⟨by first|rfl|(simp [errW_none,errW_some] <;> rfl)|(simp [*,errW_none,errW_some] <;> rfl),by repeat (first|(with_reducible first|exact HB.out|apply below_alloc|apply pw_below_drewN|apply below_drew1|refine below_set ?_ GE358.out)|exact HB.out)⟩

/-! ### impl_InRange: function 16 -/
def impl_InRange.f (a0 : Int) (a1 : Int) (a2 : Int) : Option (Bool):=if a1 ≤ a0 then (some (decide (a0 ≤ a2))) else (some false)
set_option maxHeartbeats 8000000 in
set_option maxRecDepth 100000 in
theorem impl_InRange.calls (a0 : Int) (a1 : Int) (a2 : Int) (r : Bool) (w : World) (h : impl_InRange.f a0 a1 a2 = some r) :
  Calls Try.prog 16 #[.int .i64 a0,.int .i64 a1,.int .i64 a2] w fun e w' => e = .returned (.bool r) ∧ Drawn0 w w':=by
 have H : (if a1 ≤ a0 then (some (decide (a0 ≤ a2))) else (some false)) = some r:=h
 clear h
 by_cases c4 : a1 ≤ a0
 ·rw [if_pos c4] at H
  have c4b0 : decide (a1 ≤ a0) = true:=decide_eq_true c4
  clear c4
  obtain rfl:=Option.some.inj H
  go_enter Try.func16,Try.ntmps16
  go_wp2
  go_ret
  exact ⟨by first|rfl|(simp;done)|(simp [*];done),by repeat (first|exact Drawn0.refl _|apply Drawn0.step)⟩
 ·rw [if_neg c4] at H
  have c4b0 : decide (a1 ≤ a0) = false:=decide_eq_false c4
  clear c4
  obtain rfl:=Option.some.inj H
  go_enter Try.func16,Try.ntmps16
  go_wp2
  go_ret
  exact ⟨by first|rfl|(simp;done)|(simp [*];done),by repeat (first|exact Drawn0.refl _|apply Drawn0.step)⟩

/-! ### impl_IsSite: function 7 -/
def impl_IsSite.f (a0_0 : Int) (l0_1 : List (S43)) (l0_2 : List (S46)) (a0_3 : Int) (a0_4 : Int) (a0_5 : Int) (a0_6 : Int) (a0_7 : Int) (l0_8 : List (S50)) (a0_9 : Int) (a1 : Int) : Option (Bool):=(impl_NodesOf.f a0_0 l0_1 l0_2 a0_3 a0_4 a0_5 a0_6 a0_7 l0_8 a0_9).bind fun t360 => ((impl_InRange.f a1 (l0_1.length : Int) (wrap64 (t360 - 1))).bind fun t361 => (some t361))
def impl_IsSite.T1 : Bool × List (List Nat × List Nat):=(true,[([],[]),([],[]),([1],[1]),([2],[2]),([],[]),([4],[4]),([5],[5]),([0,3,6,5],[0,3,6]),([7,7,0,1,2,3,4,5,6,7],[7])])
def impl_IsSite.B1 : List Nat:=[0,0,2,6,0,16,48,127,255]
theorem impl_IsSite.tab1 : rtab .any (opsOf Try.f7 1) = impl_IsSite.T1:=by kernel_rfl
theorem impl_IsSite.bits1 : waitsOk impl_IsSite.T1.2 impl_IsSite.B1 = true:=by kernel_rfl
set_option maxHeartbeats 8000000 in
set_option maxRecDepth 100000 in
theorem impl_IsSite.calls (a0_0 : Int) (A0_1 : Option Addr) (c0_1 : Nat) (l0_1 : List (S43)) (A0_2 : Option Addr) (c0_2 : Nat) (l0_2 : List (S46)) (a0_3 : Int) (a0_4 : Int) (a0_5 : Int) (a0_6 : Int) (a0_7 : Int) (A0_8 : Option Addr) (c0_8 : Nat) (l0_8 : List (S50)) (a0_9 : Int) (a1 : Int) (r : Bool) (w : World) (hr0_1 : Kd.C k43 w A0_1 l0_1.length l0_1) (hc0_1 : l0_1.length ≤ c0_1) (hr0_2 : Kd.C k46 w A0_2 l0_2.length l0_2) (hc0_2 : l0_2.length ≤ c0_2) (hr0_8 : Kd.C k50 w A0_8 l0_8.length l0_8) (hc0_8 : l0_8.length ≤ c0_8) (h : impl_IsSite.f a0_0 l0_1 l0_2 a0_3 a0_4 a0_5 a0_6 a0_7 l0_8 a0_9 a1 = some r) :
  Calls Try.prog 7 #[.agg #[.int .i64 a0_0,.slice A0_1 l0_1.length c0_1,.slice A0_2 l0_2.length c0_2,.int .i64 a0_3,.int .i64 a0_4,.int .i64 a0_5,.int .i64 a0_6,.int .i64 a0_7,.slice A0_8 l0_8.length c0_8,.int .i64 a0_9],.int .i64 a1] w fun e w' => e = .returned (.bool r) ∧ Below w.heap.size w w':=by
 have hu28:=Try.underlying28
 have HR0_1:=Aside0.mk hr0_1
 have HC0_1:=Aside0.mk hc0_1
 clear hr0_1 hc0_1
 have HR0_2:=Aside0.mk hr0_2
 have HC0_2:=Aside0.mk hc0_2
 clear hr0_2 hc0_2
 have HR0_8:=Aside0.mk hr0_8
 have HC0_8:=Aside0.mk hc0_8
 clear hr0_8 hc0_8
 have HB:=Aside0.mk (Below.refl w.heap.size w)
 have H : ((impl_NodesOf.f a0_0 l0_1 l0_2 a0_3 a0_4 a0_5 a0_6 a0_7 l0_8 a0_9).bind fun t360 => ((impl_InRange.f a1 (l0_1.length : Int) (wrap64 (t360 - 1))).bind fun t361 => (some t361))) = some r:=h
 clear h
 replace H:=Option.bind_eq_some_iff.mp H
 obtain ⟨t360,A30,H⟩:=H
 replace H : ((impl_InRange.f a1 (l0_1.length : Int) (wrap64 (t360 - 1))).bind fun t361 => (some t361)) = some r:=H
 have A3:=Aside0.mk A30
 clear A30
 replace H:=Option.bind_eq_some_iff.mp H
 obtain ⟨t361,A40,H⟩:=H
 replace H : (some t361) = some r:=H
 have A4:=Aside0.mk A40
 clear A40
 obtain rfl:=Option.some.inj H
 go_enter Try.func7,Try.ntmps7
 try go_wp2_with (first|((with_reducible refine gate_dst (N:=2) rfl ?_);refine box_event ?hg (N:=2) ?hd (cs:=#[.int .i64 a0_0,.slice A0_1 l0_1.length c0_1,.slice A0_2 l0_2.length c0_2,.int .i64 a0_3,.int .i64 a0_4,.int .i64 a0_5,.int .i64 a0_6,.int .i64 a0_7,.slice A0_8 l0_8.length c0_8,.int .i64 a0_9]) (t:=28) ?hr ?_;(case hd => rfl);(case hg => rfl);(case hr => first|(go_simp;done)|(go_simp;rfl));intro gb359 hg w5 hbox hb;have BK359:=Aside0.mk (hbox);have GE359:=Aside0.mk ((by rw [hg];exact (below_size (by repeat (first|(with_reducible first|exact HB.out|apply below_alloc|apply pw_below_drewN|apply below_drew1)|exact HB.out))) : w.heap.size ≤ gb359));replace HB:=Aside0.mk (below_step (by repeat (first|(with_reducible first|exact HB.out|apply below_alloc|apply pw_below_drewN|apply below_drew1)|exact HB.out)) hb);clear hb hbox hg))
 replace BK359:=Aside0.mk (blk_drew BK359.out)
 replace HB:=Aside0.mk (below_drew1 HB.out)
 refine start_ (n:=9) (S:=fun w' => w'.cell? ⟨gb359,0,none⟩ = some (.int .i64 a0_0) ∧ w'.cell? ⟨gb359,1,none⟩ = some (.slice A0_1 l0_1.length c0_1) ∧ w'.cell? ⟨gb359,2,none⟩ = some (.slice A0_2 l0_2.length c0_2) ∧ w'.cell? ⟨gb359,3,none⟩ = some (.int .i64 a0_3) ∧ w'.cell? ⟨gb359,4,none⟩ = some (.int .i64 a0_4) ∧ w'.cell? ⟨gb359,5,none⟩ = some (.int .i64 a0_5) ∧ w'.cell? ⟨gb359,6,none⟩ = some (.int .i64 a0_6) ∧ w'.cell? ⟨gb359,7,none⟩ = some (.int .i64 a0_7) ∧ w'.cell? ⟨gb359,8,none⟩ = some (.slice A0_8 l0_8.length c0_8) ∧ w'.cell? ⟨gb359,9,none⟩ = some (.int .i64 a0_9)) (ds:=[]) #[false,false,false,false,false,false,false,false,false] (by kernel_rfl) rfl rfl ⟨(blk_cell BK359.out 0).trans rfl,(blk_cell BK359.out 1).trans rfl,(blk_cell BK359.out 2).trans rfl,(blk_cell BK359.out 3).trans rfl,(blk_cell BK359.out 4).trans rfl,(blk_cell BK359.out 5).trans rfl,(blk_cell BK359.out 6).trans rfl,(blk_cell BK359.out 7).trans rfl,(blk_cell BK359.out 8).trans rfl,(blk_cell BK359.out 9).trans rfl⟩ (fun hHeld => ?_);refine with_tabW impl_IsSite.tab1 impl_IsSite.bits1 (fun HT_ HW_ => ?_)
 generalize w5.drew = w6 at BK359 HB hHeld ⊢
 refine pure_ (i:=0) (N:=some 5) (v:=?_) (a':=?_) #[true,false,false,false,false,false,false,false,false] rfl rfl (any_of HT_.out (by kernel_rfl)) (fun _ _ _ h => h) (Or.inl ⟨by rfl,?_⟩) ?_ ?_
 rotate_left
 ·intro w'
  go_simp
  with_reducible rfl
 rotate_left
 ·simp only [Act.put,List.setIfInBounds_toArray,List.set_cons_zero,List.set_cons_succ,i64_w,i32_w]
  rfl
 refine pure_ (i:=1) (N:=some 6) (v:=?_) (a':=?_) #[true,true,false,false,false,false,false,false,false] rfl rfl (any_of HT_.out (by kernel_rfl)) (fun _ _ _ h => h) (Or.inl ⟨by rfl,?_⟩) ?_ ?_
 rotate_left
 ·intro w'
  go_simp
  with_reducible rfl
 rotate_left
 ·simp only [Act.put,List.setIfInBounds_toArray,List.set_cons_zero,List.set_cons_succ,i64_w,i32_w]
  rfl
 refine take_ (i:=2) (N:=some 7) (v:=?_) (a':=?_) #[true,true,true,false,false,false,false,false,false] rfl rfl (take_ofW HT_.out HW_.out (by kernel_rfl)) (fun _ _ _ h => h) (Or.inl ⟨by rfl,?_⟩) hHeld ?_ ?_
 rotate_left
 ·rintro w' ⟨s0,s1,s2,s3,s4,s5,s6,s7,s8,s9⟩
  go_simp
  with_reducible rfl
 rotate_left
 ·simp only [Act.put,List.setIfInBounds_toArray,List.set_cons_zero,List.set_cons_succ,i64_w,i32_w]
  rfl
 refine pure_ (i:=3) (N:=some 8) (v:=?_) (a':=?_) #[true,true,true,true,false,false,false,false,false] rfl rfl (any_of HT_.out (by kernel_rfl)) (fun _ _ _ h => h) (Or.inl ⟨by rfl,?_⟩) ?_ ?_
 rotate_left
 ·intro w'
  go_simp
  with_reducible rfl
 rotate_left
 ·simp only [Act.put,List.setIfInBounds_toArray,List.set_cons_zero,List.set_cons_succ,i64_w,i32_w]
  rfl
 refine take_ (i:=4) (N:=some 9) (v:=?_) (a':=?_) #[true,true,true,true,true,false,false,false,false] rfl rfl (take_ofW HT_.out HW_.out (by kernel_rfl)) (fun _ _ _ h => h) (Or.inl ⟨by rfl,?_⟩) hHeld ?_ ?_
 rotate_left
 ·rintro w' ⟨s0,s1,s2,s3,s4,s5,s6,s7,s8,s9⟩
  go_simp
  with_reducible rfl
 rotate_left
 ·simp only [Act.put,List.setIfInBounds_toArray,List.set_cons_zero,List.set_cons_succ,i64_w,i32_w]
  rfl
 refine one_ (i:=5) (N:=some 10) #[true,true,true,true,true,true,false,false,false] rfl rfl (one_of HT_.out (by kernel_rfl)) (by decide) (fun K hK => ?_)
 refine goes_ Try.func10 (by kernel_rfl) rfl #[.agg #[.int .i64 a0_0,.slice A0_1 l0_1.length c0_1,.slice A0_2 l0_2.length c0_2,.int .i64 a0_3,.int .i64 a0_4,.int .i64 a0_5,.int .i64 a0_6,.int .i64 a0_7,.slice A0_8 l0_8.length c0_8,.int .i64 a0_9]] (by rfl) rfl rfl (by (try simp only [List.map_toArray,List.map_cons,List.map_nil]);first|done|rfl|(simp only [List.length_drop,List.length_take];rfl)) ?_
 with_reducible refine (impl_NodesOf.calls a0_0 _ _ l0_1 _ _ l0_2 a0_3 a0_4 a0_5 a0_6 a0_7 _ _ l0_8 a0_9 t360 _ ?side1 ?side2 ?side3 ?side4 ?side5 ?side6 A3.out).mono ?_
 (case side1 => repeat (first|exact (Kd.C_below HR0_1.out HB.out)|(with_reducible refine Kd.C_alloc ?_ _)|(with_reducible refine Kd.C_drewN ?_ _)|(with_reducible refine Kd.C_drew ?_)))
 (case side2 => exact HC0_1.out)
 (case side3 => repeat (first|exact (Kd.C_below HR0_2.out HB.out)|(with_reducible refine Kd.C_alloc ?_ _)|(with_reducible refine Kd.C_drewN ?_ _)|(with_reducible refine Kd.C_drew ?_)))
 (case side4 => exact HC0_2.out)
 (case side5 => repeat (first|exact (Kd.C_below HR0_8.out HB.out)|(with_reducible refine Kd.C_alloc ?_ _)|(with_reducible refine Kd.C_drewN ?_ _)|(with_reducible refine Kd.C_drew ?_)))
 (case side6 => exact HC0_8.out)
 rintro e w7 ⟨rfl,hb⟩
 refine ⟨_,rfl,?_⟩
 replace BK359:=Aside0.mk (blk_below (g:=gb359) (o:=.cells #[.int .i64 a0_0,.slice A0_1 l0_1.length c0_1,.slice A0_2 l0_2.length c0_2,.int .i64 a0_3,.int .i64 a0_4,.int .i64 a0_5,.int .i64 a0_6,.int .i64 a0_7,.slice A0_8 l0_8.length c0_8,.int .i64 a0_9] 28 (0,0)) (by (with_reducible repeat (first|refine blk_drewN ?_ _|refine blk_drew ?_|refine blk_alloc ?_ _));exact BK359.out) hb)
 replace HB:=Aside0.mk (below_step (by repeat (first|(with_reducible first|exact HB.out|apply below_alloc|apply pw_below_drewN|apply below_drew1|refine below_set ?_ GE359.out)|exact HB.out)) hb)
 (try clear hb)
 refine hK.out _ _ ⟨(blk_cell BK359.out 0).trans rfl,(blk_cell BK359.out 1).trans rfl,(blk_cell BK359.out 2).trans rfl,(blk_cell BK359.out 3).trans rfl,(blk_cell BK359.out 4).trans rfl,(blk_cell BK359.out 5).trans rfl,(blk_cell BK359.out 6).trans rfl,(blk_cell BK359.out 7).trans rfl,(blk_cell BK359.out 8).trans rfl,(blk_cell BK359.out 9).trans rfl⟩ (fun hHeld => ?_)
 clear hK K
 refine norm_ (a':=?_) ?_ ?_
 rotate_left
 ·show Act.put _ (some 10) _ = _
  simp only [Act.put,List.setIfInBounds_toArray,List.set_cons_zero,List.set_cons_succ,i64_w,i32_w]
  rfl
 refine pure_ (i:=6) (N:=some 11) (v:=?_) (a':=?_) #[true,true,true,true,true,true,true,false,false] rfl rfl (any_of HT_.out (by kernel_rfl)) (fun _ _ _ h => h) (Or.inl ⟨by rfl,?_⟩) ?_ ?_
 rotate_left
 ·intro w'
  go_simp
  with_reducible rfl
 rotate_left
 ·simp only [Act.put,List.setIfInBounds_toArray,List.set_cons_zero,List.set_cons_succ,i64_w,i32_w]
  rfl
 refine one_ (i:=7) (N:=some 12) #[true,true,true,true,true,true,true,true,false] rfl rfl (one_of HT_.out (by kernel_rfl)) (by decide) (fun K hK => ?_)
 refine goes_ Try.func16 (by kernel_rfl) rfl #[.int .i64 a1,.int .i64 (l0_1.length : Int),.int .i64 (wrap64 (t360 - 1))] (by rfl) rfl rfl (by (try simp only [List.map_toArray,List.map_cons,List.map_nil]);first|done|rfl|(simp only [List.length_drop,List.length_take];rfl)) ?_
 with_reducible refine (impl_InRange.calls a1 (l0_1.length : Int) (wrap64 (t360 - 1)) t361 _ A4.out).mono ?_
 rintro e w' ⟨rfl,⟨nd,rfl⟩⟩
 refine ⟨_,rfl,?_⟩
 refine hK.out _ _ ⟨(blk_cell BK359.out 0).trans rfl,(blk_cell BK359.out 1).trans rfl,(blk_cell BK359.out 2).trans rfl,(blk_cell BK359.out 3).trans rfl,(blk_cell BK359.out 4).trans rfl,(blk_cell BK359.out 5).trans rfl,(blk_cell BK359.out 6).trans rfl,(blk_cell BK359.out 7).trans rfl,(blk_cell BK359.out 8).trans rfl,(blk_cell BK359.out 9).trans rfl⟩ (fun hHeld => ?_)
 clear hK K
 refine norm_ (a':=?_) ?_ ?_
 rotate_left
 ·show Act.put _ (some 12) _ = _
  simp only [Act.put,List.setIfInBounds_toArray,List.set_cons_zero,List.set_cons_succ,i64_w,i32_w]
  rfl
 refine pure_ (i:=8) (N:=some 4) (v:=?_) (a':=?_) #[true,true,true,true,true,true,true,true,true] rfl rfl (any_of HT_.out (by kernel_rfl)) (fun _ _ _ h => h) (Or.inl ⟨by rfl,?_⟩) ?_ ?_
 rotate_left
 ·intro w'
  go_simp
  with_reducible rfl
 rotate_left
 ·simp only [Act.put,List.setIfInBounds_toArray,List.set_cons_zero,List.set_cons_succ,i64_w,i32_w]
  rfl
 refine done_ (done_of HT_.out (by kernel_rfl)) ?_
 try go_wp2
 go_ret
 exact ⟨by first|rfl|(simp [errW_none,errW_some] <;> rfl)|(simp [*,errW_none,errW_some] <;> rfl),by repeat (first|(with_reducible first|exact HB.out|apply below_alloc|apply pw_below_drewN|apply below_drew1|refine below_set ?_ GE359.out)|exact HB.out)⟩

/-! ### impl_isSatellite: function 14 -/
def impl_isSatellite.f (a0_0 : Int) (l0_1 : List (S43)) (l0_2 : List (S46)) (a0_3 : Int) (a0_4 : Int) (a0_5 : Int) (a0_6 : Int) (a0_7 : Int) (l0_8 : List (S50)) (a0_9 : Int) (a1 : Int) : Option (Bool):=(impl_InRange.f a1 0 (wrap64 ((l0_1.length : Int) - 1))).bind fun t363 => (some t363)
set_option maxHeartbeats 8000000 in
set_option maxRecDepth 100000 in
theorem impl_isSatellite.calls (a0_0 : Int) (A0_1 : Option Addr) (c0_1 : Nat) (l0_1 : List (S43)) (A0_2 : Option Addr) (c0_2 : Nat) (l0_2 : List (S46)) (a0_3 : Int) (a0_4 : Int) (a0_5 : Int) (a0_6 : Int) (a0_7 : Int) (A0_8 : Option Addr) (c0_8 : Nat) (l0_8 : List (S50)) (a0_9 : Int) (a1 : Int) (r : Bool) (w : World) (hr0_1 : Kd.C k43 w A0_1 l0_1.length l0_1) (hc0_1 : l0_1.length ≤ c0_1) (hr0_2 : Kd.C k46 w A0_2 l0_2.length l0_2) (hc0_2 : l0_2.length ≤ c0_2) (hr0_8 : Kd.C k50 w A0_8 l0_8.length l0_8) (hc0_8 : l0_8.length ≤ c0_8) (h : impl_isSatellite.f a0_0 l0_1 l0_2 a0_3 a0_4 a0_5 a0_6 a0_7 l0_8 a0_9 a1 = some r) :
  Calls Try.prog 14 #[.agg #[.int .i64 a0_0,.slice A0_1 l0_1.length c0_1,.slice A0_2 l0_2.length c0_2,.int .i64 a0_3,.int .i64 a0_4,.int .i64 a0_5,.int .i64 a0_6,.int .i64 a0_7,.slice A0_8 l0_8.length c0_8,.int .i64 a0_9],.int .i64 a1] w fun e w' => e = .returned (.bool r) ∧ Below w.heap.size w w':=by
 have hu28:=Try.underlying28
 have HR0_1:=Aside0.mk hr0_1
 have HC0_1:=Aside0.mk hc0_1
 clear hr0_1 hc0_1
 have HR0_2:=Aside0.mk hr0_2
 have HC0_2:=Aside0.mk hc0_2
 clear hr0_2 hc0_2
 have HR0_8:=Aside0.mk hr0_8
 have HC0_8:=Aside0.mk hc0_8
 clear hr0_8 hc0_8
 have HB:=Aside0.mk (Below.refl w.heap.size w)
 have H : ((impl_InRange.f a1 0 (wrap64 ((l0_1.length : Int) - 1))).bind fun t363 => (some t363)) = some r:=h
 clear h
 replace H:=Option.bind_eq_some_iff.mp H
 obtain ⟨t363,A30,H⟩:=H
 replace H : (some t363) = some r:=H
 have A3:=Aside0.mk A30
 clear A30
 obtain rfl:=Option.some.inj H
 go_enter Try.func14,Try.ntmps14
 go_wp2_with (first|((with_reducible refine gate_dst (N:=2) rfl ?_);refine box_event ?hg (N:=2) ?hd (cs:=#[.int .i64 a0_0,.slice A0_1 l0_1.length c0_1,.slice A0_2 l0_2.length c0_2,.int .i64 a0_3,.int .i64 a0_4,.int .i64 a0_5,.int .i64 a0_6,.int .i64 a0_7,.slice A0_8 l0_8.length c0_8,.int .i64 a0_9]) (t:=28) ?hr ?_;(case hd => rfl);(case hg => rfl);(case hr => first|(go_simp;done)|(go_simp;rfl));intro gb362 hg w4 hbox hb;have BK362:=Aside0.mk (hbox);have GE362:=Aside0.mk ((by rw [hg];exact (below_size (by repeat (first|(with_reducible first|exact HB.out|apply below_alloc|apply pw_below_drewN|apply below_drew1)|exact HB.out))) : w.heap.size ≤ gb362));replace HB:=Aside0.mk (below_step (by repeat (first|(with_reducible first|exact HB.out|apply below_alloc|apply pw_below_drewN|apply below_drew1)|exact HB.out)) hb);clear hb hbox hg;have hcz5_0 : w4.cell? ⟨gb362,0,none⟩ = some (.int .i64 a0_0):=(blk_cell BK362.out 0).trans rfl;have hcz5_1 : w4.cell? ⟨gb362,1,none⟩ = some (.slice A0_1 l0_1.length c0_1):=(blk_cell BK362.out 1).trans rfl;have hcz5_2 : w4.cell? ⟨gb362,2,none⟩ = some (.slice A0_2 l0_2.length c0_2):=(blk_cell BK362.out 2).trans rfl;have hcz5_3 : w4.cell? ⟨gb362,3,none⟩ = some (.int .i64 a0_3):=(blk_cell BK362.out 3).trans rfl;have hcz5_4 : w4.cell? ⟨gb362,4,none⟩ = some (.int .i64 a0_4):=(blk_cell BK362.out 4).trans rfl;have hcz5_5 : w4.cell? ⟨gb362,5,none⟩ = some (.int .i64 a0_5):=(blk_cell BK362.out 5).trans rfl;have hcz5_6 : w4.cell? ⟨gb362,6,none⟩ = some (.int .i64 a0_6):=(blk_cell BK362.out 6).trans rfl;have hcz5_7 : w4.cell? ⟨gb362,7,none⟩ = some (.int .i64 a0_7):=(blk_cell BK362.out 7).trans rfl;have hcz5_8 : w4.cell? ⟨gb362,8,none⟩ = some (.slice A0_8 l0_8.length c0_8):=(blk_cell BK362.out 8).trans rfl;have hcz5_9 : w4.cell? ⟨gb362,9,none⟩ = some (.int .i64 a0_9):=(blk_cell BK362.out 9).trans rfl;have hfz5_0:=blk_frozen BK362.out 0;have hfz5_1:=blk_frozen BK362.out 1;have hfz5_2:=blk_frozen BK362.out 2;have hfz5_3:=blk_frozen BK362.out 3;have hfz5_4:=blk_frozen BK362.out 4;have hfz5_5:=blk_frozen BK362.out 5;have hfz5_6:=blk_frozen BK362.out 6;have hfz5_7:=blk_frozen BK362.out 7;have hfz5_8:=blk_frozen BK362.out 8;have hfz5_9:=blk_frozen BK362.out 9)|((with_reducible refine gate_callee (f:=16) rfl ?_);refine goesL_ (some 10) rfl rfl Try.func16 (by kernel_rfl) rfl #[.int .i64 a1,.int .i64 0,.int .i64 (wrap64 ((l0_1.length : Int) - 1))] rfl (by (try simp only [List.map_toArray,List.map_cons,List.map_nil]);first|done|rfl|(simp only [List.length_drop,List.length_take];rfl)) ?_;(with_reducible refine (impl_InRange.calls a1 0 (wrap64 ((l0_1.length : Int) - 1)) t363 _ A3.out).mono ?_);rintro e w' ⟨rfl,⟨nd,rfl⟩⟩;refine ⟨_,rfl,?_⟩))
 go_ret
 exact ⟨by first|rfl|(simp [errW_none,errW_some] <;> rfl)|(simp [*,errW_none,errW_some] <;> rfl),by repeat (first|(with_reducible first|exact HB.out|apply below_alloc|apply pw_below_drewN|apply below_drew1|refine below_set ?_ GE362.out)|exact HB.out)⟩

/-! ### impl_PlaneOf: function 9 -/
def impl_PlaneOf.f (a0_0 : Int) (l0_1 : List (S43)) (l0_2 : List (S46)) (a0_3 : Int) (a0_4 : Int) (a0_5 : Int) (a0_6 : Int) (a0_7 : Int) (l0_8 : List (S50)) (a0_9 : Int) (a1 : Int) : Option (Int):=(impl_isSatellite.f a0_0 l0_1 l0_2 a0_3 a0_4 a0_5 a0_6 a0_7 l0_8 a0_9 a1).bind fun t365 => (if t365 = true then (if 0 ≤ a1 then (if a1 < (l0_1.length : Int) then (some ((rd_T43 l0_1 a1).f0)) else (none)) else (none)) else ((impl_IsSite.f a0_0 l0_1 l0_2 a0_3 a0_4 a0_5 a0_6 a0_7 l0_8 a0_9 a1).bind fun t367 => (if t367 = true then (if 0 ≤ (wrap64 (a1 - (l0_1.length : Int))) then (if (wrap64 (a1 - (l0_1.length : Int))) < (l0_2.length : Int) then (some ((rd_T46 l0_2 (wrap64 (a1 - (l0_1.length : Int)))).f0)) else (none)) else (none)) else (some (-1)))))
set_option maxHeartbeats 8000000 in
set_option maxRecDepth 100000 in
theorem impl_PlaneOf.calls (a0_0 : Int) (A0_1 : Option Addr) (c0_1 : Nat) (l0_1 : List (S43)) (A0_2 : Option Addr) (c0_2 : Nat) (l0_2 : List (S46)) (a0_3 : Int) (a0_4 : Int) (a0_5 : Int) (a0_6 : Int) (a0_7 : Int) (A0_8 : Option Addr) (c0_8 : Nat) (l0_8 : List (S50)) (a0_9 : Int) (a1 : Int) (r : Int) (w : World) (hr0_1 : Kd.C k43 w A0_1 l0_1.length l0_1) (hc0_1 : l0_1.length ≤ c0_1) (hr0_2 : Kd.C k46 w A0_2 l0_2.length l0_2) (hc0_2 : l0_2.length ≤ c0_2) (hr0_8 : Kd.C k50 w A0_8 l0_8.length l0_8) (hc0_8 : l0_8.length ≤ c0_8) (h : impl_PlaneOf.f a0_0 l0_1 l0_2 a0_3 a0_4 a0_5 a0_6 a0_7 l0_8 a0_9 a1 = some r) :
  Calls Try.prog 9 #[.agg #[.int .i64 a0_0,.slice A0_1 l0_1.length c0_1,.slice A0_2 l0_2.length c0_2,.int .i64 a0_3,.int .i64 a0_4,.int .i64 a0_5,.int .i64 a0_6,.int .i64 a0_7,.slice A0_8 l0_8.length c0_8,.int .i64 a0_9],.int .i64 a1] w fun e w' => e = .returned (.int .i64 r) ∧ Below w.heap.size w w':=by
 have hu28:=Try.underlying28
 have HR0_1:=Aside0.mk hr0_1
 have HC0_1:=Aside0.mk hc0_1
 clear hr0_1 hc0_1
 have HR0_2:=Aside0.mk hr0_2
 have HC0_2:=Aside0.mk hc0_2
 clear hr0_2 hc0_2
 have HR0_8:=Aside0.mk hr0_8
 have HC0_8:=Aside0.mk hc0_8
 clear hr0_8 hc0_8
 have HB:=Aside0.mk (Below.refl w.heap.size w)
 have H : ((impl_isSatellite.f a0_0 l0_1 l0_2 a0_3 a0_4 a0_5 a0_6 a0_7 l0_8 a0_9 a1).bind fun t365 => (if t365 = true then (if 0 ≤ a1 then (if a1 < (l0_1.length : Int) then (some ((rd_T43 l0_1 a1).f0)) else (none)) else (none)) else ((impl_IsSite.f a0_0 l0_1 l0_2 a0_3 a0_4 a0_5 a0_6 a0_7 l0_8 a0_9 a1).bind fun t367 => (if t367 = true then (if 0 ≤ (wrap64 (a1 - (l0_1.length : Int))) then (if (wrap64 (a1 - (l0_1.length : Int))) < (l0_2.length : Int) then (some ((rd_T46 l0_2 (wrap64 (a1 - (l0_1.length : Int)))).f0)) else (none)) else (none)) else (some (-1)))))) = some r:=h
 clear h
 replace H:=Option.bind_eq_some_iff.mp H
 obtain ⟨t365,A30,H⟩:=H
 replace H : (if t365 = true then (if 0 ≤ a1 then (if a1 < (l0_1.length : Int) then (some ((rd_T43 l0_1 a1).f0)) else (none)) else (none)) else ((impl_IsSite.f a0_0 l0_1 l0_2 a0_3 a0_4 a0_5 a0_6 a0_7 l0_8 a0_9 a1).bind fun t367 => (if t367 = true then (if 0 ≤ (wrap64 (a1 - (l0_1.length : Int))) then (if (wrap64 (a1 - (l0_1.length : Int))) < (l0_2.length : Int) then (some ((rd_T46 l0_2 (wrap64 (a1 - (l0_1.length : Int)))).f0)) else (none)) else (none)) else (some (-1))))) = some r:=H
 have A3:=Aside0.mk A30
 clear A30
 by_cases c4 : t365 = true
 ·subst c4
  have H1 : (if 0 ≤ a1 then (if a1 < (l0_1.length : Int) then (some ((rd_T43 l0_1 a1).f0)) else (none)) else (none)) = some r:=by rw [if_pos rfl] at H;exact H
  clear H
  have H:=H1
  clear H1
  by_cases c5 : 0 ≤ a1
  ·rw [if_pos c5] at H
   have c5b0 : decide (0 ≤ a1) = true:=decide_eq_true c5
   clear c5
   by_cases c6 : a1 < (l0_1.length : Int)
   ·rw [if_pos c6] at H
    have c6b0 : decide (a1 < (l0_1.length : Int)) = true:=decide_eq_true c6
    clear c6
    obtain rfl:=Option.some.inj H
    go_enter Try.func9,Try.ntmps9
    go_wp2_with (first|((with_reducible refine gate_dst (N:=2) rfl ?_);refine box_event ?hg (N:=2) ?hd (cs:=#[.int .i64 a0_0,.slice A0_1 l0_1.length c0_1,.slice A0_2 l0_2.length c0_2,.int .i64 a0_3,.int .i64 a0_4,.int .i64 a0_5,.int .i64 a0_6,.int .i64 a0_7,.slice A0_8 l0_8.length c0_8,.int .i64 a0_9]) (t:=28) ?hr ?_;(case hd => rfl);(case hg => rfl);(case hr => first|(go_simp;done)|(go_simp;rfl));intro gb364 hg w7 hbox hb;have BK364:=Aside0.mk (hbox);have GE364:=Aside0.mk ((by rw [hg];exact (below_size (by repeat (first|(with_reducible first|exact HB.out|apply below_alloc|apply pw_below_drewN|apply below_drew1)|exact HB.out))) : w.heap.size ≤ gb364));replace HB:=Aside0.mk (below_step (by repeat (first|(with_reducible first|exact HB.out|apply below_alloc|apply pw_below_drewN|apply below_drew1)|exact HB.out)) hb);clear hb hbox hg;have hcz8_0 : w7.cell? ⟨gb364,0,none⟩ = some (.int .i64 a0_0):=(blk_cell BK364.out 0).trans rfl;have hcz8_1 : w7.cell? ⟨gb364,1,none⟩ = some (.slice A0_1 l0_1.length c0_1):=(blk_cell BK364.out 1).trans rfl;have hcz8_2 : w7.cell? ⟨gb364,2,none⟩ = some (.slice A0_2 l0_2.length c0_2):=(blk_cell BK364.out 2).trans rfl;have hcz8_3 : w7.cell? ⟨gb364,3,none⟩ = some (.int .i64 a0_3):=(blk_cell BK364.out 3).trans rfl;have hcz8_4 : w7.cell? ⟨gb364,4,none⟩ = some (.int .i64 a0_4):=(blk_cell BK364.out 4).trans rfl;have hcz8_5 : w7.cell? ⟨gb364,5,none⟩ = some (.int .i64 a0_5):=(blk_cell BK364.out 5).trans rfl;have hcz8_6 : w7.cell? ⟨gb364,6,none⟩ = some (.int .i64 a0_6):=(blk_cell BK364.out 6).trans rfl;have hcz8_7 : w7.cell? ⟨gb364,7,none⟩ = some (.int .i64 a0_7):=(blk_cell BK364.out 7).trans rfl;have hcz8_8 : w7.cell? ⟨gb364,8,none⟩ = some (.slice A0_8 l0_8.length c0_8):=(blk_cell BK364.out 8).trans rfl;have hcz8_9 : w7.cell? ⟨gb364,9,none⟩ = some (.int .i64 a0_9):=(blk_cell BK364.out 9).trans rfl;have hfz8_0:=blk_frozen BK364.out 0;have hfz8_1:=blk_frozen BK364.out 1;have hfz8_2:=blk_frozen BK364.out 2;have hfz8_3:=blk_frozen BK364.out 3;have hfz8_4:=blk_frozen BK364.out 4;have hfz8_5:=blk_frozen BK364.out 5;have hfz8_6:=blk_frozen BK364.out 6;have hfz8_7:=blk_frozen BK364.out 7;have hfz8_8:=blk_frozen BK364.out 8;have hfz8_9:=blk_frozen BK364.out 9)|((with_reducible refine gate_callee (f:=14) rfl ?_);refine goesL_ (some 8) rfl rfl Try.func14 (by kernel_rfl) rfl #[.agg #[.int .i64 a0_0,.slice A0_1 l0_1.length c0_1,.slice A0_2 l0_2.length c0_2,.int .i64 a0_3,.int .i64 a0_4,.int .i64 a0_5,.int .i64 a0_6,.int .i64 a0_7,.slice A0_8 l0_8.length c0_8,.int .i64 a0_9],.int .i64 a1] rfl (by (try simp only [List.map_toArray,List.map_cons,List.map_nil]);first|done|rfl|(simp only [List.length_drop,List.length_take];rfl)) ?_;(with_reducible refine (impl_isSatellite.calls a0_0 _ _ l0_1 _ _ l0_2 a0_3 a0_4 a0_5 a0_6 a0_7 _ _ l0_8 a0_9 a1 true _ ?side1 ?side2 ?side3 ?side4 ?side5 ?side6 A3.out).mono ?_);(case side1 => repeat (first|exact (Kd.C_below HR0_1.out HB.out)|(with_reducible refine Kd.C_alloc ?_ _)|(with_reducible refine Kd.C_drewN ?_ _)|(with_reducible refine Kd.C_drew ?_)));(case side2 => exact HC0_1.out);(case side3 => repeat (first|exact (Kd.C_below HR0_2.out HB.out)|(with_reducible refine Kd.C_alloc ?_ _)|(with_reducible refine Kd.C_drewN ?_ _)|(with_reducible refine Kd.C_drew ?_)));(case side4 => exact HC0_2.out);(case side5 => repeat (first|exact (Kd.C_below HR0_8.out HB.out)|(with_reducible refine Kd.C_alloc ?_ _)|(with_reducible refine Kd.C_drewN ?_ _)|(with_reducible refine Kd.C_drew ?_)));(case side6 => exact HC0_8.out);rintro e w9 ⟨rfl,hb⟩;refine ⟨_,rfl,?_⟩;replace BK364:=Aside0.mk (blk_below (g:=gb364) (o:=.cells #[.int .i64 a0_0,.slice A0_1 l0_1.length c0_1,.slice A0_2 l0_2.length c0_2,.int .i64 a0_3,.int .i64 a0_4,.int .i64 a0_5,.int .i64 a0_6,.int .i64 a0_7,.slice A0_8 l0_8.length c0_8,.int .i64 a0_9] 28 (0,0)) (by (with_reducible repeat (first|refine blk_drewN ?_ _|refine blk_drew ?_|refine blk_alloc ?_ _));exact BK364.out) hb);replace HB:=Aside0.mk (below_step (by repeat (first|(with_reducible first|exact HB.out|apply below_alloc|apply pw_below_drewN|apply below_drew1|refine below_set ?_ GE364.out)|exact HB.out)) hb);(try clear hb);(try clear hb2);(try clear hk);(try clear hi);have hcz10_0 : w9.cell? ⟨gb364,0,none⟩ = some (.int .i64 a0_0):=(blk_cell BK364.out 0).trans rfl;have hcz10_1 : w9.cell? ⟨gb364,1,none⟩ = some (.slice A0_1 l0_1.length c0_1):=(blk_cell BK364.out 1).trans rfl;have hcz10_2 : w9.cell? ⟨gb364,2,none⟩ = some (.slice A0_2 l0_2.length c0_2):=(blk_cell BK364.out 2).trans rfl;have hcz10_3 : w9.cell? ⟨gb364,3,none⟩ = some (.int .i64 a0_3):=(blk_cell BK364.out 3).trans rfl;have hcz10_4 : w9.cell? ⟨gb364,4,none⟩ = some (.int .i64 a0_4):=(blk_cell BK364.out 4).trans rfl;have hcz10_5 : w9.cell? ⟨gb364,5,none⟩ = some (.int .i64 a0_5):=(blk_cell BK364.out 5).trans rfl;have hcz10_6 : w9.cell? ⟨gb364,6,none⟩ = some (.int .i64 a0_6):=(blk_cell BK364.out 6).trans rfl;have hcz10_7 : w9.cell? ⟨gb364,7,none⟩ = some (.int .i64 a0_7):=(blk_cell BK364.out 7).trans rfl;have hcz10_8 : w9.cell? ⟨gb364,8,none⟩ = some (.slice A0_8 l0_8.length c0_8):=(blk_cell BK364.out 8).trans rfl;have hcz10_9 : w9.cell? ⟨gb364,9,none⟩ = some (.int .i64 a0_9):=(blk_cell BK364.out 9).trans rfl;have hfz10_0:=blk_frozen BK364.out 0;have hfz10_1:=blk_frozen BK364.out 1;have hfz10_2:=blk_frozen BK364.out 2;have hfz10_3:=blk_frozen BK364.out 3;have hfz10_4:=blk_frozen BK364.out 4;have hfz10_5:=blk_frozen BK364.out 5;have hfz10_6:=blk_frozen BK364.out 6;have hfz10_7:=blk_frozen BK364.out 7;have hfz10_8:=blk_frozen BK364.out 8;have hfz10_9:=blk_frozen BK364.out 9;have p366 : 0 ≤ (a1 : Int):=of_decide_eq_true (by first|(with_reducible assumption)|assumption);have q366 : a1 < (l0_1.length : Int):=of_decide_eq_true (by first|(with_reducible assumption)|assumption);obtain ⟨ad366,e366,hx366_0,hx366_1,hx366_2,hx366_3⟩:=at_T43 HR0_1.out a1 p366 q366;cases e366;replace hx366_0:=(HB.out.cell (World.block_lt_of_cell? w _ hx366_0)).trans hx366_0;replace hx366_1:=(HB.out.cell (World.block_lt_of_cell? w _ hx366_1)).trans hx366_1;replace hx366_2:=(HB.out.cell (World.block_lt_of_cell? w _ hx366_2)).trans hx366_2;replace hx366_3:=(HB.out.cell (World.block_lt_of_cell? w _ hx366_3)).trans hx366_3;replace p366:=eq_true p366;replace q366:=eq_true q366))
    go_ret
    exact ⟨by first|rfl|(simp [errW_none,errW_some] <;> rfl)|(simp [*,errW_none,errW_some] <;> rfl),by repeat (first|(with_reducible first|exact HB.out|apply below_alloc|apply pw_below_drewN|apply below_drew1|refine below_set ?_ GE364.out)|exact HB.out)⟩
   ·rw [if_neg c6] at H
    exact absurd H (by simp)
  ·rw [if_neg c5] at H
   exact absurd H (by simp)
 ·replace c4:=Bool.eq_false_iff.mpr c4
  subst c4
  have H1 : ((impl_IsSite.f a0_0 l0_1 l0_2 a0_3 a0_4 a0_5 a0_6 a0_7 l0_8 a0_9 a1).bind fun t367 => (if t367 = true then (if 0 ≤ (wrap64 (a1 - (l0_1.length : Int))) then (if (wrap64 (a1 - (l0_1.length : Int))) < (l0_2.length : Int) then (some ((rd_T46 l0_2 (wrap64 (a1 - (l0_1.length : Int)))).f0)) else (none)) else (none)) else (some (-1)))) = some r:=by rw [if_neg (show ¬ (false = true) by decide)] at H;exact H
  clear H
  have H:=H1
  clear H1
  replace H:=Option.bind_eq_some_iff.mp H
  obtain ⟨t367,A110,H⟩:=H
  replace H : (if t367 = true then (if 0 ≤ (wrap64 (a1 - (l0_1.length : Int))) then (if (wrap64 (a1 - (l0_1.length : Int))) < (l0_2.length : Int) then (some ((rd_T46 l0_2 (wrap64 (a1 - (l0_1.length : Int)))).f0)) else (none)) else (none)) else (some (-1))) = some r:=H
  have A11:=Aside0.mk A110
  clear A110
  by_cases c12 : t367 = true
  ·subst c12
   have H1 : (if 0 ≤ (wrap64 (a1 - (l0_1.length : Int))) then (if (wrap64 (a1 - (l0_1.length : Int))) < (l0_2.length : Int) then (some ((rd_T46 l0_2 (wrap64 (a1 - (l0_1.length : Int)))).f0)) else (none)) else (none)) = some r:=by rw [if_pos rfl] at H;exact H
   clear H
   have H:=H1
   clear H1
   obtain ⟨ji13,hji13⟩ : ∃ j_ : Int,(wrap64 (a1 - (l0_1.length : Int))) = j_:=⟨_,rfl⟩
   replace H : (if 0 ≤ (ji13) then (if (ji13) < (l0_2.length : Int) then (some ((rd_T46 l0_2 (ji13)).f0)) else (none)) else (none)) = some r:=by first|(rw [hji13] at H;exact H)|(simp only [hji13] at H ⊢;exact H)
   (try rw [hji13] at A3)
   (try rw [hji13] at A11)
   have hji13w : (IntKind.i64.wrap (a1 - (l0_1.length : Int))) = ji13:=(i64_w _).trans hji13
   by_cases c14 : 0 ≤ (ji13)
   ·rw [if_pos c14] at H
    have c14b0 : decide (0 ≤ (ji13)) = true:=decide_eq_true c14
    clear c14
    by_cases c15 : (ji13) < (l0_2.length : Int)
    ·rw [if_pos c15] at H
     have c15b0 : decide ((ji13) < (l0_2.length : Int)) = true:=decide_eq_true c15
     clear c15
     obtain rfl:=Option.some.inj H
     go_enter Try.func9,Try.ntmps9
     go_wp2_with (first|((with_reducible refine gate_dst (N:=2) rfl ?_);refine box_event ?hg (N:=2) ?hd (cs:=#[.int .i64 a0_0,.slice A0_1 l0_1.length c0_1,.slice A0_2 l0_2.length c0_2,.int .i64 a0_3,.int .i64 a0_4,.int .i64 a0_5,.int .i64 a0_6,.int .i64 a0_7,.slice A0_8 l0_8.length c0_8,.int .i64 a0_9]) (t:=28) ?hr ?_;(case hd => rfl);(case hg => rfl);(case hr => first|(go_simp;done)|(go_simp;rfl));intro gb364 hg w16 hbox hb;have BK364:=Aside0.mk (hbox);have GE364:=Aside0.mk ((by rw [hg];exact (below_size (by repeat (first|(with_reducible first|exact HB.out|apply below_alloc|apply pw_below_drewN|apply below_drew1)|exact HB.out))) : w.heap.size ≤ gb364));replace HB:=Aside0.mk (below_step (by repeat (first|(with_reducible first|exact HB.out|apply below_alloc|apply pw_below_drewN|apply below_drew1)|exact HB.out)) hb);clear hb hbox hg;have hcz17_0 : w16.cell? ⟨gb364,0,none⟩ = some (.int .i64 a0_0):=(blk_cell BK364.out 0).trans rfl;have hcz17_1 : w16.cell? ⟨gb364,1,none⟩ = some (.slice A0_1 l0_1.length c0_1):=(blk_cell BK364.out 1).trans rfl;have hcz17_2 : w16.cell? ⟨gb364,2,none⟩ = some (.slice A0_2 l0_2.length c0_2):=(blk_cell BK364.out 2).trans rfl;have hcz17_3 : w16.cell? ⟨gb364,3,none⟩ = some (.int .i64 a0_3):=(blk_cell BK364.out 3).trans rfl;have hcz17_4 : w16.cell? ⟨gb364,4,none⟩ = some (.int .i64 a0_4):=(blk_cell BK364.out 4).trans rfl;have hcz17_5 : w16.cell? ⟨gb364,5,none⟩ = some (.int .i64 a0_5):=(blk_cell BK364.out 5).trans rfl;have hcz17_6 : w16.cell? ⟨gb364,6,none⟩ = some (.int .i64 a0_6):=(blk_cell BK364.out 6).trans rfl;have hcz17_7 : w16.cell? ⟨gb364,7,none⟩ = some (.int .i64 a0_7):=(blk_cell BK364.out 7).trans rfl;have hcz17_8 : w16.cell? ⟨gb364,8,none⟩ = some (.slice A0_8 l0_8.length c0_8):=(blk_cell BK364.out 8).trans rfl;have hcz17_9 : w16.cell? ⟨gb364,9,none⟩ = some (.int .i64 a0_9):=(blk_cell BK364.out 9).trans rfl;have hfz17_0:=blk_frozen BK364.out 0;have hfz17_1:=blk_frozen BK364.out 1;have hfz17_2:=blk_frozen BK364.out 2;have hfz17_3:=blk_frozen BK364.out 3;have hfz17_4:=blk_frozen BK364.out 4;have hfz17_5:=blk_frozen BK364.out 5;have hfz17_6:=blk_frozen BK364.out 6;have hfz17_7:=blk_frozen BK364.out 7;have hfz17_8:=blk_frozen BK364.out 8;have hfz17_9:=blk_frozen BK364.out 9)|((with_reducible refine gate_callee (f:=14) rfl ?_);refine goesL_ (some 8) rfl rfl Try.func14 (by kernel_rfl) rfl #[.agg #[.int .i64 a0_0,.slice A0_1 l0_1.length c0_1,.slice A0_2 l0_2.length c0_2,.int .i64 a0_3,.int .i64 a0_4,.int .i64 a0_5,.int .i64 a0_6,.int .i64 a0_7,.slice A0_8 l0_8.length c0_8,.int .i64 a0_9],.int .i64 a1] rfl (by (try simp only [List.map_toArray,List.map_cons,List.map_nil]);first|done|rfl|(simp only [List.length_drop,List.length_take];rfl)) ?_;(with_reducible refine (impl_isSatellite.calls a0_0 _ _ l0_1 _ _ l0_2 a0_3 a0_4 a0_5 a0_6 a0_7 _ _ l0_8 a0_9 a1 false _ ?side1 ?side2 ?side3 ?side4 ?side5 ?side6 A3.out).mono ?_);(case side1 => repeat (first|exact (Kd.C_below HR0_1.out HB.out)|(with_reducible refine Kd.C_alloc ?_ _)|(with_reducible refine Kd.C_drewN ?_ _)|(with_reducible refine Kd.C_drew ?_)));(case side2 => exact HC0_1.out);(case side3 => repeat (first|exact (Kd.C_below HR0_2.out HB.out)|(with_reducible refine Kd.C_alloc ?_ _)|(with_reducible refine Kd.C_drewN ?_ _)|(with_reducible refine Kd.C_drew ?_)));(case side4 => exact HC0_2.out);(case side5 => repeat (first|exact (Kd.C_below HR0_8.out HB.out)|(with_reducible refine Kd.C_alloc ?_ _)|(with_reducible refine Kd.C_drewN ?_ _)|(with_reducible refine Kd.C_drew ?_)));(case side6 => exact HC0_8.out);rintro e w18 ⟨rfl,hb⟩;refine ⟨_,rfl,?_⟩;replace BK364:=Aside0.mk (blk_below (g:=gb364) (o:=.cells #[.int .i64 a0_0,.slice A0_1 l0_1.length c0_1,.slice A0_2 l0_2.length c0_2,.int .i64 a0_3,.int .i64 a0_4,.int .i64 a0_5,.int .i64 a0_6,.int .i64 a0_7,.slice A0_8 l0_8.length c0_8,.int .i64 a0_9] 28 (0,0)) (by (with_reducible repeat (first|refine blk_drewN ?_ _|refine blk_drew ?_|refine blk_alloc ?_ _));exact BK364.out) hb);replace HB:=Aside0.mk (below_step (by repeat (first|(with_reducible first|exact HB.out|apply below_alloc|apply pw_below_drewN|apply below_drew1|refine below_set ?_ GE364.out)|exact HB.out)) hb);(try clear hb);(try clear hb2);(try clear hk);(try clear hi);have hcz19_0 : w18.cell? ⟨gb364,0,none⟩ = some (.int .i64 a0_0):=(blk_cell BK364.out 0).trans rfl;have hcz19_1 : w18.cell? ⟨gb364,1,none⟩ = some (.slice A0_1 l0_1.length c0_1):=(blk_cell BK364.out 1).trans rfl;have hcz19_2 : w18.cell? ⟨gb364,2,none⟩ = some (.slice A0_2 l0_2.length c0_2):=(blk_cell BK364.out 2).trans rfl;have hcz19_3 : w18.cell? ⟨gb364,3,none⟩ = some (.int .i64 a0_3):=(blk_cell BK364.out 3).trans rfl;have hcz19_4 : w18.cell? ⟨gb364,4,none⟩ = some (.int .i64 a0_4):=(blk_cell BK364.out 4).trans rfl;have hcz19_5 : w18.cell? ⟨gb364,5,none⟩ = some (.int .i64 a0_5):=(blk_cell BK364.out 5).trans rfl;have hcz19_6 : w18.cell? ⟨gb364,6,none⟩ = some (.int .i64 a0_6):=(blk_cell BK364.out 6).trans rfl;have hcz19_7 : w18.cell? ⟨gb364,7,none⟩ = some (.int .i64 a0_7):=(blk_cell BK364.out 7).trans rfl;have hcz19_8 : w18.cell? ⟨gb364,8,none⟩ = some (.slice A0_8 l0_8.length c0_8):=(blk_cell BK364.out 8).trans rfl;have hcz19_9 : w18.cell? ⟨gb364,9,none⟩ = some (.int .i64 a0_9):=(blk_cell BK364.out 9).trans rfl;have hfz19_0:=blk_frozen BK364.out 0;have hfz19_1:=blk_frozen BK364.out 1;have hfz19_2:=blk_frozen BK364.out 2;have hfz19_3:=blk_frozen BK364.out 3;have hfz19_4:=blk_frozen BK364.out 4;have hfz19_5:=blk_frozen BK364.out 5;have hfz19_6:=blk_frozen BK364.out 6;have hfz19_7:=blk_frozen BK364.out 7;have hfz19_8:=blk_frozen BK364.out 8;have hfz19_9:=blk_frozen BK364.out 9)|((with_reducible refine gate_callee (f:=7) rfl ?_);refine goesL_ (some 18) rfl rfl Try.func7 (by kernel_rfl) rfl #[.agg #[.int .i64 a0_0,.slice A0_1 l0_1.length c0_1,.slice A0_2 l0_2.length c0_2,.int .i64 a0_3,.int .i64 a0_4,.int .i64 a0_5,.int .i64 a0_6,.int .i64 a0_7,.slice A0_8 l0_8.length c0_8,.int .i64 a0_9],.int .i64 a1] rfl (by (try simp only [List.map_toArray,List.map_cons,List.map_nil]);first|done|rfl|(simp only [List.length_drop,List.length_take];rfl)) ?_;(with_reducible refine (impl_IsSite.calls a0_0 _ _ l0_1 _ _ l0_2 a0_3 a0_4 a0_5 a0_6 a0_7 _ _ l0_8 a0_9 a1 true _ ?side1 ?side2 ?side3 ?side4 ?side5 ?side6 A11.out).mono ?_);(case side1 => repeat (first|exact (Kd.C_below HR0_1.out HB.out)|(with_reducible refine Kd.C_alloc ?_ _)|(with_reducible refine Kd.C_drewN ?_ _)|(with_reducible refine Kd.C_drew ?_)));(case side2 => exact HC0_1.out);(case side3 => repeat (first|exact (Kd.C_below HR0_2.out HB.out)|(with_reducible refine Kd.C_alloc ?_ _)|(with_reducible refine Kd.C_drewN ?_ _)|(with_reducible refine Kd.C_drew ?_)));(case side4 => exact HC0_2.out);(case side5 => repeat (first|exact (Kd.C_below HR0_8.out HB.out)|(with_reducible refine Kd.C_alloc ?_ _)|(with_reducible refine Kd.C_drewN ?_ _)|(with_reducible refine Kd.C_drew ?_)));(case side6 => exact HC0_8.out);rintro e w20 ⟨rfl,hb⟩;refine ⟨_,rfl,?_⟩;replace BK364:=Aside0.mk (blk_below (g:=gb364) (o:=.cells #[.int .i64 a0_0,.slice A0_1 l0_1.length c0_1,.slice A0_2 l0_2.length c0_2,.int .i64 a0_3,.int .i64 a0_4,.int .i64 a0_5,.int .i64 a0_6,.int .i64 a0_7,.slice A0_8 l0_8.length c0_8,.int .i64 a0_9] 28 (0,0)) (by (with_reducible repeat (first|refine blk_drewN ?_ _|refine blk_drew ?_|refine blk_alloc ?_ _));exact BK364.out) hb);replace HB:=Aside0.mk (below_step (by repeat (first|(with_reducible first|exact HB.out|apply below_alloc|apply pw_below_drewN|apply below_drew1|refine below_set ?_ GE364.out)|exact HB.out)) hb);(try clear hb);(try clear hb2);(try clear hk);(try clear hi);have hcz21_0 : w20.cell? ⟨gb364,0,none⟩ = some (.int .i64 a0_0):=(blk_cell BK364.out 0).trans rfl;have hcz21_1 : w20.cell? ⟨gb364,1,none⟩ = some (.slice A0_1 l0_1.length c0_1):=(blk_cell BK364.out 1).trans rfl;have hcz21_2 : w20.cell? ⟨gb364,2,none⟩ = some (.slice A0_2 l0_2.length c0_2):=(blk_cell BK364.out 2).trans rfl;have hcz21_3 : w20.cell? ⟨gb364,3,none⟩ = some (.int .i64 a0_3):=(blk_cell BK364.out 3).trans rfl;have hcz21_4 : w20.cell? ⟨gb364,4,none⟩ = some (.int .i64 a0_4):=(blk_cell BK364.out 4).trans rfl;have hcz21_5 : w20.cell? ⟨gb364,5,none⟩ = some (.int .i64 a0_5):=(blk_cell BK364.out 5).trans rfl;have hcz21_6 : w20.cell? ⟨gb364,6,none⟩ = some (.int .i64 a0_6):=(blk_cell BK364.out 6).trans rfl;have hcz21_7 : w20.cell? ⟨gb364,7,none⟩ = some (.int .i64 a0_7):=(blk_cell BK364.out 7).trans rfl;have hcz21_8 : w20.cell? ⟨gb364,8,none⟩ = some (.slice A0_8 l0_8.length c0_8):=(blk_cell BK364.out 8).trans rfl;have hcz21_9 : w20.cell? ⟨gb364,9,none⟩ = some (.int .i64 a0_9):=(blk_cell BK364.out 9).trans rfl;have hfz21_0:=blk_frozen BK364.out 0;have hfz21_1:=blk_frozen BK364.out 1;have hfz21_2:=blk_frozen BK364.out 2;have hfz21_3:=blk_frozen BK364.out 3;have hfz21_4:=blk_frozen BK364.out 4;have hfz21_5:=blk_frozen BK364.out 5;have hfz21_6:=blk_frozen BK364.out 6;have hfz21_7:=blk_frozen BK364.out 7;have hfz21_8:=blk_frozen BK364.out 8;have hfz21_9:=blk_frozen BK364.out 9;have p368 : 0 ≤ ((ji13) : Int):=of_decide_eq_true (by first|(with_reducible assumption)|assumption);have q368 : (ji13) < (l0_2.length : Int):=of_decide_eq_true (by first|(with_reducible assumption)|assumption);obtain ⟨ad368,e368,hx368_0,hx368_1,hx368_2⟩:=at_T46 HR0_2.out (ji13) p368 q368;cases e368;replace hx368_0:=(HB.out.cell (World.block_lt_of_cell? w _ hx368_0)).trans hx368_0;replace hx368_1:=(HB.out.cell (World.block_lt_of_cell? w _ hx368_1)).trans hx368_1;replace hx368_2:=(HB.out.cell (World.block_lt_of_cell? w _ hx368_2)).trans hx368_2;replace p368:=eq_true p368;replace q368:=eq_true q368))
     go_ret
     exact ⟨by first|rfl|(simp [errW_none,errW_some] <;> rfl)|(simp only [← hji13];first|rfl|(simp [errW_none,errW_some] <;> rfl))|(simp [*,errW_none,errW_some] <;> rfl),by repeat (first|(with_reducible first|exact HB.out|apply below_alloc|apply pw_below_drewN|apply below_drew1|refine below_set ?_ GE364.out)|exact HB.out)⟩
    ·rw [if_neg c15] at H
     exact absurd H (by simp)
   ·rw [if_neg c14] at H
    exact absurd H (by simp)
  ·replace c12:=Bool.eq_false_iff.mpr c12
   subst c12
   have H1 : (some (-1)) = some r:=by rw [if_neg (show ¬ (false = true) by decide)] at H;exact H
   clear H
   have H:=H1
   clear H1
   obtain rfl:=Option.some.inj H
   go_enter Try.func9,Try.ntmps9
   go_wp2_with (first|((with_reducible refine gate_dst (N:=2) rfl ?_);refine box_event ?hg (N:=2) ?hd (cs:=#[.int .i64 a0_0,.slice A0_1 l0_1.length c0_1,.slice A0_2 l0_2.length c0_2,.int .i64 a0_3,.int .i64 a0_4,.int .i64 a0_5,.int .i64 a0_6,.int .i64 a0_7,.slice A0_8 l0_8.length c0_8,.int .i64 a0_9]) (t:=28) ?hr ?_;(case hd => rfl);(case hg => rfl);(case hr => first|(go_simp;done)|(go_simp;rfl));intro gb364 hg w22 hbox hb;have BK364:=Aside0.mk (hbox);have GE364:=Aside0.mk ((by rw [hg];exact (below_size (by repeat (first|(with_reducible first|exact HB.out|apply below_alloc|apply pw_below_drewN|apply below_drew1)|exact HB.out))) : w.heap.size ≤ gb364));replace HB:=Aside0.mk (below_step (by repeat (first|(with_reducible first|exact HB.out|apply below_alloc|apply pw_below_drewN|apply below_drew1)|exact HB.out)) hb);clear hb hbox hg;have hcz23_0 : w22.cell? ⟨gb364,0,none⟩ = some (.int .i64 a0_0):=(blk_cell BK364.out 0).trans rfl;have hcz23_1 : w22.cell? ⟨gb364,1,none⟩ = some (.slice A0_1 l0_1.length c0_1):=(blk_cell BK364.out 1).trans rfl;have hcz23_2 : w22.cell? ⟨gb364,2,none⟩ = some (.slice A0_2 l0_2.length c0_2):=(blk_cell BK364.out 2).trans rfl;have hcz23_3 : w22.cell? ⟨gb364,3,none⟩ = some (.int .i64 a0_3):=(blk_cell BK364.out 3).trans rfl;have hcz23_4 : w22.cell? ⟨gb364,4,none⟩ = some (.int .i64 a0_4):=(blk_cell BK364.out 4).trans rfl;have hcz23_5 : w22.cell? ⟨gb364,5,none⟩ = some (.int .i64 a0_5):=(blk_cell BK364.out 5).trans rfl;have hcz23_6 : w22.cell? ⟨gb364,6,none⟩ = some (.int .i64 a0_6):=(blk_cell BK364.out 6).trans rfl;have hcz23_7 : w22.cell? ⟨gb364,7,none⟩ = some (.int .i64 a0_7):=(blk_cell BK364.out 7).trans rfl;have hcz23_8 : w22.cell? ⟨gb364,8,none⟩ = some (.slice A0_8 l0_8.length c0_8):=(blk_cell BK364.out 8).trans rfl;have hcz23_9 : w22.cell? ⟨gb364,9,none⟩ = some (.int .i64 a0_9):=(blk_cell BK364.out 9).trans rfl;have hfz23_0:=blk_frozen BK364.out 0;have hfz23_1:=blk_frozen BK364.out 1;have hfz23_2:=blk_frozen BK364.out 2;have hfz23_3:=blk_frozen BK364.out 3;have hfz23_4:=blk_frozen BK364.out 4;have hfz23_5:=blk_frozen BK364.out 5;have hfz23_6:=blk_frozen BK364.out 6;have hfz23_7:=blk_frozen BK364.out 7;have hfz23_8:=blk_frozen BK364.out 8;have hfz23_9:=blk_frozen BK364.out 9)|((with_reducible refine gate_callee (f:=14) rfl ?_);refine goesL_ (some 8) rfl rfl Try.func14 (by kernel_rfl) rfl #[.agg #[.int .i64 a0_0,.slice A0_1 l0_1.length c0_1,.slice A0_2 l0_2.length c0_2,.int .i64 a0_3,.int .i64 a0_4,.int .i64 a0_5,.int .i64 a0_6,.int .i64 a0_7,.slice A0_8 l0_8.length c0_8,.int .i64 a0_9],.int .i64 a1] rfl (by (try simp only [List.map_toArray,List.map_cons,List.map_nil]);first|done|rfl|(simp only [List.length_drop,List.length_take];rfl)) ?_;(with_reducible refine (impl_isSatellite.calls a0_0 _ _ l0_1 _ _ l0_2 a0_3 a0_4 a0_5 a0_6 a0_7 _ _ l0_8 a0_9 a1 false _ ?side1 ?side2 ?side3 ?side4 ?side5 ?side6 A3.out).mono ?_);(case side1 => repeat (first|exact (Kd.C_below HR0_1.out HB.out)|(with_reducible refine Kd.C_alloc ?_ _)|(with_reducible refine Kd.C_drewN ?_ _)|(with_reducible refine Kd.C_drew ?_)));(case side2 => exact HC0_1.out);(case side3 => repeat (first|exact (Kd.C_below HR0_2.out HB.out)|(with_reducible refine Kd.C_alloc ?_ _)|(with_reducible refine Kd.C_drewN ?_ _)|(with_reducible refine Kd.C_drew ?_)));(case side4 => exact HC0_2.out);(case side5 => repeat (first|exact (Kd.C_below HR0_8.out HB.out)|(with_reducible refine Kd.C_alloc ?_ _)|(with_reducible refine Kd.C_drewN ?_ _)|(with_reducible refine Kd.C_drew ?_)));(case side6 => exact HC0_8.out);rintro e w24 ⟨rfl,hb⟩;refine ⟨_,rfl,?_⟩;replace BK364:=Aside0.mk (blk_below (g:=gb364) (o:=.cells #[.int .i64 a0_0,.slice A0_1 l0_1.length c0_1,.slice A0_2 l0_2.length c0_2,.int .i64 a0_3,.int .i64 a0_4,.int .i64 a0_5,.int .i64 a0_6,.int .i64 a0_7,.slice A0_8 l0_8.length c0_8,.int .i64 a0_9] 28 (0,0)) (by (with_reducible repeat (first|refine blk_drewN ?_ _|refine blk_drew ?_|refine blk_alloc ?_ _));exact BK364.out) hb);replace HB:=Aside0.mk (below_step (by repeat (first|(with_reducible first|exact HB.out|apply below_alloc|apply pw_below_drewN|apply below_drew1|refine below_set ?_ GE364.out)|exact HB.out)) hb);(try clear hb);(try clear hb2);(try clear hk);(try clear hi);have hcz25_0 : w24.cell? ⟨gb364,0,none⟩ = some (.int .i64 a0_0):=(blk_cell BK364.out 0).trans rfl;have hcz25_1 : w24.cell? ⟨gb364,1,none⟩ = some (.slice A0_1 l0_1.length c0_1):=(blk_cell BK364.out 1).trans rfl;have hcz25_2 : w24.cell? ⟨gb364,2,none⟩ = some (.slice A0_2 l0_2.length c0_2):=(blk_cell BK364.out 2).trans rfl;have hcz25_3 : w24.cell? ⟨gb364,3,none⟩ = some (.int .i64 a0_3):=(blk_cell BK364.out 3).trans rfl;have hcz25_4 : w24.cell? ⟨gb364,4,none⟩ = some (.int .i64 a0_4):=(blk_cell BK364.out 4).trans rfl;have hcz25_5 : w24.cell? ⟨gb364,5,none⟩ = some (.int .i64 a0_5):=(blk_cell BK364.out 5).trans rfl;have hcz25_6 : w24.cell? ⟨gb364,6,none⟩ = some (.int .i64 a0_6):=(blk_cell BK364.out 6).trans rfl;have hcz25_7 : w24.cell? ⟨gb364,7,none⟩ = some (.int .i64 a0_7):=(blk_cell BK364.out 7).trans rfl;have hcz25_8 : w24.cell? ⟨gb364,8,none⟩ = some (.slice A0_8 l0_8.length c0_8):=(blk_cell BK364.out 8).trans rfl;have hcz25_9 : w24.cell? ⟨gb364,9,none⟩ = some (.int .i64 a0_9):=(blk_cell BK364.out 9).trans rfl;have hfz25_0:=blk_frozen BK364.out 0;have hfz25_1:=blk_frozen BK364.out 1;have hfz25_2:=blk_frozen BK364.out 2;have hfz25_3:=blk_frozen BK364.out 3;have hfz25_4:=blk_frozen BK364.out 4;have hfz25_5:=blk_frozen BK364.out 5;have hfz25_6:=blk_frozen BK364.out 6;have hfz25_7:=blk_frozen BK364.out 7;have hfz25_8:=blk_frozen BK364.out 8;have hfz25_9:=blk_frozen BK364.out 9)|((with_reducible refine gate_callee (f:=7) rfl ?_);refine goesL_ (some 18) rfl rfl Try.func7 (by kernel_rfl) rfl #[.agg #[.int .i64 a0_0,.slice A0_1 l0_1.length c0_1,.slice A0_2 l0_2.length c0_2,.int .i64 a0_3,.int .i64 a0_4,.int .i64 a0_5,.int .i64 a0_6,.int .i64 a0_7,.slice A0_8 l0_8.length c0_8,.int .i64 a0_9],.int .i64 a1] rfl (by (try simp only [List.map_toArray,List.map_cons,List.map_nil]);first|done|rfl|(simp only [List.length_drop,List.length_take];rfl)) ?_;(with_reducible refine (impl_IsSite.calls a0_0 _ _ l0_1 _ _ l0_2 a0_3 a0_4 a0_5 a0_6 a0_7 _ _ l0_8 a0_9 a1 false _ ?side1 ?side2 ?side3 ?side4 ?side5 ?side6 A11.out).mono ?_);(case side1 => repeat (first|exact (Kd.C_below HR0_1.out HB.out)|(with_reducible refine Kd.C_alloc ?_ _)|(with_reducible refine Kd.C_drewN ?_ _)|(with_reducible refine Kd.C_drew ?_)));(case side2 => exact HC0_1.out);(case side3 => repeat (first|exact (Kd.C_below HR0_2.out HB.out)|(with_reducible refine Kd.C_alloc ?_ _)|(with_reducible refine Kd.C_drewN ?_ _)|(with_reducible refine Kd.C_drew ?_)));(case side4 => exact HC0_2.out);(case side5 => repeat (first|exact (Kd.C_below HR0_8.out HB.out)|(with_reducible refine Kd.C_alloc ?_ _)|(with_reducible refine Kd.C_drewN ?_ _)|(with_reducible refine Kd.C_drew ?_)));(case side6 => exact HC0_8.out);rintro e w26 ⟨rfl,hb⟩;refine ⟨_,rfl,?_⟩;replace BK364:=Aside0.mk (blk_below (g:=gb364) (o:=.cells #[.int .i64 a0_0,.slice A0_1 l0_1.length c0_1,.slice A0_2 l0_2.length c0_2,.int .i64 a0_3,.int .i64 a0_4,.int .i64 a0_5,.int .i64 a0_6,.int .i64 a0_7,.slice A0_8 l0_8.length c0_8,.int .i64 a0_9] 28 (0,0)) (by (with_reducible repeat (first|refine blk_drewN ?_ _|refine blk_drew ?_|refine blk_alloc ?_ _));exact BK364.out) hb);replace HB:=Aside0.mk (below_step (by repeat (first|(with_reducible first|exact HB.out|apply below_alloc|apply pw_below_drewN|apply below_drew1|refine below_set ?_ GE364.out)|exact HB.out)) hb);(try clear hb);(try clear hb2);(try clear hk);(try clear hi)))
   go_ret
   exact ⟨by first|rfl|(simp [errW_none,errW_some] <;> rfl)|(simp [*,errW_none,errW_some] <;> rfl),by repeat (first|(with_reducible first|exact HB.out|apply below_alloc|apply pw_below_drewN|apply below_drew1|refine below_set ?_ GE364.out)|exact HB.out)⟩

/-! ### impl_areNeighbors: function 15 -/
def impl_areNeighbors.f (a0_0 : Int) (l0_1 : List (S43)) (l0_2 : List (S46)) (a0_3 : Int) (a0_4 : Int) (a0_5 : Int) (a0_6 : Int) (a0_7 : Int) (l0_8 : List (S50)) (a0_9 : Int) (a1 : Int) (a2 : Int) : Option (Bool):=if a1 > a2 then (if a2 ≥ 0 then (if (wrap64 (a1 - a2)) = 1 then (some true) else (if a2 = 0 then (if a1 = (wrap64 (a0_0 - 1)) then ((impl_InRange.f a1 1 4).bind fun t370 => (some t370)) else (some false)) else (some false))) else (if a2 = 0 then (if a1 = (wrap64 (a0_0 - 1)) then ((impl_InRange.f a1 1 4).bind fun t371 => (some t371)) else (some false)) else (some false))) else (if a1 ≥ 0 then (if (wrap64 (a2 - a1)) = 1 then (some true) else (if a1 = 0 then (if a2 = (wrap64 (a0_0 - 1)) then ((impl_InRange.f a2 1 4).bind fun t372 => (some t372)) else (some false)) else (some false))) else (if a1 = 0 then (if a2 = (wrap64 (a0_0 - 1)) then ((impl_InRange.f a2 1 4).bind fun t373 => (some t373)) else (some false)) else (some false)))
set_option maxHeartbeats 8000000 in
set_option maxRecDepth 100000 in
theorem impl_areNeighbors.calls (a0_0 : Int) (A0_1 : Option Addr) (c0_1 : Nat) (l0_1 : List (S43)) (A0_2 : Option Addr) (c0_2 : Nat) (l0_2 : List (S46)) (a0_3 : Int) (a0_4 : Int) (a0_5 : Int) (a0_6 : Int) (a0_7 : Int) (A0_8 : Option Addr) (c0_8 : Nat) (l0_8 : List (S50)) (a0_9 : Int) (a1 : Int) (a2 : Int) (r : Bool) (w : World) (hr0_1 : Kd.C k43 w A0_1 l0_1.length l0_1) (hc0_1 : l0_1.length ≤ c0_1) (hr0_2 : Kd.C k46 w A0_2 l0_2.length l0_2) (hc0_2 : l0_2.length ≤ c0_2) (hr0_8 : Kd.C k50 w A0_8 l0_8.length l0_8) (hc0_8 : l0_8.length ≤ c0_8) (h : impl_areNeighbors.f a0_0 l0_1 l0_2 a0_3 a0_4 a0_5 a0_6 a0_7 l0_8 a0_9 a1 a2 = some r) :
  Calls Try.prog 15 #[.agg #[.int .i64 a0_0,.slice A0_1 l0_1.length c0_1,.slice A0_2 l0_2.length c0_2,.int .i64 a0_3,.int .i64 a0_4,.int .i64 a0_5,.int .i64 a0_6,.int .i64 a0_7,.slice A0_8 l0_8.length c0_8,.int .i64 a0_9],.int .i64 a1,.int .i64 a2] w fun e w' => e = .returned (.bool r) ∧ Below w.heap.size w w':=by
 have hu28:=Try.underlying28
 have HR0_1:=Aside0.mk hr0_1
 have HC0_1:=Aside0.mk hc0_1
 clear hr0_1 hc0_1
 have HR0_2:=Aside0.mk hr0_2
 have HC0_2:=Aside0.mk hc0_2
 clear hr0_2 hc0_2
 have HR0_8:=Aside0.mk hr0_8
 have HC0_8:=Aside0.mk hc0_8
 clear hr0_8 hc0_8
 have HB:=Aside0.mk (Below.refl w.heap.size w)
 have H : (if a1 > a2 then (if a2 ≥ 0 then (if (wrap64 (a1 - a2)) = 1 then (some true) else (if a2 = 0 then (if a1 = (wrap64 (a0_0 - 1)) then ((impl_InRange.f a1 1 4).bind fun t370 => (some t370)) else (some false)) else (some false))) else (if a2 = 0 then (if a1 = (wrap64 (a0_0 - 1)) then ((impl_InRange.f a1 1 4).bind fun t371 => (some t371)) else (some false)) else (some false))) else (if a1 ≥ 0 then (if (wrap64 (a2 - a1)) = 1 then (some true) else (if a1 = 0 then (if a2 = (wrap64 (a0_0 - 1)) then ((impl_InRange.f a2 1 4).bind fun t372 => (some t372)) else (some false)) else (some false))) else (if a1 = 0 then (if a2 = (wrap64 (a0_0 - 1)) then ((impl_InRange.f a2 1 4).bind fun t373 => (some t373)) else (some false)) else (some false)))) = some r:=h
 clear h
 by_cases c4 : a1 > a2
 ·rw [if_pos c4] at H
  have c4b0 : decide (a2 < a1) = true:=decide_eq_true c4
  clear c4
  by_cases c5 : a2 ≥ 0
  ·rw [if_pos c5] at H
   have c5b0 : decide (0 ≤ a2) = true:=decide_eq_true c5
   clear c5
   by_cases c6 : (wrap64 (a1 - a2)) = 1
   ·rw [if_pos c6] at H
    have c6b0 : ((wrap64 (a1 - a2)) == 1) = true:=beq_iff_eq.mpr c6
    have c6b1 : ((wrap64 (a1 - a2)) != 1) = false:=bne_eq_false_iff_eq.mpr c6
    clear c6
    obtain rfl:=Option.some.inj H
    go_enter Try.func15,Try.ntmps15
    go_wp2_with (first|((with_reducible refine gate_dst (N:=3) rfl ?_);refine box_event ?hg (N:=3) ?hd (cs:=#[.int .i64 a0_0,.slice A0_1 l0_1.length c0_1,.slice A0_2 l0_2.length c0_2,.int .i64 a0_3,.int .i64 a0_4,.int .i64 a0_5,.int .i64 a0_6,.int .i64 a0_7,.slice A0_8 l0_8.length c0_8,.int .i64 a0_9]) (t:=28) ?hr ?_;(case hd => rfl);(case hg => rfl);(case hr => first|(go_simp;done)|(go_simp;rfl));intro gb369 hg w7 hbox hb;have BK369:=Aside0.mk (hbox);have GE369:=Aside0.mk ((by rw [hg];exact (below_size (by repeat (first|(with_reducible first|exact HB.out|apply below_alloc|apply pw_below_drewN|apply below_drew1)|exact HB.out))) : w.heap.size ≤ gb369));replace HB:=Aside0.mk (below_step (by repeat (first|(with_reducible first|exact HB.out|apply below_alloc|apply pw_below_drewN|apply below_drew1)|exact HB.out)) hb);clear hb hbox hg))
    go_ret
    exact ⟨by first|rfl|(simp [errW_none,errW_some] <;> rfl)|(simp [*,errW_none,errW_some] <;> rfl),by repeat (first|(with_reducible first|exact HB.out|apply below_alloc|apply pw_below_drewN|apply below_drew1|refine below_set ?_ GE369.out)|exact HB.out)⟩
   ·rw [if_neg c6] at H
    have c6b0 : ((wrap64 (a1 - a2)) == 1) = false:=beq_eq_false_iff_ne.mpr c6
    have c6b1 : ((wrap64 (a1 - a2)) != 1) = true:=bne_iff_ne.mpr c6
    by_cases c8 : a2 = 0
    ·rw [if_pos c8] at H
     have c8b0 : (a2 == 0) = true:=beq_iff_eq.mpr c8
     have c8b1 : (a2 != 0) = false:=bne_eq_false_iff_eq.mpr c8
     clear c8
     by_cases c9 : a1 = (wrap64 (a0_0 - 1))
     ·rw [if_pos c9] at H
      have c9b0 : (a1 == (wrap64 (a0_0 - 1))) = true:=beq_iff_eq.mpr c9
      have c9b1 : (a1 != (wrap64 (a0_0 - 1))) = false:=bne_eq_false_iff_eq.mpr c9
      clear c9
      replace H:=Option.bind_eq_some_iff.mp H
      obtain ⟨t370,A100,H⟩:=H
      replace H : (some t370) = some r:=H
      have A10:=Aside0.mk A100
      clear A100
      obtain rfl:=Option.some.inj H
      go_enter Try.func15,Try.ntmps15
      go_wp2_with (first|((with_reducible refine gate_dst (N:=3) rfl ?_);refine box_event ?hg (N:=3) ?hd (cs:=#[.int .i64 a0_0,.slice A0_1 l0_1.length c0_1,.slice A0_2 l0_2.length c0_2,.int .i64 a0_3,.int .i64 a0_4,.int .i64 a0_5,.int .i64 a0_6,.int .i64 a0_7,.slice A0_8 l0_8.length c0_8,.int .i64 a0_9]) (t:=28) ?hr ?_;(case hd => rfl);(case hg => rfl);(case hr => first|(go_simp;done)|(go_simp;rfl));intro gb369 hg w11 hbox hb;have BK369:=Aside0.mk (hbox);have GE369:=Aside0.mk ((by rw [hg];exact (below_size (by repeat (first|(with_reducible first|exact HB.out|apply below_alloc|apply pw_below_drewN|apply below_drew1)|exact HB.out))) : w.heap.size ≤ gb369));replace HB:=Aside0.mk (below_step (by repeat (first|(with_reducible first|exact HB.out|apply below_alloc|apply pw_below_drewN|apply below_drew1)|exact HB.out)) hb);clear hb hbox hg;have hcz12_0 : w11.cell? ⟨gb369,0,none⟩ = some (.int .i64 a0_0):=(blk_cell BK369.out 0).trans rfl;have hcz12_1 : w11.cell? ⟨gb369,1,none⟩ = some (.slice A0_1 l0_1.length c0_1):=(blk_cell BK369.out 1).trans rfl;have hcz12_2 : w11.cell? ⟨gb369,2,none⟩ = some (.slice A0_2 l0_2.length c0_2):=(blk_cell BK369.out 2).trans rfl;have hcz12_3 : w11.cell? ⟨gb369,3,none⟩ = some (.int .i64 a0_3):=(blk_cell BK369.out 3).trans rfl;have hcz12_4 : w11.cell? ⟨gb369,4,none⟩ = some (.int .i64 a0_4):=(blk_cell BK369.out 4).trans rfl;have hcz12_5 : w11.cell? ⟨gb369,5,none⟩ = some (.int .i64 a0_5):=(blk_cell BK369.out 5).trans rfl;have hcz12_6 : w11.cell? ⟨gb369,6,none⟩ = some (.int .i64 a0_6):=(blk_cell BK369.out 6).trans rfl;have hcz12_7 : w11.cell? ⟨gb369,7,none⟩ = some (.int .i64 a0_7):=(blk_cell BK369.out 7).trans rfl;have hcz12_8 : w11.cell? ⟨gb369,8,none⟩ = some (.slice A0_8 l0_8.length c0_8):=(blk_cell BK369.out 8).trans rfl;have hcz12_9 : w11.cell? ⟨gb369,9,none⟩ = some (.int .i64 a0_9):=(blk_cell BK369.out 9).trans rfl;have hfz12_0:=blk_frozen BK369.out 0;have hfz12_1:=blk_frozen BK369.out 1;have hfz12_2:=blk_frozen BK369.out 2;have hfz12_3:=blk_frozen BK369.out 3;have hfz12_4:=blk_frozen BK369.out 4;have hfz12_5:=blk_frozen BK369.out 5;have hfz12_6:=blk_frozen BK369.out 6;have hfz12_7:=blk_frozen BK369.out 7;have hfz12_8:=blk_frozen BK369.out 8;have hfz12_9:=blk_frozen BK369.out 9)|(go_at_call 16;(with_reducible refine (impl_InRange.calls a1 1 4 t370 _ A10.out).mono ?_);rintro e w' ⟨rfl,⟨nd,rfl⟩⟩))
      go_ret
      exact ⟨by first|rfl|(simp [errW_none,errW_some] <;> rfl)|(simp [*,errW_none,errW_some] <;> rfl),by repeat (first|(with_reducible first|exact HB.out|apply below_alloc|apply pw_below_drewN|apply below_drew1|refine below_set ?_ GE369.out)|exact HB.out)⟩
     ·rw [if_neg c9] at H
      have c9b0 : (a1 == (wrap64 (a0_0 - 1))) = false:=beq_eq_false_iff_ne.mpr c9
      have c9b1 : (a1 != (wrap64 (a0_0 - 1))) = true:=bne_iff_ne.mpr c9
      obtain rfl:=Option.some.inj H
      go_enter Try.func15,Try.ntmps15
      go_wp2_with (first|((with_reducible refine gate_dst (N:=3) rfl ?_);refine box_event ?hg (N:=3) ?hd (cs:=#[.int .i64 a0_0,.slice A0_1 l0_1.length c0_1,.slice A0_2 l0_2.length c0_2,.int .i64 a0_3,.int .i64 a0_4,.int .i64 a0_5,.int .i64 a0_6,.int .i64 a0_7,.slice A0_8 l0_8.length c0_8,.int .i64 a0_9]) (t:=28) ?hr ?_;(case hd => rfl);(case hg => rfl);(case hr => first|(go_simp;done)|(go_simp;rfl));intro gb369 hg w13 hbox hb;have BK369:=Aside0.mk (hbox);have GE369:=Aside0.mk ((by rw [hg];exact (below_size (by repeat (first|(with_reducible first|exact HB.out|apply below_alloc|apply pw_below_drewN|apply below_drew1)|exact HB.out))) : w.heap.size ≤ gb369));replace HB:=Aside0.mk (below_step (by repeat (first|(with_reducible first|exact HB.out|apply below_alloc|apply pw_below_drewN|apply below_drew1)|exact HB.out)) hb);clear hb hbox hg;have hcz14_0 : w13.cell? ⟨gb369,0,none⟩ = some (.int .i64 a0_0):=(blk_cell BK369.out 0).trans rfl;have hcz14_1 : w13.cell? ⟨gb369,1,none⟩ = some (.slice A0_1 l0_1.length c0_1):=(blk_cell BK369.out 1).trans rfl;have hcz14_2 : w13.cell? ⟨gb369,2,none⟩ = some (.slice A0_2 l0_2.length c0_2):=(blk_cell BK369.out 2).trans rfl;have hcz14_3 : w13.cell? ⟨gb369,3,none⟩ = some (.int .i64 a0_3):=(blk_cell BK369.out 3).trans rfl;have hcz14_4 : w13.cell? ⟨gb369,4,none⟩ = some (.int .i64 a0_4):=(blk_cell BK369.out 4).trans rfl;have hcz14_5 : w13.cell? ⟨gb369,5,none⟩ = some (.int .i64 a0_5):=(blk_cell BK369.out 5).trans rfl;have hcz14_6 : w13.cell? ⟨gb369,6,none⟩ = some (.int .i64 a0_6):=(blk_cell BK369.out 6).trans rfl;have hcz14_7 : w13.cell? ⟨gb369,7,none⟩ = some (.int .i64 a0_7):=(blk_cell BK369.out 7).trans rfl;have hcz14_8 : w13.cell? ⟨gb369,8,none⟩ = some (.slice A0_8 l0_8.length c0_8):=(blk_cell BK369.out 8).trans rfl;have hcz14_9 : w13.cell? ⟨gb369,9,none⟩ = some (.int .i64 a0_9):=(blk_cell BK369.out 9).trans rfl;have hfz14_0:=blk_frozen BK369.out 0;have hfz14_1:=blk_frozen BK369.out 1;have hfz14_2:=blk_frozen BK369.out 2;have hfz14_3:=blk_frozen BK369.out 3;have hfz14_4:=blk_frozen BK369.out 4;have hfz14_5:=blk_frozen BK369.out 5;have hfz14_6:=blk_frozen BK369.out 6;have hfz14_7:=blk_frozen BK369.out 7;have hfz14_8:=blk_frozen BK369.out 8;have hfz14_9:=blk_frozen BK369.out 9))
      go_ret
      exact ⟨by first|rfl|(simp [errW_none,errW_some] <;> rfl)|(simp [*,errW_none,errW_some] <;> rfl),by repeat (first|(with_reducible first|exact HB.out|apply below_alloc|apply pw_below_drewN|apply below_drew1|refine below_set ?_ GE369.out)|exact HB.out)⟩
    ·rw [if_neg c8] at H
     have c8b0 : (a2 == 0) = false:=beq_eq_false_iff_ne.mpr c8
     have c8b1 : (a2 != 0) = true:=bne_iff_ne.mpr c8
     obtain rfl:=Option.some.inj H
     go_enter Try.func15,Try.ntmps15
     go_wp2_with (first|((with_reducible refine gate_dst (N:=3) rfl ?_);refine box_event ?hg (N:=3) ?hd (cs:=#[.int .i64 a0_0,.slice A0_1 l0_1.length c0_1,.slice A0_2 l0_2.length c0_2,.int .i64 a0_3,.int .i64 a0_4,.int .i64 a0_5,.int .i64 a0_6,.int .i64 a0_7,.slice A0_8 l0_8.length c0_8,.int .i64 a0_9]) (t:=28) ?hr ?_;(case hd => rfl);(case hg => rfl);(case hr => first|(go_simp;done)|(go_simp;rfl));intro gb369 hg w15 hbox hb;have BK369:=Aside0.mk (hbox);have GE369:=Aside0.mk ((by rw [hg];exact (below_size (by repeat (first|(with_reducible first|exact HB.out|apply below_alloc|apply pw_below_drewN|apply below_drew1)|exact HB.out))) : w.heap.size ≤ gb369));replace HB:=Aside0.mk (below_step (by repeat (first|(with_reducible first|exact HB.out|apply below_alloc|apply pw_below_drewN|apply below_drew1)|exact HB.out)) hb);clear hb hbox hg))
     go_ret
     exact ⟨by first|rfl|(simp [errW_none,errW_some] <;> rfl)|(simp [*,errW_none,errW_some] <;> rfl),by repeat (first|(with_reducible first|exact HB.out|apply below_alloc|apply pw_below_drewN|apply below_drew1|refine below_set ?_ GE369.out)|exact HB.out)⟩
  ·rw [if_neg c5] at H
   have c5b0 : decide (0 ≤ a2) = false:=decide_eq_false c5
   clear c5
   by_cases c16 : a2 = 0
   ·rw [if_pos c16] at H
    have c16b0 : (a2 == 0) = true:=beq_iff_eq.mpr c16
    have c16b1 : (a2 != 0) = false:=bne_eq_false_iff_eq.mpr c16
    clear c16
    by_cases c17 : a1 = (wrap64 (a0_0 - 1))
    ·rw [if_pos c17] at H
     have c17b0 : (a1 == (wrap64 (a0_0 - 1))) = true:=beq_iff_eq.mpr c17
     have c17b1 : (a1 != (wrap64 (a0_0 - 1))) = false:=bne_eq_false_iff_eq.mpr c17
     clear c17
     replace H:=Option.bind_eq_some_iff.mp H
     obtain ⟨t371,A180,H⟩:=H
     replace H : (some t371) = some r:=H
     have A18:=Aside0.mk A180
     clear A180
     obtain rfl:=Option.some.inj H
     go_enter Try.func15,Try.ntmps15
     go_wp2_with (first|((with_reducible refine gate_dst (N:=3) rfl ?_);refine box_event ?hg (N:=3) ?hd (cs:=#[.int .i64 a0_0,.slice A0_1 l0_1.length c0_1,.slice A0_2 l0_2.length c0_2,.int .i64 a0_3,.int .i64 a0_4,.int .i64 a0_5,.int .i64 a0_6,.int .i64 a0_7,.slice A0_8 l0_8.length c0_8,.int .i64 a0_9]) (t:=28) ?hr ?_;(case hd => rfl);(case hg => rfl);(case hr => first|(go_simp;done)|(go_simp;rfl));intro gb369 hg w19 hbox hb;have BK369:=Aside0.mk (hbox);have GE369:=Aside0.mk ((by rw [hg];exact (below_size (by repeat (first|(with_reducible first|exact HB.out|apply below_alloc|apply pw_below_drewN|apply below_drew1)|exact HB.out))) : w.heap.size ≤ gb369));replace HB:=Aside0.mk (below_step (by repeat (first|(with_reducible first|exact HB.out|apply below_alloc|apply pw_below_drewN|apply below_drew1)|exact HB.out)) hb);clear hb hbox hg;have hcz20_0 : w19.cell? ⟨gb369,0,none⟩ = some (.int .i64 a0_0):=(blk_cell BK369.out 0).trans rfl;have hcz20_1 : w19.cell? ⟨gb369,1,none⟩ = some (.slice A0_1 l0_1.length c0_1):=(blk_cell BK369.out 1).trans rfl;have hcz20_2 : w19.cell? ⟨gb369,2,none⟩ = some (.slice A0_2 l0_2.length c0_2):=(blk_cell BK369.out 2).trans rfl;have hcz20_3 : w19.cell? ⟨gb369,3,none⟩ = some (.int .i64 a0_3):=(blk_cell BK369.out 3).trans rfl;have hcz20_4 : w19.cell? ⟨gb369,4,none⟩ = some (.int .i64 a0_4):=(blk_cell BK369.out 4).trans rfl;have hcz20_5 : w19.cell? ⟨gb369,5,none⟩ = some (.int .i64 a0_5):=(blk_cell BK369.out 5).trans rfl;have hcz20_6 : w19.cell? ⟨gb369,6,none⟩ = some (.int .i64 a0_6):=(blk_cell BK369.out 6).trans rfl;have hcz20_7 : w19.cell? ⟨gb369,7,none⟩ = some (.int .i64 a0_7):=(blk_cell BK369.out 7).trans rfl;have hcz20_8 : w19.cell? ⟨gb369,8,none⟩ = some (.slice A0_8 l0_8.length c0_8):=(blk_cell BK369.out 8).trans rfl;have hcz20_9 : w19.cell? ⟨gb369,9,none⟩ = some (.int .i64 a0_9):=(blk_cell BK369.out 9).trans rfl;have hfz20_0:=blk_frozen BK369.out 0;have hfz20_1:=blk_frozen BK369.out 1;have hfz20_2:=blk_frozen BK369.out 2;have hfz20_3:=blk_frozen BK369.out 3;have hfz20_4:=blk_frozen BK369.out 4;have hfz20_5:=blk_frozen BK369.out 5;have hfz20_6:=blk_frozen BK369.out 6;have hfz20_7:=blk_frozen BK369.out 7;have hfz20_8:=blk_frozen BK369.out 8;have hfz20_9:=blk_frozen BK369.out 9)|(go_at_call 16;(with_reducible refine (impl_InRange.calls a1 1 4 t371 _ A18.out).mono ?_);rintro e w' ⟨rfl,⟨nd,rfl⟩⟩))
     go_ret
     exact ⟨by first|rfl|(simp [errW_none,errW_some] <;> rfl)|(simp [*,errW_none,errW_some] <;> rfl),by repeat (first|(with_reducible first|exact HB.out|apply below_alloc|apply pw_below_drewN|apply below_drew1|refine below_set ?_ GE369.out)|exact HB.out)⟩
    ·rw [if_neg c17] at H
     have c17b0 : (a1 == (wrap64 (a0_0 - 1))) = false:=beq_eq_false_iff_ne.mpr c17
     have c17b1 : (a1 != (wrap64 (a0_0 - 1))) = true:=bne_iff_ne.mpr c17
     obtain rfl:=Option.some.inj H
     go_enter Try.func15,Try.ntmps15
     go_wp2_with (first|((with_reducible refine gate_dst (N:=3) rfl ?_);refine box_event ?hg (N:=3) ?hd (cs:=#[.int .i64 a0_0,.slice A0_1 l0_1.length c0_1,.slice A0_2 l0_2.length c0_2,.int .i64 a0_3,.int .i64 a0_4,.int .i64 a0_5,.int .i64 a0_6,.int .i64 a0_7,.slice A0_8 l0_8.length c0_8,.int .i64 a0_9]) (t:=28) ?hr ?_;(case hd => rfl);(case hg => rfl);(case hr => first|(go_simp;done)|(go_simp;rfl));intro gb369 hg w21 hbox hb;have BK369:=Aside0.mk (hbox);have GE369:=Aside0.mk ((by rw [hg];exact (below_size (by repeat (first|(with_reducible first|exact HB.out|apply below_alloc|apply pw_below_drewN|apply below_drew1)|exact HB.out))) : w.heap.size ≤ gb369));replace HB:=Aside0.mk (below_step (by repeat (first|(with_reducible first|exact HB.out|apply below_alloc|apply pw_below_drewN|apply below_drew1)|exact HB.out)) hb);clear hb hbox hg;have hcz22_0 : w21.cell? ⟨gb369,0,none⟩ = some (.int .i64 a0_0):=(blk_cell BK369.out 0).trans rfl;have hcz22_1 : w21.cell? ⟨gb369,1,none⟩ = some (.slice A0_1 l0_1.length c0_1):=(blk_cell BK369.out 1).trans rfl;have hcz22_2 : w21.cell? ⟨gb369,2,none⟩ = some (.slice A0_2 l0_2.length c0_2):=(blk_cell BK369.out 2).trans rfl;have hcz22_3 : w21.cell? ⟨gb369,3,none⟩ = some (.int .i64 a0_3):=(blk_cell BK369.out 3).trans rfl;have hcz22_4 : w21.cell? ⟨gb369,4,none⟩ = some (.int .i64 a0_4):=(blk_cell BK369.out 4).trans rfl;have hcz22_5 : w21.cell? ⟨gb369,5,none⟩ = some (.int .i64 a0_5):=(blk_cell BK369.out 5).trans rfl;have hcz22_6 : w21.cell? ⟨gb369,6,none⟩ = some (.int .i64 a0_6):=(blk_cell BK369.out 6).trans rfl;have hcz22_7 : w21.cell? ⟨gb369,7,none⟩ = some (.int .i64 a0_7):=(blk_cell BK369.out 7).trans rfl;have hcz22_8 : w21.cell? ⟨gb369,8,none⟩ = some (.slice A0_8 l0_8.length c0_8):=(blk_cell BK369.out 8).trans rfl;have hcz22_9 : w21.cell? ⟨gb369,9,none⟩ = some (.int .i64 a0_9):=(blk_cell BK369.out 9).trans rfl;have hfz22_0:=blk_frozen BK369.out 0;have hfz22_1:=blk_frozen BK369.out 1;have hfz22_2:=blk_frozen BK369.out 2;have hfz22_3:=blk_frozen BK369.out 3;have hfz22_4:=blk_frozen BK369.out 4;have hfz22_5:=blk_frozen BK369.out 5;have hfz22_6:=blk_frozen BK369.out 6;have hfz22_7:=blk_frozen BK369.out 7;have hfz22_8:=blk_frozen BK369.out 8;have hfz22_9:=blk_frozen BK369.out 9))
     go_ret
     exact ⟨by first|rfl|(simp [errW_none,errW_some] <;> rfl)|(simp [*,errW_none,errW_some] <;> rfl),by repeat (first|(with_reducible first|exact HB.out|apply below_alloc|apply pw_below_drewN|apply below_drew1|refine below_set ?_ GE369.out)|exact HB.out)⟩
   ·rw [if_neg c16] at H
    have c16b0 : (a2 == 0) = false:=beq_eq_false_iff_ne.mpr c16
    have c16b1 : (a2 != 0) = true:=bne_iff_ne.mpr c16
    obtain rfl:=Option.some.inj H
    go_enter Try.func15,Try.ntmps15
    go_wp2_with (first|((with_reducible refine gate_dst (N:=3) rfl ?_);refine box_event ?hg (N:=3) ?hd (cs:=#[.int .i64 a0_0,.slice A0_1 l0_1.length c0_1,.slice A0_2 l0_2.length c0_2,.int .i64 a0_3,.int .i64 a0_4,.int .i64 a0_5,.int .i64 a0_6,.int .i64 a0_7,.slice A0_8 l0_8.length c0_8,.int .i64 a0_9]) (t:=28) ?hr ?_;(case hd => rfl);(case hg => rfl);(case hr => first|(go_simp;done)|(go_simp;rfl));intro gb369 hg w23 hbox hb;have BK369:=Aside0.mk (hbox);have GE369:=Aside0.mk ((by rw [hg];exact (below_size (by repeat (first|(with_reducible first|exact HB.out|apply below_alloc|apply pw_below_drewN|apply below_drew1)|exact HB.out))) : w.heap.size ≤ gb369));replace HB:=Aside0.mk (below_step (by repeat (first|(with_reducible first|exact HB.out|apply below_alloc|apply pw_below_drewN|apply below_drew1)|exact HB.out)) hb);clear hb hbox hg))
    go_ret
    exact ⟨by first|rfl|(simp [errW_none,errW_some] <;> rfl)|(simp [*,errW_none,errW_some] <;> rfl),by repeat (first|(with_reducible first|exact HB.out|apply below_alloc|apply pw_below_drewN|apply below_drew1|refine below_set ?_ GE369.out)|exact HB.out)⟩
 ·rw [if_neg c4] at H
  have c4b0 : decide (a2 < a1) = false:=decide_eq_false c4
  clear c4
  by_cases c24 : a1 ≥ 0
  ·rw [if_pos c24] at H
   have c24b0 : decide (0 ≤ a1) = true:=decide_eq_true c24
   clear c24
   by_cases c25 : (wrap64 (a2 - a1)) = 1
   ·rw [if_pos c25] at H
    have c25b0 : ((wrap64 (a2 - a1)) == 1) = true:=beq_iff_eq.mpr c25
    have c25b1 : ((wrap64 (a2 - a1)) != 1) = false:=bne_eq_false_iff_eq.mpr c25
    clear c25
    obtain rfl:=Option.some.inj H
    go_enter Try.func15,Try.ntmps15
    go_wp2_with (first|((with_reducible refine gate_dst (N:=3) rfl ?_);refine box_event ?hg (N:=3) ?hd (cs:=#[.int .i64 a0_0,.slice A0_1 l0_1.length c0_1,.slice A0_2 l0_2.length c0_2,.int .i64 a0_3,.int .i64 a0_4,.int .i64 a0_5,.int .i64 a0_6,.int .i64 a0_7,.slice A0_8 l0_8.length c0_8,.int .i64 a0_9]) (t:=28) ?hr ?_;(case hd => rfl);(case hg => rfl);(case hr => first|(go_simp;done)|(go_simp;rfl));intro gb369 hg w26 hbox hb;have BK369:=Aside0.mk (hbox);have GE369:=Aside0.mk ((by rw [hg];exact (below_size (by repeat (first|(with_reducible first|exact HB.out|apply below_alloc|apply pw_below_drewN|apply below_drew1)|exact HB.out))) : w.heap.size ≤ gb369));replace HB:=Aside0.mk (below_step (by repeat (first|(with_reducible first|exact HB.out|apply below_alloc|apply pw_below_drewN|apply below_drew1)|exact HB.out)) hb);clear hb hbox hg))
    go_ret
    exact ⟨by first|rfl|(simp [errW_none,errW_some] <;> rfl)|(simp [*,errW_none,errW_some] <;> rfl),by repeat (first|(with_reducible first|exact HB.out|apply below_alloc|apply pw_below_drewN|apply below_drew1|refine below_set ?_ GE369.out)|exact HB.out)⟩
   ·rw [if_neg c25] at H
    have c25b0 : ((wrap64 (a2 - a1)) == 1) = false:=beq_eq_false_iff_ne.mpr c25
    have c25b1 : ((wrap64 (a2 - a1)) != 1) = true:=bne_iff_ne.mpr c25
    by_cases c27 : a1 = 0
    ·rw [if_pos c27] at H
     have c27b0 : (a1 == 0) = true:=beq_iff_eq.mpr c27
     have c27b1 : (a1 != 0) = false:=bne_eq_false_iff_eq.mpr c27
     clear c27
     by_cases c28 : a2 = (wrap64 (a0_0 - 1))
     ·rw [if_pos c28] at H
      have c28b0 : (a2 == (wrap64 (a0_0 - 1))) = true:=beq_iff_eq.mpr c28
      have c28b1 : (a2 != (wrap64 (a0_0 - 1))) = false:=bne_eq_false_iff_eq.mpr c28
      clear c28
      replace H:=Option.bind_eq_some_iff.mp H
      obtain ⟨t372,A290,H⟩:=H
      replace H : (some t372) = some r:=H
      have A29:=Aside0.mk A290
      clear A290
      obtain rfl:=Option.some.inj H
      go_enter Try.func15,Try.ntmps15
      go_wp2_with (first|((with_reducible refine gate_dst (N:=3) rfl ?_);refine box_event ?hg (N:=3) ?hd (cs:=#[.int .i64 a0_0,.slice A0_1 l0_1.length c0_1,.slice A0_2 l0_2.length c0_2,.int .i64 a0_3,.int .i64 a0_4,.int .i64 a0_5,.int .i64 a0_6,.int .i64 a0_7,.slice A0_8 l0_8.length c0_8,.int .i64 a0_9]) (t:=28) ?hr ?_;(case hd => rfl);(case hg => rfl);(case hr => first|(go_simp;done)|(go_simp;rfl));intro gb369 hg w30 hbox hb;have BK369:=Aside0.mk (hbox);have GE369:=Aside0.mk ((by rw [hg];exact (below_size (by repeat (first|(with_reducible first|exact HB.out|apply below_alloc|apply pw_below_drewN|apply below_drew1)|exact HB.out))) : w.heap.size ≤ gb369));replace HB:=Aside0.mk (below_step (by repeat (first|(with_reducible first|exact HB.out|apply below_alloc|apply pw_below_drewN|apply below_drew1)|exact HB.out)) hb);clear hb hbox hg;have hcz31_0 : w30.cell? ⟨gb369,0,none⟩ = some (.int .i64 a0_0):=(blk_cell BK369.out 0).trans rfl;have hcz31_1 : w30.cell? ⟨gb369,1,none⟩ = some (.slice A0_1 l0_1.length c0_1):=(blk_cell BK369.out 1).trans rfl;have hcz31_2 : w30.cell? ⟨gb369,2,none⟩ = some (.slice A0_2 l0_2.length c0_2):=(blk_cell BK369.out 2).trans rfl;have hcz31_3 : w30.cell? ⟨gb369,3,none⟩ = some (.int .i64 a0_3):=(blk_cell BK369.out 3).trans rfl;have hcz31_4 : w30.cell? ⟨gb369,4,none⟩ = some (.int .i64 a0_4):=(blk_cell BK369.out 4).trans rfl;have hcz31_5 : w30.cell? ⟨gb369,5,none⟩ = some (.int .i64 a0_5):=(blk_cell BK369.out 5).trans rfl;have hcz31_6 : w30.cell? ⟨gb369,6,none⟩ = some (.int .i64 a0_6):=(blk_cell BK369.out 6).trans rfl;have hcz31_7 : w30.cell? ⟨gb369,7,none⟩ = some (.int .i64 a0_7):=(blk_cell BK369.out 7).trans rfl;have hcz31_8 : w30.cell? ⟨gb369,8,none⟩ = some (.slice A0_8 l0_8.length c0_8):=(blk_cell BK369.out 8).trans rfl;have hcz31_9 : w30.cell? ⟨gb369,9,none⟩ = some (.int .i64 a0_9):=(blk_cell BK369.out 9).trans rfl;have hfz31_0:=blk_frozen BK369.out 0;have hfz31_1:=blk_frozen BK369.out 1;have hfz31_2:=blk_frozen BK369.out 2;have hfz31_3:=blk_frozen BK369.out 3;have hfz31_4:=blk_frozen BK369.out 4;have hfz31_5:=blk_frozen BK369.out 5;have hfz31_6:=blk_frozen BK369.out 6;have hfz31_7:=blk_frozen BK369.out 7;have hfz31_8:=blk_frozen BK369.out 8;have hfz31_9:=blk_frozen BK369.out 9)|(go_at_call 16;(with_reducible refine (impl_InRange.calls a2 1 4 t372 _ A29.out).mono ?_);rintro e w' ⟨rfl,⟨nd,rfl⟩⟩))
      go_ret
      exact ⟨by first|rfl|(simp [errW_none,errW_some] <;> rfl)|(simp [*,errW_none,errW_some] <;> rfl),by repeat (first|(with_reducible first|exact HB.out|apply below_alloc|apply pw_below_drewN|apply below_drew1|refine below_set ?_ GE369.out)|exact HB.out)⟩
     ·rw [if_neg c28] at H
      have c28b0 : (a2 == (wrap64 (a0_0 - 1))) = false:=beq_eq_false_iff_ne.mpr c28
      have c28b1 : (a2 != (wrap64 (a0_0 - 1))) = true:=bne_iff_ne.mpr c28
      obtain rfl:=Option.some.inj H
      go_enter Try.func15,Try.ntmps15
      go_wp2_with (first|((with_reducible refine gate_dst (N:=3) rfl ?_);refine box_event ?hg (N:=3) ?hd (cs:=#[.int .i64 a0_0,.slice A0_1 l0_1.length c0_1,.slice A0_2 l0_2.length c0_2,.int .i64 a0_3,.int .i64 a0_4,.int .i64 a0_5,.int .i64 a0_6,.int .i64 a0_7,.slice A0_8 l0_8.length c0_8,.int .i64 a0_9]) (t:=28) ?hr ?_;(case hd => rfl);(case hg => rfl);(case hr => first|(go_simp;done)|(go_simp;rfl));intro gb369 hg w32 hbox hb;have BK369:=Aside0.mk (hbox);have GE369:=Aside0.mk ((by rw [hg];exact (below_size (by repeat (first|(with_reducible first|exact HB.out|apply below_alloc|apply pw_below_drewN|apply below_drew1)|exact HB.out))) : w.heap.size ≤ gb369));replace HB:=Aside0.mk (below_step (by repeat (first|(with_reducible first|exact HB.out|apply below_alloc|apply pw_below_drewN|apply below_drew1)|exact HB.out)) hb);clear hb hbox hg;have hcz33_0 : w32.cell? ⟨gb369,0,none⟩ = some (.int .i64 a0_0):=(blk_cell BK369.out 0).trans rfl;have hcz33_1 : w32.cell? ⟨gb369,1,none⟩ = some (.slice A0_1 l0_1.length c0_1):=(blk_cell BK369.out 1).trans rfl;have hcz33_2 : w32.cell? ⟨gb369,2,none⟩ = some (.slice A0_2 l0_2.length c0_2):=(blk_cell BK369.out 2).trans rfl;have hcz33_3 : w32.cell? ⟨gb369,3,none⟩ = some (.int .i64 a0_3):=(blk_cell BK369.out 3).trans rfl;have hcz33_4 : w32.cell? ⟨gb369,4,none⟩ = some (.int .i64 a0_4):=(blk_cell BK369.out 4).trans rfl;have hcz33_5 : w32.cell? ⟨gb369,5,none⟩ = some (.int .i64 a0_5):=(blk_cell BK369.out 5).trans rfl;have hcz33_6 : w32.cell? ⟨gb369,6,none⟩ = some (.int .i64 a0_6):=(blk_cell BK369.out 6).trans rfl;have hcz33_7 : w32.cell? ⟨gb369,7,none⟩ = some (.int .i64 a0_7):=(blk_cell BK369.out 7).trans rfl;have hcz33_8 : w32.cell? ⟨gb369,8,none⟩ = some (.slice A0_8 l0_8.length c0_8):=(blk_cell BK369.out 8).trans rfl;have hcz33_9 : w32.cell? ⟨gb369,9,none⟩ = some (.int .i64 a0_9):=(blk_cell BK369.out 9).trans rfl;have hfz33_0:=blk_frozen BK369.out 0;have hfz33_1:=blk_frozen BK369.out 1;have hfz33_2:=blk_frozen BK369.out 2;have hfz33_3:=blk_frozen BK369.out 3;have hfz33_4:=blk_frozen BK369.out 4;have hfz33_5:=blk_frozen BK369.out 5;have hfz33_6:=blk_frozen BK369.out 6;have hfz33_7:=blk_frozen BK369.out 7;have hfz33_8:=blk_frozen BK369.out 8;have hfz33_9:=blk_frozen BK369.out 9))
      go_ret
      exact ⟨by first|rfl|(simp [errW_none,errW_some] <;> rfl)|(simp [*,errW_none,errW_some] <;> rfl),by repeat (first|(with_reducible first|exact HB.out|apply below_alloc|apply pw_below_drewN|apply below_drew1|refine below_set ?_ GE369.out)|exact HB.out)⟩
    ·rw [if_neg c27] at H
     have c27b0 : (a1 == 0) = false:=beq_eq_false_iff_ne.mpr c27
     have c27b1 : (a1 != 0) = true:=bne_iff_ne.mpr c27
     obtain rfl:=Option.some.inj H
     go_enter Try.func15,Try.ntmps15
     go_wp2_with (first|((with_reducible refine gate_dst (N:=3) rfl ?_);refine box_event ?hg (N:=3) ?hd (cs:=#[.int .i64 a0_0,.slice A0_1 l0_1.length c0_1,.slice A0_2 l0_2.length c0_2,.int .i64 a0_3,.int .i64 a0_4,.int .i64 a0_5,.int .i64 a0_6,.int .i64 a0_7,.slice A0_8 l0_8.length c0_8,.int .i64 a0_9]) (t:=28) ?hr ?_;(case hd => rfl);(case hg => rfl);(case hr => first|(go_simp;done)|(go_simp;rfl));intro gb369 hg w34 hbox hb;have BK369:=Aside0.mk (hbox);have GE369:=Aside0.mk ((by rw [hg];exact (below_size (by repeat (first|(with_reducible first|exact HB.out|apply below_alloc|apply pw_below_drewN|apply below_drew1)|exact HB.out))) : w.heap.size ≤ gb369));replace HB:=Aside0.mk (below_step (by repeat (first|(with_reducible first|exact HB.out|apply below_alloc|apply pw_below_drewN|apply below_drew1)|exact HB.out)) hb);clear hb hbox hg))
     go_ret
     exact ⟨by first|rfl|(simp [errW_none,errW_some] <;> rfl)|(simp [*,errW_none,errW_some] <;> rfl),by repeat (first|(with_reducible first|exact HB.out|apply below_alloc|apply pw_below_drewN|apply below_drew1|refine below_set ?_ GE369.out)|exact HB.out)⟩
  ·rw [if_neg c24] at H
   have c24b0 : decide (0 ≤ a1) = false:=decide_eq_false c24
   clear c24
   by_cases c35 : a1 = 0
   ·rw [if_pos c35] at H
    have c35b0 : (a1 == 0) = true:=beq_iff_eq.mpr c35
    have c35b1 : (a1 != 0) = false:=bne_eq_false_iff_eq.mpr c35
    clear c35
    by_cases c36 : a2 = (wrap64 (a0_0 - 1))
    ·rw [if_pos c36] at H
     have c36b0 : (a2 == (wrap64 (a0_0 - 1))) = true:=beq_iff_eq.mpr c36
     have c36b1 : (a2 != (wrap64 (a0_0 - 1))) = false:=bne_eq_false_iff_eq.mpr c36
     clear c36
     replace H:=Option.bind_eq_some_iff.mp H
     obtain ⟨t373,A370,H⟩:=H
     replace H : (some t373) = some r:=H
     have A37:=Aside0.mk A370
     clear A370
     obtain rfl:=Option.some.inj H
     go_enter Try.func15,Try.ntmps15
     go_wp2_with (first|((with_reducible refine gate_dst (N:=3) rfl ?_);refine box_event ?hg (N:=3) ?hd (cs:=#[.int .i64 a0_0,.slice A0_1 l0_1.length c0_1,.slice A0_2 l0_2.length c0_2,.int .i64 a0_3,.int .i64 a0_4,.int .i64 a0_5,.int .i64 a0_6,.int .i64 a0_7,.slice A0_8 l0_8.length c0_8,.int .i64 a0_9]) (t:=28) ?hr ?_;(case hd => rfl);(case hg => rfl);(case hr => first|(go_simp;done)|(go_simp;rfl));intro gb369 hg w38 hbox hb;have BK369:=Aside0.mk (hbox);have GE369:=Aside0.mk ((by rw [hg];exact (below_size (by repeat (first|(with_reducible first|exact HB.out|apply below_alloc|apply pw_below_drewN|apply below_drew1)|exact HB.out))) : w.heap.size ≤ gb369));replace HB:=Aside0.mk (below_step (by repeat (first|(with_reducible first|exact HB.out|apply below_alloc|apply pw_below_drewN|apply below_drew1)|exact HB.out)) hb);clear hb hbox hg;have hcz39_0 : w38.cell? ⟨gb369,0,none⟩ = some (.int .i64 a0_0):=(blk_cell BK369.out 0).trans rfl;have hcz39_1 : w38.cell? ⟨gb369,1,none⟩ = some (.slice A0_1 l0_1.length c0_1):=(blk_cell BK369.out 1).trans rfl;have hcz39_2 : w38.cell? ⟨gb369,2,none⟩ = some (.slice A0_2 l0_2.length c0_2):=(blk_cell BK369.out 2).trans rfl;have hcz39_3 : w38.cell? ⟨gb369,3,none⟩ = some (.int .i64 a0_3):=(blk_cell BK369.out 3).trans rfl;have hcz39_4 : w38.cell? ⟨gb369,4,none⟩ = some (.int .i64 a0_4):=(blk_cell BK369.out 4).trans rfl;have hcz39_5 : w38.cell? ⟨gb369,5,none⟩ = some (.int .i64 a0_5):=(blk_cell BK369.out 5).trans rfl;have hcz39_6 : w38.cell? ⟨gb369,6,none⟩ = some (.int .i64 a0_6):=(blk_cell BK369.out 6).trans rfl;have hcz39_7 : w38.cell? ⟨gb369,7,none⟩ = some (.int .i64 a0_7):=(blk_cell BK369.out 7).trans rfl;have hcz39_8 : w38.cell? ⟨gb369,8,none⟩ = some (.slice A0_8 l0_8.length c0_8):=(blk_cell BK369.out 8).trans rfl;have hcz39_9 : w38.cell? ⟨gb369,9,none⟩ = some (.int .i64 a0_9):=(blk_cell BK369.out 9).trans rfl;have hfz39_0:=blk_frozen BK369.out 0;have hfz39_1:=blk_frozen BK369.out 1;have hfz39_2:=blk_frozen BK369.out 2;have hfz39_3:=blk_frozen BK369.out 3;have hfz39_4:=blk_frozen BK369.out 4;have hfz39_5:=blk_frozen BK369.out 5;have hfz39_6:=blk_frozen BK369.out 6;have hfz39_7:=blk_frozen BK369.out 7;have hfz39_8:=blk_frozen BK369.out 8;have hfz39_9:=blk_frozen BK369.out 9)|(go_at_call 16;(with_reducible refine (impl_InRange.calls a2 1 4 t373 _ A37.out).mono ?_);rintro e w' ⟨rfl,⟨nd,rfl⟩⟩))
     go_ret
     exact ⟨by first|rfl|(simp [errW_none,errW_some] <;> rfl)|(simp [*,errW_none,errW_some] <;> rfl),by repeat (first|(with_reducible first|exact HB.out|apply below_alloc|apply pw_below_drewN|apply below_drew1|refine below_set ?_ GE369.out)|exact HB.out)⟩
    ·rw [if_neg c36] at H
     have c36b0 : (a2 == (wrap64 (a0_0 - 1))) = false:=beq_eq_false_iff_ne.mpr c36
     have c36b1 : (a2 != (wrap64 (a0_0 - 1))) = true:=bne_iff_ne.mpr c36
     obtain rfl:=Option.some.inj H
     go_enter Try.func15,Try.ntmps15
     go_wp2_with (first|((with_reducible refine gate_dst (N:=3) rfl ?_);refine box_event ?hg (N:=3) ?hd (cs:=#[.int .i64 a0_0,.slice A0_1 l0_1.length c0_1,.slice A0_2 l0_2.length c0_2,.int .i64 a0_3,.int .i64 a0_4,.int .i64 a0_5,.int .i64 a0_6,.int .i64 a0_7,.slice A0_8 l0_8.length c0_8,.int .i64 a0_9]) (t:=28) ?hr ?_;(case hd => rfl);(case hg => rfl);(case hr => first|(go_simp;done)|(go_simp;rfl));intro gb369 hg w40 hbox hb;have BK369:=Aside0.mk (hbox);have GE369:=Aside0.mk ((by rw [hg];exact (below_size (by repeat (first|(with_reducible first|exact HB.out|apply below_alloc|apply pw_below_drewN|apply below_drew1)|exact HB.out))) : w.heap.size ≤ gb369));replace HB:=Aside0.mk (below_step (by repeat (first|(with_reducible first|exact HB.out|apply below_alloc|apply pw_below_drewN|apply below_drew1)|exact HB.out)) hb);clear hb hbox hg;have hcz41_0 : w40.cell? ⟨gb369,0,none⟩ = some (.int .i64 a0_0):=(blk_cell BK369.out 0).trans rfl;have hcz41_1 : w40.cell? ⟨gb369,1,none⟩ = some (.slice A0_1 l0_1.length c0_1):=(blk_cell BK369.out 1).trans rfl;have hcz41_2 : w40.cell? ⟨gb369,2,none⟩ = some (.slice A0_2 l0_2.length c0_2):=(blk_cell BK369.out 2).trans rfl;have hcz41_3 : w40.cell? ⟨gb369,3,none⟩ = some (.int .i64 a0_3):=(blk_cell BK369.out 3).trans rfl;have hcz41_4 : w40.cell? ⟨gb369,4,none⟩ = some (.int .i64 a0_4):=(blk_cell BK369.out 4).trans rfl;have hcz41_5 : w40.cell? ⟨gb369,5,none⟩ = some (.int .i64 a0_5):=(blk_cell BK369.out 5).trans rfl;have hcz41_6 : w40.cell? ⟨gb369,6,none⟩ = some (.int .i64 a0_6):=(blk_cell BK369.out 6).trans rfl;have hcz41_7 : w40.cell? ⟨gb369,7,none⟩ = some (.int .i64 a0_7):=(blk_cell BK369.out 7).trans rfl;have hcz41_8 : w40.cell? ⟨gb369,8,none⟩ = some (.slice A0_8 l0_8.length c0_8):=(blk_cell BK369.out 8).trans rfl;have hcz41_9 : w40.cell? ⟨gb369,9,none⟩ = some (.int .i64 a0_9):=(blk_cell BK369.out 9).trans rfl;have hfz41_0:=blk_frozen BK369.out 0;have hfz41_1:=blk_frozen BK369.out 1;have hfz41_2:=blk_frozen BK369.out 2;have hfz41_3:=blk_frozen BK369.out 3;have hfz41_4:=blk_frozen BK369.out 4;have hfz41_5:=blk_frozen BK369.out 5;have hfz41_6:=blk_frozen BK369.out 6;have hfz41_7:=blk_frozen BK369.out 7;have hfz41_8:=blk_frozen BK369.out 8;have hfz41_9:=blk_frozen BK369.out 9))
     go_ret
     exact ⟨by first|rfl|(simp [errW_none,errW_some] <;> rfl)|(simp [*,errW_none,errW_some] <;> rfl),by repeat (first|(with_reducible first|exact HB.out|apply below_alloc|apply pw_below_drewN|apply below_drew1|refine below_set ?_ GE369.out)|exact HB.out)⟩
   ·rw [if_neg c35] at H
    have c35b0 : (a1 == 0) = false:=beq_eq_false_iff_ne.mpr c35
    have c35b1 : (a1 != 0) = true:=bne_iff_ne.mpr c35
    obtain rfl:=Option.some.inj H
    go_enter Try.func15,Try.ntmps15
    go_wp2_with (first|((with_reducible refine gate_dst (N:=3) rfl ?_);refine box_event ?hg (N:=3) ?hd (cs:=#[.int .i64 a0_0,.slice A0_1 l0_1.length c0_1,.slice A0_2 l0_2.length c0_2,.int .i64 a0_3,.int .i64 a0_4,.int .i64 a0_5,.int .i64 a0_6,.int .i64 a0_7,.slice A0_8 l0_8.length c0_8,.int .i64 a0_9]) (t:=28) ?hr ?_;(case hd => rfl);(case hg => rfl);(case hr => first|(go_simp;done)|(go_simp;rfl));intro gb369 hg w42 hbox hb;have BK369:=Aside0.mk (hbox);have GE369:=Aside0.mk ((by rw [hg];exact (below_size (by repeat (first|(with_reducible first|exact HB.out|apply below_alloc|apply pw_below_drewN|apply below_drew1)|exact HB.out))) : w.heap.size ≤ gb369));replace HB:=Aside0.mk (below_step (by repeat (first|(with_reducible first|exact HB.out|apply below_alloc|apply pw_below_drewN|apply below_drew1)|exact HB.out)) hb);clear hb hbox hg))
    go_ret
    exact ⟨by first|rfl|(simp [errW_none,errW_some] <;> rfl)|(simp [*,errW_none,errW_some] <;> rfl),by repeat (first|(with_reducible first|exact HB.out|apply below_alloc|apply pw_below_drewN|apply below_drew1|refine below_set ?_ GE369.out)|exact HB.out)⟩

end Go.Proofs.Ytpkmgdjhimkiiaa.PFnSkies
