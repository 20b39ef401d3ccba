/- The functions that FnSkies reaches: each Go function with a Lean function of the same answers; conditions: none beyond what each theorem states. Out of the lines of print.sh, mended. -/
import Derived.Test.YtpkmgdjhimkiiaaHFnSkiesx0
import Derived.Test.YtpkmgdjhimkiiaaHFnSkiesx5
namespace Go.Proofs.Ytpkmgdjhimkiiaa.PFnSkies
open Go.RowKit Go.Proofs.YtpkmgdjhimkiiaaW.PrintWords Go.Proofs.YtpkmgdjhimkiiaaW.PrintLast Go.Proofs.YtpkmgdjhimkiiaaW.PrintMore
attribute [local go_sem] max2_int min2_int max_two min_two max_three min_three max_four min_four   -- for this text's walks alone
set_option linter.unusedVariables false
set_option linter.unusedSimpArgs false

/-! ### impl_IsSat: function 17 -/
def impl_IsSat.f (a0_0 : Int) (a0_1 : Int) (a0_2 : Int) (a0_3 : Int) (a1 : Int) : Option (Bool):=if a0_0 ≥ 0 then (if a0_0 < a1 then ((impl_InRange.f a0_1 0 359).bind fun t385 => (if t385 = true then ((impl_InRange.f a0_2 (-60) 60).bind fun t386 => (if t386 = true then ((impl_InRange.f a0_3 0 20).bind fun t387 => (some t387)) else (some false))) else (some false))) else (some false)) else (some false)
set_option maxHeartbeats 8000000 in
set_option maxRecDepth 100000 in
theorem impl_IsSat.calls (a0_0 : Int) (a0_1 : Int) (a0_2 : Int) (a0_3 : Int) (a1 : Int) (r : Bool) (w : World) (h : impl_IsSat.f a0_0 a0_1 a0_2 a0_3 a1 = some r) :
  Calls Try.prog 17 #[.agg #[.int .i64 a0_0,.int .i64 a0_1,.int .i64 a0_2,.int .i64 a0_3],.int .i64 a1] w fun e w' => e = .returned (.bool r) ∧ Below w.heap.size w w':=by
 have hu43:=Try.underlying43
 have HB:=Aside0.mk (Below.refl w.heap.size w)
 have H : (if a0_0 ≥ 0 then (if a0_0 < a1 then ((impl_InRange.f a0_1 0 359).bind fun t385 => (if t385 = true then ((impl_InRange.f a0_2 (-60) 60).bind fun t386 => (if t386 = true then ((impl_InRange.f a0_3 0 20).bind fun t387 => (some t387)) else (some false))) else (some false))) else (some false)) else (some false)) = some r:=h
 clear h
 by_cases c3 : a0_0 ≥ 0
 ·rw [if_pos c3] at H
  have c3b0 : decide (0 ≤ a0_0) = true:=decide_eq_true c3
  clear c3
  by_cases c4 : a0_0 < a1
  ·rw [if_pos c4] at H
   have c4b0 : decide (a0_0 < a1) = true:=decide_eq_true c4
   clear c4
   replace H:=Option.bind_eq_some_iff.mp H
   obtain ⟨t385,A50,H⟩:=H
   replace H : (if t385 = true then ((impl_InRange.f a0_2 (-60) 60).bind fun t386 => (if t386 = true then ((impl_InRange.f a0_3 0 20).bind fun t387 => (some t387)) else (some false))) else (some false)) = some r:=H
   have A5:=Aside0.mk A50
   clear A50
   by_cases c6 : t385 = true
   ·subst c6
    have H1 : ((impl_InRange.f a0_2 (-60) 60).bind fun t386 => (if t386 = true then ((impl_InRange.f a0_3 0 20).bind fun t387 => (some t387)) else (some false))) = some r:=by rw [if_pos rfl] at H;exact H
    clear H
    have H:=H1
    clear H1
    replace H:=Option.bind_eq_some_iff.mp H
    obtain ⟨t386,A70,H⟩:=H
    replace H : (if t386 = true then ((impl_InRange.f a0_3 0 20).bind fun t387 => (some t387)) else (some false)) = some r:=H
    have A7:=Aside0.mk A70
    clear A70
    by_cases c8 : t386 = true
    ·subst c8
     have H1 : ((impl_InRange.f a0_3 0 20).bind fun t387 => (some t387)) = some r:=by rw [if_pos rfl] at H;exact H
     clear H
     have H:=H1
     clear H1
     replace H:=Option.bind_eq_some_iff.mp H
     obtain ⟨t387,A90,H⟩:=H
     replace H : (some t387) = some r:=H
     have A9:=Aside0.mk A90
     clear A90
     obtain rfl:=Option.some.inj H
     go_enter Try.func17,Try.ntmps17
     go_wp2_with (first|((with_reducible refine gate_dst (N:=2) rfl ?_);refine box_event ?hg (N:=2) ?hd (cs:=#[.int .i64 a0_0,.int .i64 a0_1,.int .i64 a0_2,.int .i64 a0_3]) (t:=43) ?hr ?_;(case hd => rfl);(case hg => rfl);(case hr => first|(go_simp;done)|(go_simp;rfl));intro gb384 hg w10 hbox hb;have BK384:=Aside0.mk (hbox);have GE384:=Aside0.mk ((by rw [hg];exact (below_size (by repeat (first|(with_reducible first|exact HB.out|apply below_alloc|apply pw_below_drewN|apply below_drew1)|exact HB.out))) : w.heap.size ≤ gb384));replace HB:=Aside0.mk (below_step (by repeat (first|(with_reducible first|exact HB.out|apply below_alloc|apply pw_below_drewN|apply below_drew1)|exact HB.out)) hb);clear hb hbox hg;have hcz11_0 : w10.cell? ⟨gb384,0,none⟩ = some (.int .i64 a0_0):=(blk_cell BK384.out 0).trans rfl;have hcz11_1 : w10.cell? ⟨gb384,1,none⟩ = some (.int .i64 a0_1):=(blk_cell BK384.out 1).trans rfl;have hcz11_2 : w10.cell? ⟨gb384,2,none⟩ = some (.int .i64 a0_2):=(blk_cell BK384.out 2).trans rfl;have hcz11_3 : w10.cell? ⟨gb384,3,none⟩ = some (.int .i64 a0_3):=(blk_cell BK384.out 3).trans rfl;have hfz11_0:=blk_frozen BK384.out 0;have hfz11_1:=blk_frozen BK384.out 1;have hfz11_2:=blk_frozen BK384.out 2;have hfz11_3:=blk_frozen BK384.out 3)|(go_at_call 16;(with_reducible refine (impl_InRange.calls a0_1 0 359 true _ A5.out).mono ?_);rintro e w' ⟨rfl,⟨nd,rfl⟩⟩)|(go_at_call 16;(with_reducible refine (impl_InRange.calls a0_2 (-60) 60 true _ A7.out).mono ?_);rintro e w' ⟨rfl,⟨nd,rfl⟩⟩)|(go_at_call 16;(with_reducible refine (impl_InRange.calls a0_3 0 20 t387 _ A9.out).mono ?_);rintro e w' ⟨rfl,⟨nd,rfl⟩⟩))
     go_ret
     exact ⟨by first|rfl|(simp [errW_none,errW_some] <;> rfl)|(simp [*,errW_none,errW_some] <;> rfl),by repeat (first|(with_reducible first|exact HB.out|apply below_alloc|apply pw_below_drewN|apply below_drew1|refine below_set ?_ GE384.out)|exact HB.out)⟩
    ·replace c8:=Bool.eq_false_iff.mpr c8
     subst c8
     have H1 : (some false) = some r:=by rw [if_neg (show ¬ (false = true) by decide)] at H;exact H
     clear H
     have H:=H1
     clear H1
     obtain rfl:=Option.some.inj H
     go_enter Try.func17,Try.ntmps17
     go_wp2_with (first|((with_reducible refine gate_dst (N:=2) rfl ?_);refine box_event ?hg (N:=2) ?hd (cs:=#[.int .i64 a0_0,.int .i64 a0_1,.int .i64 a0_2,.int .i64 a0_3]) (t:=43) ?hr ?_;(case hd => rfl);(case hg => rfl);(case hr => first|(go_simp;done)|(go_simp;rfl));intro gb384 hg w12 hbox hb;have BK384:=Aside0.mk (hbox);have GE384:=Aside0.mk ((by rw [hg];exact (below_size (by repeat (first|(with_reducible first|exact HB.out|apply below_alloc|apply pw_below_drewN|apply below_drew1)|exact HB.out))) : w.heap.size ≤ gb384));replace HB:=Aside0.mk (below_step (by repeat (first|(with_reducible first|exact HB.out|apply below_alloc|apply pw_below_drewN|apply below_drew1)|exact HB.out)) hb);clear hb hbox hg;have hcz13_0 : w12.cell? ⟨gb384,0,none⟩ = some (.int .i64 a0_0):=(blk_cell BK384.out 0).trans rfl;have hcz13_1 : w12.cell? ⟨gb384,1,none⟩ = some (.int .i64 a0_1):=(blk_cell BK384.out 1).trans rfl;have hcz13_2 : w12.cell? ⟨gb384,2,none⟩ = some (.int .i64 a0_2):=(blk_cell BK384.out 2).trans rfl;have hcz13_3 : w12.cell? ⟨gb384,3,none⟩ = some (.int .i64 a0_3):=(blk_cell BK384.out 3).trans rfl;have hfz13_0:=blk_frozen BK384.out 0;have hfz13_1:=blk_frozen BK384.out 1;have hfz13_2:=blk_frozen BK384.out 2;have hfz13_3:=blk_frozen BK384.out 3)|(go_at_call 16;(with_reducible refine (impl_InRange.calls a0_1 0 359 true _ A5.out).mono ?_);rintro e w' ⟨rfl,⟨nd,rfl⟩⟩)|(go_at_call 16;(with_reducible refine (impl_InRange.calls a0_2 (-60) 60 false _ A7.out).mono ?_);rintro e w' ⟨rfl,⟨nd,rfl⟩⟩))
     go_ret
     exact ⟨by first|rfl|(simp [errW_none,errW_some] <;> rfl)|(simp [*,errW_none,errW_some] <;> rfl),by repeat (first|(with_reducible first|exact HB.out|apply below_alloc|apply pw_below_drewN|apply below_drew1|refine below_set ?_ GE384.out)|exact HB.out)⟩
   ·replace c6:=Bool.eq_false_iff.mpr c6
    subst c6
    have H1 : (some false) = some r:=by rw [if_neg (show ¬ (false = true) by decide)] at H;exact H
    clear H
    have H:=H1
    clear H1
    obtain rfl:=Option.some.inj H
    go_enter Try.func17,Try.ntmps17
    go_wp2_with (first|((with_reducible refine gate_dst (N:=2) rfl ?_);refine box_event ?hg (N:=2) ?hd (cs:=#[.int .i64 a0_0,.int .i64 a0_1,.int .i64 a0_2,.int .i64 a0_3]) (t:=43) ?hr ?_;(case hd => rfl);(case hg => rfl);(case hr => first|(go_simp;done)|(go_simp;rfl));intro gb384 hg w14 hbox hb;have BK384:=Aside0.mk (hbox);have GE384:=Aside0.mk ((by rw [hg];exact (below_size (by repeat (first|(with_reducible first|exact HB.out|apply below_alloc|apply pw_below_drewN|apply below_drew1)|exact HB.out))) : w.heap.size ≤ gb384));replace HB:=Aside0.mk (below_step (by repeat (first|(with_reducible first|exact HB.out|apply below_alloc|apply pw_below_drewN|apply below_drew1)|exact HB.out)) hb);clear hb hbox hg;have hcz15_0 : w14.cell? ⟨gb384,0,none⟩ = some (.int .i64 a0_0):=(blk_cell BK384.out 0).trans rfl;have hcz15_1 : w14.cell? ⟨gb384,1,none⟩ = some (.int .i64 a0_1):=(blk_cell BK384.out 1).trans rfl;have hcz15_2 : w14.cell? ⟨gb384,2,none⟩ = some (.int .i64 a0_2):=(blk_cell BK384.out 2).trans rfl;have hcz15_3 : w14.cell? ⟨gb384,3,none⟩ = some (.int .i64 a0_3):=(blk_cell BK384.out 3).trans rfl;have hfz15_0:=blk_frozen BK384.out 0;have hfz15_1:=blk_frozen BK384.out 1;have hfz15_2:=blk_frozen BK384.out 2;have hfz15_3:=blk_frozen BK384.out 3)|(go_at_call 16;(with_reducible refine (impl_InRange.calls a0_1 0 359 false _ A5.out).mono ?_);rintro e w' ⟨rfl,⟨nd,rfl⟩⟩))
    go_ret
    exact ⟨by first|rfl|(simp [errW_none,errW_some] <;> rfl)|(simp [*,errW_none,errW_some] <;> rfl),by repeat (first|(with_reducible first|exact HB.out|apply below_alloc|apply pw_below_drewN|apply below_drew1|refine below_set ?_ GE384.out)|exact HB.out)⟩
  ·rw [if_neg c4] at H
   have c4b0 : decide (a0_0 < a1) = false:=decide_eq_false c4
   clear c4
   obtain rfl:=Option.some.inj H
   go_enter Try.func17,Try.ntmps17
   go_wp2_with (first|((with_reducible refine gate_dst (N:=2) rfl ?_);refine box_event ?hg (N:=2) ?hd (cs:=#[.int .i64 a0_0,.int .i64 a0_1,.int .i64 a0_2,.int .i64 a0_3]) (t:=43) ?hr ?_;(case hd => rfl);(case hg => rfl);(case hr => first|(go_simp;done)|(go_simp;rfl));intro gb384 hg w16 hbox hb;have BK384:=Aside0.mk (hbox);have GE384:=Aside0.mk ((by rw [hg];exact (below_size (by repeat (first|(with_reducible first|exact HB.out|apply below_alloc|apply pw_below_drewN|apply below_drew1)|exact HB.out))) : w.heap.size ≤ gb384));replace HB:=Aside0.mk (below_step (by repeat (first|(with_reducible first|exact HB.out|apply below_alloc|apply pw_below_drewN|apply below_drew1)|exact HB.out)) hb);clear hb hbox hg;have hcz17_0 : w16.cell? ⟨gb384,0,none⟩ = some (.int .i64 a0_0):=(blk_cell BK384.out 0).trans rfl;have hcz17_1 : w16.cell? ⟨gb384,1,none⟩ = some (.int .i64 a0_1):=(blk_cell BK384.out 1).trans rfl;have hcz17_2 : w16.cell? ⟨gb384,2,none⟩ = some (.int .i64 a0_2):=(blk_cell BK384.out 2).trans rfl;have hcz17_3 : w16.cell? ⟨gb384,3,none⟩ = some (.int .i64 a0_3):=(blk_cell BK384.out 3).trans rfl;have hfz17_0:=blk_frozen BK384.out 0;have hfz17_1:=blk_frozen BK384.out 1;have hfz17_2:=blk_frozen BK384.out 2;have hfz17_3:=blk_frozen BK384.out 3))
   go_ret
   exact ⟨by first|rfl|(simp [errW_none,errW_some] <;> rfl)|(simp [*,errW_none,errW_some] <;> rfl),by repeat (first|(with_reducible first|exact HB.out|apply below_alloc|apply pw_below_drewN|apply below_drew1|refine below_set ?_ GE384.out)|exact HB.out)⟩
 ·rw [if_neg c3] at H
  have c3b0 : decide (0 ≤ a0_0) = false:=decide_eq_false c3
  clear c3
  obtain rfl:=Option.some.inj H
  go_enter Try.func17,Try.ntmps17
  go_wp2_with (first|((with_reducible refine gate_dst (N:=2) rfl ?_);refine box_event ?hg (N:=2) ?hd (cs:=#[.int .i64 a0_0,.int .i64 a0_1,.int .i64 a0_2,.int .i64 a0_3]) (t:=43) ?hr ?_;(case hd => rfl);(case hg => rfl);(case hr => first|(go_simp;done)|(go_simp;rfl));intro gb384 hg w18 hbox hb;have BK384:=Aside0.mk (hbox);have GE384:=Aside0.mk ((by rw [hg];exact (below_size (by repeat (first|(with_reducible first|exact HB.out|apply below_alloc|apply pw_below_drewN|apply below_drew1)|exact HB.out))) : w.heap.size ≤ gb384));replace HB:=Aside0.mk (below_step (by repeat (first|(with_reducible first|exact HB.out|apply below_alloc|apply pw_below_drewN|apply below_drew1)|exact HB.out)) hb);clear hb hbox hg;have hcz19_0 : w18.cell? ⟨gb384,0,none⟩ = some (.int .i64 a0_0):=(blk_cell BK384.out 0).trans rfl;have hcz19_1 : w18.cell? ⟨gb384,1,none⟩ = some (.int .i64 a0_1):=(blk_cell BK384.out 1).trans rfl;have hcz19_2 : w18.cell? ⟨gb384,2,none⟩ = some (.int .i64 a0_2):=(blk_cell BK384.out 2).trans rfl;have hcz19_3 : w18.cell? ⟨gb384,3,none⟩ = some (.int .i64 a0_3):=(blk_cell BK384.out 3).trans rfl;have hfz19_0:=blk_frozen BK384.out 0;have hfz19_1:=blk_frozen BK384.out 1;have hfz19_2:=blk_frozen BK384.out 2;have hfz19_3:=blk_frozen BK384.out 3))
  go_ret
  exact ⟨by first|rfl|(simp [errW_none,errW_some] <;> rfl)|(simp [*,errW_none,errW_some] <;> rfl),by repeat (first|(with_reducible first|exact HB.out|apply below_alloc|apply pw_below_drewN|apply below_drew1|refine below_set ?_ GE384.out)|exact HB.out)⟩

/-! ### impl_isWidth: function 18 -/
def impl_isWidth.f (a0 : Int) : Option (Bool):=(impl_InRange.f a0 0 359).bind fun t388 => (some t388)
set_option maxHeartbeats 8000000 in
set_option maxRecDepth 100000 in
theorem impl_isWidth.calls (a0 : Int) (r : Bool) (w : World) (h : impl_isWidth.f a0 = some r) :
  Calls Try.prog 18 #[.int .i64 a0] w fun e w' => e = .returned (.bool r) ∧ Drawn0 w w':=by
 have H : ((impl_InRange.f a0 0 359).bind fun t388 => (some t388)) = some r:=h
 clear h
 replace H:=Option.bind_eq_some_iff.mp H
 obtain ⟨t388,A20,H⟩:=H
 replace H : (some t388) = some r:=H
 have A2:=Aside0.mk A20
 clear A20
 obtain rfl:=Option.some.inj H
 go_enter Try.func18,Try.ntmps18
 go_wp2_with (first|((with_reducible refine gate_callee (f:=16) rfl ?_);refine goesL_ (some 4) rfl rfl Try.func16 (by kernel_rfl) rfl #[.int .i64 a0,.int .i64 0,.int .i64 359] rfl (by (try simp only [List.map_toArray,List.map_cons,List.map_nil]);first|done|rfl|(simp only [List.length_drop,List.length_take];rfl)) ?_;(with_reducible refine (impl_InRange.calls a0 0 359 t388 _ A2.out).mono ?_);rintro e w' ⟨rfl,⟨nd,rfl⟩⟩;refine ⟨_,rfl,?_⟩))
 go_ret
 exact ⟨by first|rfl|(simp;done)|(simp [*];done),by repeat (first|exact Drawn0.refl _|apply Drawn0.step)⟩

end Go.Proofs.Ytpkmgdjhimkiiaa.PFnSkies
