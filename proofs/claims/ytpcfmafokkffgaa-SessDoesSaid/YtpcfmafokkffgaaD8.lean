/-
  Walks and laws that the proof stands on, one behind another: SessD. For every input.
-/
import Derived.Test.YtpcfmafokkffgaaD7
import Derived.Test.YtpcfmafokkffgaaD3
namespace Go.Proofs.Ytpcfmafokkffgaa
open Go.RowKit

/-- One side of a session in memory. -/
def seO (b:Nat) (x:Se) (v:Value):Obj:=.cells #[.int .i64 x.ok,.int .i64 x.oe,.int .i64 x.sent,.int .i64 x.rc.ik,.int .i64 x.rc.ie,.int .u64 x.rc.nx,.int .u64 x.rc.bt,v,.pointer (some ⟨b,0,none⟩),.int .i64 x.h,.int .i64 x.s,.int .i64 x.r,.int .i64 x.v] 148 (0,0)

section
variable {W w:World} {Rs:List Res} {b p:Nat} {L L2:List T} {m:Int}
set_option maxRecDepth 100000 in
set_option maxHeartbeats 8000000 in
theorem step19_calls {x x':Se} {er:Int} {ad:Option Addr} {cap:Nat} (hq:step19 m L x = (er,x',L2)) (h:Hd W w (Sto b L m::Blk p (seO b x (.slice ad x.rc.es.length cap))::Rs)) :
 Calls Try.prog 39 #[.pointer (some ⟨p,0,none⟩)] w fun e' w'=>e' = .returned (.int .i64 er) ∧ x'.rc = x.rc ∧ Hd W w' (Sto b L2 m::Blk p (seO b x' (.slice ad x.rc.es.length cap))::Rs):=by
 have mixed:Try.prog.follows .mixedOrders = true:=by kernel_rfl
 obtain ⟨ok,oe,sent,rc,xh,xs,xr,xv⟩:=x
 unfold step19 at hq
 dsimp only at hq h ⊢
 obtain ⟨⟨dk,de⟩,r2,L3,hn⟩:∃ d r2 L3,next15 m L ok oe = (d,r2,L3):=⟨_,_,_,rfl⟩
 rw [hn] at hq
 have HN:=hid hn
 clear hn
 have H:=hid h
 clear h
 by_cases h2:r2 = 0
 · subst h2
   rw [if_pos rfl] at hq
   simp only [Prod.mk.injEq] at hq
   obtain ⟨rfl,rfl,rfl⟩:=hq
   go_enter Try.func39,Try.ntmps39
   go_wp2_with fail
   have cf63:∀ args w,(callFunc 63 args).run Try.prog w = .ok (.enter 63 args) w:=fun args w=>by kernel_rfl
   refine hold_coreB (P:=Try.prog) (W:=W) (Rs:=(Blk p (.cells #[.int .i64 ok,.int .i64 oe,.int .i64 sent,.int .i64 rc.ik,.int .i64 rc.ie,.int .u64 rc.nx,.int .u64 rc.bt,.slice ad rc.es.length cap,.pointer (some ⟨b,0,none⟩),.int .i64 xh,.int .i64 xs,.int .i64 xr,.int .i64 xv] 148 (0,0))::Rs)) [[],[0],[1],[2],[],[4],[5],[6],[3,7],[8],[9],[9],[],[10,12],[11]] [[],[],[],[],[],[],[],[],[],[],[],[],[12],[12],[]] ([some 6,some 7,some 8,some 9,some 10,some 11,some 12,some 13,some 14,some 5,some 15,some 16,some 3,none,some 4]:List (Option Nat)) ([none,none,none,none,none,none,none,none,none,none,none,none,some 13,none,none,some 8]:List (Option Nat)) ((fun _=>pt p 0)::(fun _=>pt p 0)::(fun _=>pt p 0)::(fun _=>.agg #[.int .i64 ok,.int .i64 oe,.int .i64 sent])::(fun _=>pt p 0)::(fun _=>pt p 0)::(fun _=>pt p 8)::(fun _=>pt b 0)::(fun _=>.tuple #[.agg #[.int .i64 dk,.int .i64 de,.int .i64 0],.int .i64 0])::(fun _=>.tuple #[.agg #[.int .i64 dk,.int .i64 de,.int .i64 0],.int .i64 0])::(fun _=>.agg #[.int .i64 dk,.int .i64 de,.int .i64 0])::(fun _=>.int .i64 0)::(fun gs=>pt ((gs.getD 0 default).2) 0)::(fun _=>undef)::(fun _=>.int .i64 0)::[]) (zR::zR::zR::zR::zR::zR::zR::zR::zR::zR::zR::zR::(fun gs=>[Blk (gs.getD 0 default).2 (.cells #[.int .i64 0,.int .i64 0,.int .i64 0] 140 (0,0))])::zR::zR::(fun _=>[Sto b L m])::([]:List (List Gh → List Res))) (zR::zR::zR::zR::zR::zR::zR::zR::zR::zR::zR::zR::(fun gs=>[Blk (gs.getD 0 default).2 (.cells #[.int .i64 dk,.int .i64 de,.int .i64 0] 140 (0,0))])::zR::zR::(fun _=>[Sto b L3 m])::([]:List (List Gh → List Res))) (by kernel_rfl) rfl (hold_lt (n:=24) (by decide)) H.out rfl (by decide) (hold_nil (fs:=[13,8]) trivial rfl ?nil1ok) ?gd1ok ?step1ok (fun t=>(decide (3 ≤ t) && decide (t ≤ 16))) (by decide) ?done1ok (fun I h0 st dn=>run_wpB mixed I h0 st dn)
   case nil1ok =>
    intro s gs hs
    simp only [List.mem_cons,List.not_mem_nil,or_false] at hs
    rcases hs with rfl | rfl <;> rfl
   case gd1ok =>
    repeat (refine StepAll.cons (by first | exact trivial | exact fun g=>rfl) ?_)
    exact trivial
   case step1ok =>
    refine .cons (pR 0 rfl fun _=>⟨rfl,rfl⟩) ?_
    refine .cons (pN 0 6 rfl fun _=>⟨rfl,rfl⟩) ?_
    refine .cons (pF 1 7 0 rfl rfl (fun b q w=>by simp [go_sem]) fun _=>⟨⟨_,_,rfl,rfl⟩,rfl⟩) ?_
    refine StepAll.cons ?_ ?_
    · refine HoldStepB.val (by decide) fun a wx γ hn hr hres hpre Ss hH K hK=>?_
      have e8:a.eval (.tmp 8) = .pointer (some ⟨p,0,none⟩):=hn 2 (by decide) 8 rfl
      exact hold_run (v:=.agg #[.int .i64 ok,.int .i64 oe,.int .i64 sent]) (by clear hn hr hK; generalize a.eval = ρ at *; simp [execOp,e8,cell_of_heap (Hd.nthk 0 hH.rear rfl),go_sem]) rfl rfl hH hK
    refine .cons (pR 0 rfl fun _=>⟨rfl,rfl⟩) ?_
    refine .cons (pN 4 10 rfl fun _=>⟨rfl,rfl⟩) ?_
    refine .cons (pF 5 11 8 rfl rfl (fun b q w=>by simp [go_sem]) fun _=>⟨⟨_,_,rfl,rfl⟩,rfl⟩) ?_
    refine StepAll.cons ?_ ?_
    · refine HoldStepB.val (by decide) fun a wx γ hn hr hres hpre Ss hH K hK=>?_
      have e12:a.eval (.tmp 12) = .pointer (some ⟨p,8,none⟩):=hn 6 (by decide) 12 rfl
      exact hold_run (v:=.pointer (some ⟨b,0,none⟩)) (by clear hn hr hK; generalize a.eval = ρ at *; simp [execOp,e12,cell_of_heap (Hd.nthk 0 hH.rear rfl),go_sem]) rfl rfl hH hK
    refine StepAll.cons ?_ ?_
    · refine HoldStepB.fil 15 (by decide) fun a wx γ hn hr hres hpre Ss hH K hK=>?_
      have e9:a.eval (.tmp 9) = .agg #[.int .i64 ok,.int .i64 oe,.int .i64 sent]:=hn 3 (by decide) 9 rfl
      have e13:a.eval (.tmp 13) = .pointer (some ⟨b,0,none⟩):=hn 7 (by decide) 13 rfl
      have ef:a.eval (.func 63) = .func (.func 63) #[] #[]:=rfl
      refine hold_callB (b:=15) (f:=63) (args:=#[.agg #[.int .i64 ok,.int .i64 oe,.int .i64 sent],.pointer (some ⟨b,0,none⟩)]) (by clear hn hr hK hH; generalize a.eval = ρ at *; simp [execOp,e9,e13,cf63,ef,go_sem]) ?_ hK
      exact (snext_calls ok oe sent HN.out hH).mono fun e2 w2 h=>⟨default,h.1,h.2⟩
    refine .cons (pN 8 14 rfl fun _=>⟨rfl,rfl⟩) ?_
    refine .cons (pN 9 5 rfl fun _=>⟨rfl,rfl⟩) ?_
    refine .cons (pN 9 5 rfl fun _=>⟨rfl,rfl⟩) ?_
    refine StepAll.cons ?_ ?_
    · refine HoldStepB.val (by decide) fun a wx γ hn hr hres hpre Ss hH K hK=>?_
      exact hold_new (obj:=.cells #[.int .i64 0,.int .i64 0,.int .i64 0] 140 (0,0)) (v:=.pointer (some ⟨wx.heap.size,0,none⟩)) (by clear hn hr hK; generalize a.eval = ρ at *; simp [execOp,go_sem]) rfl rfl hH hK
    refine StepAll.cons ?_ ?_
    · refine HoldStepB.fil 12 (by decide) fun a wx γ hn hr hres hpre Ss hH K hK=>?_
      have e3:a.eval (.tmp 3) = .pointer (some ⟨(γ 12).2,0,none⟩):=hn 12 (by decide) 3 rfl
      have e15:a.eval (.tmp 15) = .agg #[.int .i64 dk,.int .i64 de,.int .i64 0]:=hn 10 (by decide) 15 rfl
      have hH2:Hd W wx (Blk (γ 12).2 (.cells #[.int .i64 0,.int .i64 0,.int .i64 0] 140 (0,0))::(Ss ++ (Blk p (.cells #[.int .i64 ok,.int .i64 oe,.int .i64 sent,.int .i64 rc.ik,.int .i64 rc.ie,.int .u64 rc.nx,.int .u64 rc.bt,.slice ad rc.es.length cap,.pointer (some ⟨b,0,none⟩),.int .i64 xh,.int .i64 xs,.int .i64 xr,.int .i64 xv] 148 (0,0))::Rs))):=hH
      have hk:=hH2.blk
      have c0:=(cell_of_heap hk 0).trans (show _ = some (.int .i64 0) from rfl)
      have c1:=(cell_of_heap hk 1).trans (show _ = some (.int .i64 0) from rfl)
      have c2:=(cell_of_heap hk 2).trans (show _ = some (.int .i64 0) from rfl)
      have cf:=frozen_of_heap hk
      clear hk hH
      exact hold_filB (w':=(((wx.setCell ⟨(γ 12).2,0,none⟩ (.int .i64 dk)).setCell ⟨(γ 12).2,1,none⟩ (.int .i64 de)).setCell ⟨(γ 12).2,2,none⟩ (.int .i64 0))) (by clear hn hr hK hH2; generalize a.eval = ρ at *; simp [execOp,e3,e15,c0,c1,c2,cf,go_sem]) rfl rfl (((hH2.set 0 (.int .i64 dk)).set 1 (.int .i64 de)).set 2 (.int .i64 0)) hK
    refine .cons (pN 11 16 rfl fun _=>⟨rfl,rfl⟩) ?_
    exact trivial
   case done1ok =>
    intro f w9 g9 hv h9
    have er3:f 3 = .pointer (some ⟨(g9 12).2,0,none⟩):=hv 12 3 rfl
    have er4:f 4 = .int .i64 0:=hv 14 4 rfl
    have hd:Hd W w9 (Blk (g9 12).2 (.cells #[.int .i64 dk,.int .i64 de,.int .i64 0] 140 (0,0))::Sto b L3 m::Blk p (.cells #[.int .i64 ok,.int .i64 oe,.int .i64 sent,.int .i64 rc.ik,.int .i64 rc.ie,.int .u64 rc.nx,.int .u64 rc.bt,.slice ad rc.es.length cap,.pointer (some ⟨b,0,none⟩),.int .i64 xh,.int .i64 xs,.int .i64 xr,.int .i64 xv] 148 (0,0))::Rs):=h9
    obtain ⟨⟨_,p3⟩,hG12⟩:∃ x,g9 12 = x:=⟨_,rfl⟩
    simp only [hG12] at hd er3 er4
    clear hv h9 hG12 cf63
    clear g9
    simp only [patchG,Nat.reduceAdd,Nat.reduceLeDiff,decide_true,decide_false,Bool.and_true,Bool.and_false,cond_true,cond_false,er3,er4]
    clear er3 er4
    clear H
    have H:=hid hd
    clear hd
    have hk:=Hd.nthk 0 H.out rfl
    have c0:=(cell_of_heap hk 0).trans (show _ = some (.int .i64 dk) from rfl)
    have c1:=(cell_of_heap hk 1).trans (show _ = some (.int .i64 de) from rfl)
    have c2:=(cell_of_heap hk 2).trans (show _ = some (.int .i64 0) from rfl)
    have cs:=(Array.getElem?_eq_some_iff.1 hk).1
    clear hk
    have hk:=Hd.nthk 2 H.out rfl
    obtain ⟨g0,g1,g2,g3,g4,g5,g6,g7,g8,g9,g10,g11,g12⟩:=cells13 hk
    have gs:=(Array.getElem?_eq_some_iff.1 hk).1
    have gf:=frozen_of_heap hk
    clear hk
    go_wp2_with fail
    refine bodyPost_ret (v:=.int .i64 0) (by simp [results,Try.results39,go_sem]) rfl ⟨rfl,by first | rfl | trivial,?_⟩
    exact (((((((((H.out.front 1 rfl).front 1 rfl).front 2 rfl).set 0 (.int .i64 dk)).set 1 (.int .i64 de)).set 2 (.int .i64 0)).front 2 rfl).front 2 rfl)).drop
 · rw [if_neg h2] at hq
   simp only [Prod.mk.injEq] at hq
   obtain ⟨rfl,rfl,rfl⟩:=hq
   have g1:(r2 == 0) = false:=by simpa using h2
   have g2:decide (r2 = 0) = false:=by simpa using h2
   clear h2
   go_enter Try.func39,Try.ntmps39
   go_wp2_with fail
   have cf63:∀ args w,(callFunc 63 args).run Try.prog w = .ok (.enter 63 args) w:=fun args w=>by kernel_rfl
   refine hold_coreB (P:=Try.prog) (W:=W) (Rs:=(Blk p (.cells #[.int .i64 ok,.int .i64 oe,.int .i64 sent,.int .i64 rc.ik,.int .i64 rc.ie,.int .u64 rc.nx,.int .u64 rc.bt,.slice ad rc.es.length cap,.pointer (some ⟨b,0,none⟩),.int .i64 xh,.int .i64 xs,.int .i64 xr,.int .i64 xv] 148 (0,0))::Rs)) [[],[0],[1],[2],[],[4],[5],[6],[3,7],[8],[9],[9],[],[10,12],[11]] [[],[],[],[],[],[],[],[],[],[],[],[],[12],[12],[]] ([some 6,some 7,some 8,some 9,some 10,some 11,some 12,some 13,some 14,some 5,some 15,some 16,some 3,none,some 4]:List (Option Nat)) ([none,none,none,none,none,none,none,none,none,none,none,none,some 13,none,none,some 8]:List (Option Nat)) ((fun _=>pt p 0)::(fun _=>pt p 0)::(fun _=>pt p 0)::(fun _=>.agg #[.int .i64 ok,.int .i64 oe,.int .i64 sent])::(fun _=>pt p 0)::(fun _=>pt p 0)::(fun _=>pt p 8)::(fun _=>pt b 0)::(fun _=>.tuple #[.agg #[.int .i64 dk,.int .i64 de,.int .i64 0],.int .i64 r2])::(fun _=>.tuple #[.agg #[.int .i64 dk,.int .i64 de,.int .i64 0],.int .i64 r2])::(fun _=>.agg #[.int .i64 dk,.int .i64 de,.int .i64 0])::(fun _=>.int .i64 r2)::(fun gs=>pt ((gs.getD 0 default).2) 0)::(fun _=>undef)::(fun _=>.int .i64 r2)::[]) (zR::zR::zR::zR::zR::zR::zR::zR::zR::zR::zR::zR::(fun gs=>[Blk (gs.getD 0 default).2 (.cells #[.int .i64 0,.int .i64 0,.int .i64 0] 140 (0,0))])::zR::zR::(fun _=>[Sto b L m])::([]:List (List Gh → List Res))) (zR::zR::zR::zR::zR::zR::zR::zR::zR::zR::zR::zR::(fun gs=>[Blk (gs.getD 0 default).2 (.cells #[.int .i64 dk,.int .i64 de,.int .i64 0] 140 (0,0))])::zR::zR::(fun _=>[Sto b L3 m])::([]:List (List Gh → List Res))) (by kernel_rfl) rfl (hold_lt (n:=24) (by decide)) H.out rfl (by decide) (hold_nil (fs:=[13,8]) trivial rfl ?nil1err) ?gd1err ?step1err (fun t=>(decide (3 ≤ t) && decide (t ≤ 16))) (by decide) ?done1err (fun I h0 st dn=>run_wpB mixed I h0 st dn)
   case nil1err =>
    intro s gs hs
    simp only [List.mem_cons,List.not_mem_nil,or_false] at hs
    rcases hs with rfl | rfl <;> rfl
   case gd1err =>
    repeat (refine StepAll.cons (by first | exact trivial | exact fun g=>rfl) ?_)
    exact trivial
   case step1err =>
    refine .cons (pR 0 rfl fun _=>⟨rfl,rfl⟩) ?_
    refine .cons (pN 0 6 rfl fun _=>⟨rfl,rfl⟩) ?_
    refine .cons (pF 1 7 0 rfl rfl (fun b q w=>by simp [go_sem]) fun _=>⟨⟨_,_,rfl,rfl⟩,rfl⟩) ?_
    refine StepAll.cons ?_ ?_
    · refine HoldStepB.val (by decide) fun a wx γ hn hr hres hpre Ss hH K hK=>?_
      have e8:a.eval (.tmp 8) = .pointer (some ⟨p,0,none⟩):=hn 2 (by decide) 8 rfl
      exact hold_run (v:=.agg #[.int .i64 ok,.int .i64 oe,.int .i64 sent]) (by clear hn hr hK; generalize a.eval = ρ at *; simp [execOp,e8,cell_of_heap (Hd.nthk 0 hH.rear rfl),go_sem]) rfl rfl hH hK
    refine .cons (pR 0 rfl fun _=>⟨rfl,rfl⟩) ?_
    refine .cons (pN 4 10 rfl fun _=>⟨rfl,rfl⟩) ?_
    refine .cons (pF 5 11 8 rfl rfl (fun b q w=>by simp [go_sem]) fun _=>⟨⟨_,_,rfl,rfl⟩,rfl⟩) ?_
    refine StepAll.cons ?_ ?_
    · refine HoldStepB.val (by decide) fun a wx γ hn hr hres hpre Ss hH K hK=>?_
      have e12:a.eval (.tmp 12) = .pointer (some ⟨p,8,none⟩):=hn 6 (by decide) 12 rfl
      exact hold_run (v:=.pointer (some ⟨b,0,none⟩)) (by clear hn hr hK; generalize a.eval = ρ at *; simp [execOp,e12,cell_of_heap (Hd.nthk 0 hH.rear rfl),go_sem]) rfl rfl hH hK
    refine StepAll.cons ?_ ?_
    · refine HoldStepB.fil 15 (by decide) fun a wx γ hn hr hres hpre Ss hH K hK=>?_
      have e9:a.eval (.tmp 9) = .agg #[.int .i64 ok,.int .i64 oe,.int .i64 sent]:=hn 3 (by decide) 9 rfl
      have e13:a.eval (.tmp 13) = .pointer (some ⟨b,0,none⟩):=hn 7 (by decide) 13 rfl
      have ef:a.eval (.func 63) = .func (.func 63) #[] #[]:=rfl
      refine hold_callB (b:=15) (f:=63) (args:=#[.agg #[.int .i64 ok,.int .i64 oe,.int .i64 sent],.pointer (some ⟨b,0,none⟩)]) (by clear hn hr hK hH; generalize a.eval = ρ at *; simp [execOp,e9,e13,cf63,ef,go_sem]) ?_ hK
      exact (snext_calls ok oe sent HN.out hH).mono fun e2 w2 h=>⟨default,h.1,h.2⟩
    refine .cons (pN 8 14 rfl fun _=>⟨rfl,rfl⟩) ?_
    refine .cons (pN 9 5 rfl fun _=>⟨rfl,rfl⟩) ?_
    refine .cons (pN 9 5 rfl fun _=>⟨rfl,rfl⟩) ?_
    refine StepAll.cons ?_ ?_
    · refine HoldStepB.val (by decide) fun a wx γ hn hr hres hpre Ss hH K hK=>?_
      exact hold_new (obj:=.cells #[.int .i64 0,.int .i64 0,.int .i64 0] 140 (0,0)) (v:=.pointer (some ⟨wx.heap.size,0,none⟩)) (by clear hn hr hK; generalize a.eval = ρ at *; simp [execOp,go_sem]) rfl rfl hH hK
    refine StepAll.cons ?_ ?_
    · refine HoldStepB.fil 12 (by decide) fun a wx γ hn hr hres hpre Ss hH K hK=>?_
      have e3:a.eval (.tmp 3) = .pointer (some ⟨(γ 12).2,0,none⟩):=hn 12 (by decide) 3 rfl
      have e15:a.eval (.tmp 15) = .agg #[.int .i64 dk,.int .i64 de,.int .i64 0]:=hn 10 (by decide) 15 rfl
      have hH2:Hd W wx (Blk (γ 12).2 (.cells #[.int .i64 0,.int .i64 0,.int .i64 0] 140 (0,0))::(Ss ++ (Blk p (.cells #[.int .i64 ok,.int .i64 oe,.int .i64 sent,.int .i64 rc.ik,.int .i64 rc.ie,.int .u64 rc.nx,.int .u64 rc.bt,.slice ad rc.es.length cap,.pointer (some ⟨b,0,none⟩),.int .i64 xh,.int .i64 xs,.int .i64 xr,.int .i64 xv] 148 (0,0))::Rs))):=hH
      have hk:=hH2.blk
      have c0:=(cell_of_heap hk 0).trans (show _ = some (.int .i64 0) from rfl)
      have c1:=(cell_of_heap hk 1).trans (show _ = some (.int .i64 0) from rfl)
      have c2:=(cell_of_heap hk 2).trans (show _ = some (.int .i64 0) from rfl)
      have cf:=frozen_of_heap hk
      clear hk hH
      exact hold_filB (w':=(((wx.setCell ⟨(γ 12).2,0,none⟩ (.int .i64 dk)).setCell ⟨(γ 12).2,1,none⟩ (.int .i64 de)).setCell ⟨(γ 12).2,2,none⟩ (.int .i64 0))) (by clear hn hr hK hH2; generalize a.eval = ρ at *; simp [execOp,e3,e15,c0,c1,c2,cf,go_sem]) rfl rfl (((hH2.set 0 (.int .i64 dk)).set 1 (.int .i64 de)).set 2 (.int .i64 0)) hK
    refine .cons (pN 11 16 rfl fun _=>⟨rfl,rfl⟩) ?_
    exact trivial
   case done1err =>
    intro f w9 g9 hv h9
    have er3:f 3 = .pointer (some ⟨(g9 12).2,0,none⟩):=hv 12 3 rfl
    have er4:f 4 = .int .i64 r2:=hv 14 4 rfl
    have hd:Hd W w9 (Blk (g9 12).2 (.cells #[.int .i64 dk,.int .i64 de,.int .i64 0] 140 (0,0))::Sto b L3 m::Blk p (.cells #[.int .i64 ok,.int .i64 oe,.int .i64 sent,.int .i64 rc.ik,.int .i64 rc.ie,.int .u64 rc.nx,.int .u64 rc.bt,.slice ad rc.es.length cap,.pointer (some ⟨b,0,none⟩),.int .i64 xh,.int .i64 xs,.int .i64 xr,.int .i64 xv] 148 (0,0))::Rs):=h9
    obtain ⟨⟨_,p3⟩,hG12⟩:∃ x,g9 12 = x:=⟨_,rfl⟩
    simp only [hG12] at hd er3 er4
    clear hv h9 hG12 cf63
    clear g9
    simp only [patchG,Nat.reduceAdd,Nat.reduceLeDiff,decide_true,decide_false,Bool.and_true,Bool.and_false,cond_true,cond_false,er3,er4]
    clear er3 er4
    clear H
    have H:=hid hd
    clear hd
    have hk:=Hd.nthk 0 H.out rfl
    have c0:=(cell_of_heap hk 0).trans (show _ = some (.int .i64 dk) from rfl)
    have c1:=(cell_of_heap hk 1).trans (show _ = some (.int .i64 de) from rfl)
    have c2:=(cell_of_heap hk 2).trans (show _ = some (.int .i64 0) from rfl)
    have cs:=(Array.getElem?_eq_some_iff.1 hk).1
    clear hk
    have hk:=Hd.nthk 2 H.out rfl
    obtain ⟨g0,g1,g2,g3,g4,g5,g6,g7,g8,g9,g10,g11,g12⟩:=cells13 hk
    have gs:=(Array.getElem?_eq_some_iff.1 hk).1
    have gf:=frozen_of_heap hk
    clear hk
    go_wp2_with fail
    refine bodyPost_ret (v:=.int .i64 r2) (by simp [results,Try.results39,go_sem]) rfl ⟨rfl,by first | rfl | trivial,?_⟩
    exact H.out.drop

set_option maxRecDepth 100000 in
set_option maxHeartbeats 16000000 in
theorem seal19_calls {x x':Se} {s:ByteArray} {r1 r3 r4 r5:Int} {ad:Option Addr} {cap:Nat} (hx:SeOk x) (hs:s.size ≤ maxLen) (hq:seal19 m L x s = ((r1,r3,r4,r5),x',L2)) (h:Hd W w (Sto b L m::Blk p (seO b x (.slice ad x.rc.es.length cap))::Rs)) :
 Calls Try.prog 37 #[.pointer (some ⟨p,0,none⟩),.string s] w fun e' w'=>e' = .returned (.tuple #[.int .i64 r1,.int .i64 r3,.int .i64 r4,.int .i64 r5]) ∧ x'.rc = x.rc ∧ Hd W w' (Sto b L2 m::Blk p (seO b x' (.slice ad x.rc.es.length cap))::Rs):=by
 have mixed:Try.prog.follows .mixedOrders = true:=by kernel_rfl
 have hs0:=hx.s0
 have hs1:=hx.s1
 have HSZ:=hid hs
 obtain ⟨ok,oe,sent,rc,xh,xs,xr,xv⟩:=x
 unfold seal19 at hq
 dsimp only at hq h hs0 hs1 ⊢
 have H:=hid h
 clear h hx
 by_cases hA:1000 < (s.size:Int)
 · have d1:decide (1000 < (s.size:Int)) = true:=by simpa using hA
   have d1':decide (1000 < s.size) = true:=by simp; omega
   rw [if_pos hA] at hq
   simp only [Prod.mk.injEq] at hq
   obtain ⟨⟨rfl,rfl,rfl,rfl⟩,rfl,rfl⟩:=hq
   clear hA
   go_enter Try.func37,Try.ntmps37
   go_wp2_with fail
   refine bodyPost_ret (v:=.tuple #[.int .i64 0,.int .i64 0,.int .i64 0,.int .i64 1]) (by simp [results,Try.results37,go_sem]) rfl ⟨rfl,by first | rfl | trivial,?_⟩
   exact H.out
 have d1:decide (1000 < (s.size:Int)) = false:=by simpa using hA
 have d1':decide (1000 < s.size) = false:=by simp; omega
 rw [if_neg hA] at hq
 clear hA hs
 by_cases hB:256 ≤ sent
 · have d2:decide (256 ≤ sent) = true:=by simpa using hB
   rw [if_pos hB] at hq
   clear hB
   obtain ⟨⟨dk,de⟩,r2,Lx,hn⟩:∃ d r2 L3,next15 m L ok oe = (d,r2,L3):=⟨_,_,_,rfl⟩
   rw [hn] at hq
   dsimp only at hq
   have HN:=hid hn
   clear hn
   by_cases h2:r2 = 0
   · subst h2
     rw [if_pos rfl] at hq
     have zcv:IntKind.u64.wrap 0 = 0:=by decide
     obtain ⟨p1,p2,Ly,hp⟩:∃ p1 p2 Ly,put m Lx (keyT dk 1) = (p1,p2,Ly):=⟨_,_,_,rfl⟩
     unfold sealW at hq
     rw [hp] at hq
     dsimp only at hq
     have HP:=hid hp
     clear hp
     by_cases h3:p2 = 0
     · subst h3
       rw [if_pos rfl] at hq
       obtain ⟨c,er,Lz,ht⟩:∃ c er Lz,text5 m Ly p1 0 xh s = (c,er,Lz):=⟨_,_,_,rfl⟩
       rw [ht] at hq
       dsimp only at hq
       have HT:=hid ht
       clear ht
       by_cases h4:er = 0
       · subst h4
         rw [if_pos rfl] at hq
         simp only [Prod.mk.injEq] at hq
         obtain ⟨⟨rfl,rfl,rfl,rfl⟩,rfl,rfl⟩:=hq
         go_enter Try.func37,Try.ntmps37
         have hk:=Hd.nthk 1 H.out rfl
         obtain ⟨g0,g1,g2,g3,g4,g5,g6,g7,g8,g9,g10,g11,g12⟩:=cells13 hk
         have gs:=(Array.getElem?_eq_some_iff.1 hk).1
         clear hk
         go_wp2_with fail
         have HB:=hid (H.out.bxk w.heap.size rfl (o:=.cells #[.int .i64 ok,.int .i64 oe,.int .i64 sent] 140 (0,0)))
         clear H g0 g1 g2 g3 g4 g5 g6 g7 g8 g9 g10 g11 g12 gs
         have H:=HB
         clear HB
         have cf63:∀ args w,(callFunc 63 args).run Try.prog w = .ok (.enter 63 args) w:=fun args w=>by kernel_rfl
         refine hold_coreB (P:=Try.prog) (W:=W) (Rs:=(Blk p (.cells #[.int .i64 ok,.int .i64 oe,.int .i64 sent,.int .i64 rc.ik,.int .i64 rc.ie,.int .u64 rc.nx,.int .u64 rc.bt,.slice ad rc.es.length cap,.pointer (some ⟨b,0,none⟩),.int .i64 xh,.int .i64 xs,.int .i64 xr,.int .i64 xv] 148 (0,0))::Rs)) [[],[],[1],[2],[3],[0,4],[5],[6],[6],[0,7],[8]] [[],[],[],[],[],[],[],[],[],[],[]] ([some 24,some 25,some 26,some 27,some 28,some 29,some 23,some 30,some 31,none,some 9]:List (Option Nat)) ([none,none,none,none,none,none,none,none,none,none,none,some 5,some 9]:List (Option Nat)) ((fun _=>.agg #[.int .i64 ok,.int .i64 oe,.int .i64 sent])::(fun _=>pt p 0)::(fun _=>pt p 0)::(fun _=>pt p 8)::(fun _=>pt b 0)::(fun _=>.tuple #[.agg #[.int .i64 dk,.int .i64 de,.int .i64 0],.int .i64 0])::(fun _=>.tuple #[.agg #[.int .i64 dk,.int .i64 de,.int .i64 0],.int .i64 0])::(fun _=>.agg #[.int .i64 dk,.int .i64 de,.int .i64 0])::(fun _=>.int .i64 0)::(fun _=>undef)::(fun _=>.int .i64 0)::[]) (zR::zR::zR::zR::zR::zR::zR::zR::zR::zR::zR::(fun _=>[Sto b L m])::(fun _=>[Blk w.heap.size (.cells #[.int .i64 ok,.int .i64 oe,.int .i64 sent] 140 (0,0))])::([]:List (List Gh → List Res))) (zR::zR::zR::zR::zR::zR::zR::zR::zR::zR::zR::(fun _=>[Sto b Lx m])::(fun _=>[Blk w.heap.size (.cells #[.int .i64 dk,.int .i64 de,.int .i64 0] 140 (0,0))])::([]:List (List Gh → List Res))) (by kernel_rfl) rfl (hold_lt (n:=84) (by decide)) H.out rfl (by decide) (hold_nil (fs:=[5,9]) trivial rfl ?nil5_1) ?gd5_1 ?step5_1 (fun t=>decide (t = 9) || (decide (23 ≤ t) && decide (t ≤ 31))) (by decide) ?done5_1 (fun I h0 st dn=>run_wpB mixed I h0 st dn)
         case nil5_1 =>
          intro s gs hs
          simp only [List.mem_cons,List.not_mem_nil,or_false] at hs
          rcases hs with rfl | rfl <;> rfl
         case gd5_1 =>
          repeat (refine StepAll.cons (by first | exact trivial | exact fun g=>rfl) ?_)
          exact trivial
         case step5_1 =>
          refine StepAll.cons ?_ ?_
          · refine HoldStepB.val (by decide) fun a wx γ hn hr hres hpre Ss hH K hK=>?_
            have e8:a.eval (.tmp 8) = .pointer (some ⟨w.heap.size,0,none⟩):=(hr 8 (by decide)).trans rfl
            obtain ⟨Zs,hB⟩:=hpre 12 9 rfl (by decide) (by decide)
            have hk:=(show Hd W wx (Blk w.heap.size (.cells #[.int .i64 ok,.int .i64 oe,.int .i64 sent] 140 (0,0))::Zs) from hB).blk
            have c0:=(cell_of_heap hk 0).trans (show _ = some (.int .i64 ok) from rfl)
            have c1:=(cell_of_heap hk 1).trans (show _ = some (.int .i64 oe) from rfl)
            have c2:=(cell_of_heap hk 2).trans (show _ = some (.int .i64 sent) from rfl)
            clear hk
            exact hold_run (v:=.agg #[.int .i64 ok,.int .i64 oe,.int .i64 sent]) (by clear hn hr hK; generalize a.eval = ρ at *; simp [execOp,e8,c0,c1,c2,go_sem]) rfl rfl hH hK
          refine .cons (pR 0 rfl fun _=>⟨rfl,rfl⟩) ?_
          refine .cons (pN 1 25 rfl fun _=>⟨rfl,rfl⟩) ?_
          refine .cons (pF 2 26 8 rfl rfl (fun b q w=>by simp [go_sem]) fun _=>⟨⟨_,_,rfl,rfl⟩,rfl⟩) ?_
          refine StepAll.cons ?_ ?_
          · refine HoldStepB.val (by decide) fun a wx γ hn hr hres hpre Ss hH K hK=>?_
            have e27:a.eval (.tmp 27) = .pointer (some ⟨p,8,none⟩):=hn 3 (by decide) 27 rfl
            exact hold_run (v:=.pointer (some ⟨b,0,none⟩)) (by clear hn hr hK; generalize a.eval = ρ at *; simp [execOp,e27,cell_of_heap (Hd.nthk 0 hH.rear rfl),go_sem]) rfl rfl hH hK
          refine StepAll.cons ?_ ?_
          · refine HoldStepB.fil 11 (by decide) fun a wx γ hn hr hres hpre Ss hH K hK=>?_
            have e24:a.eval (.tmp 24) = .agg #[.int .i64 ok,.int .i64 oe,.int .i64 sent]:=hn 0 (by decide) 24 rfl
            have e28:a.eval (.tmp 28) = .pointer (some ⟨b,0,none⟩):=hn 4 (by decide) 28 rfl
            have ef:a.eval (.func 63) = .func (.func 63) #[] #[]:=rfl
            refine hold_callB (b:=11) (f:=63) (args:=#[.agg #[.int .i64 ok,.int .i64 oe,.int .i64 sent],.pointer (some ⟨b,0,none⟩)]) (by clear hn hr hK hH; generalize a.eval = ρ at *; simp [execOp,e24,e28,cf63,ef,go_sem]) ?_ hK
            exact (snext_calls ok oe sent HN.out hH).mono fun e2 w2 h=>⟨default,h.1,h.2⟩
          refine .cons (pN 5 29 rfl fun _=>⟨rfl,rfl⟩) ?_
          refine .cons (pN 6 23 rfl fun _=>⟨rfl,rfl⟩) ?_
          refine .cons (pN 6 23 rfl fun _=>⟨rfl,rfl⟩) ?_
          refine StepAll.cons ?_ ?_
          · refine HoldStepB.fil 12 (by decide) fun a wx γ hn hr hres hpre Ss hH K hK=>?_
            have e8:a.eval (.tmp 8) = .pointer (some ⟨w.heap.size,0,none⟩):=(hr 8 (by decide)).trans rfl
            have e30:a.eval (.tmp 30) = .agg #[.int .i64 dk,.int .i64 de,.int .i64 0]:=hn 7 (by decide) 30 rfl
            have hH2:Hd W wx (Blk w.heap.size (.cells #[.int .i64 ok,.int .i64 oe,.int .i64 sent] 140 (0,0))::(Ss ++ (Blk p (.cells #[.int .i64 ok,.int .i64 oe,.int .i64 sent,.int .i64 rc.ik,.int .i64 rc.ie,.int .u64 rc.nx,.int .u64 rc.bt,.slice ad rc.es.length cap,.pointer (some ⟨b,0,none⟩),.int .i64 xh,.int .i64 xs,.int .i64 xr,.int .i64 xv] 148 (0,0))::Rs))):=hH
            have hk:=hH2.blk
            have c0:=(cell_of_heap hk 0).trans (show _ = some (.int .i64 ok) from rfl)
            have c1:=(cell_of_heap hk 1).trans (show _ = some (.int .i64 oe) from rfl)
            have c2:=(cell_of_heap hk 2).trans (show _ = some (.int .i64 sent) from rfl)
            have cf:=frozen_of_heap hk
            clear hk hH
            exact hold_filB (w':=(((wx.setCell ⟨w.heap.size,0,none⟩ (.int .i64 dk)).setCell ⟨w.heap.size,1,none⟩ (.int .i64 de)).setCell ⟨w.heap.size,2,none⟩ (.int .i64 0))) (by clear hn hr hK hH2; generalize a.eval = ρ at *; simp [execOp,e8,e30,c0,c1,c2,cf,go_sem]) rfl rfl (((hH2.set 0 (.int .i64 dk)).set 1 (.int .i64 de)).set 2 (.int .i64 0)) hK
          refine .cons (pN 8 31 rfl fun _=>⟨rfl,rfl⟩) ?_
          exact trivial
         case done5_1 =>
          intro f w9 g9 hv h9
          have er9:f 9 = .int .i64 0:=hv 10 9 rfl
          have hd:Hd W w9 (Sto b Lx m::Blk w.heap.size (.cells #[.int .i64 dk,.int .i64 de,.int .i64 0] 140 (0,0))::Blk p (.cells #[.int .i64 ok,.int .i64 oe,.int .i64 sent,.int .i64 rc.ik,.int .i64 rc.ie,.int .u64 rc.nx,.int .u64 rc.bt,.slice ad rc.es.length cap,.pointer (some ⟨b,0,none⟩),.int .i64 xh,.int .i64 xs,.int .i64 xr,.int .i64 xv] 148 (0,0))::Rs):=h9
          clear hv h9 cf63
          clear g9
          simp only [patchG,Nat.reduceAdd,Nat.reduceLeDiff,Nat.reduceEqDiff,decide_true,decide_false,Bool.and_true,Bool.and_false,Bool.or_true,Bool.or_false,cond_true,cond_false,er9]
          clear er9
          clear H HN
          have H:=hid hd
          clear hd
          go_wp2_with fail
          have cf21:∀ args w,(callFunc 21 args).run Try.prog w = .ok (.enter 21 args) w:=fun args w=>by kernel_rfl
          refine hold_coreB (P:=Try.prog) (W:=W) (Rs:=(Blk w.heap.size (.cells #[.int .i64 dk,.int .i64 de,.int .i64 0] 140 (0,0))::Blk p (.cells #[.int .i64 ok,.int .i64 oe,.int .i64 sent,.int .i64 rc.ik,.int .i64 rc.ie,.int .u64 rc.nx,.int .u64 rc.bt,.slice ad rc.es.length cap,.pointer (some ⟨b,0,none⟩),.int .i64 xh,.int .i64 xs,.int .i64 xr,.int .i64 xv] 148 (0,0))::Rs)) [[],[0],[],[2],[3],[4],[1,5],[6],[7],[7],[8],[9]] [[],[],[],[],[],[],[],[],[],[],[],[]] ([some 36,some 37,some 38,some 39,some 40,some 41,some 42,some 35,some 43,some 44,some 10,some 9]:List (Option Nat)) ([none,none,none,none,none,none,none,none,none,none,none,none,some 6]:List (Option Nat)) ((fun _=>pt w.heap.size 0)::(fun _=>.agg #[.int .i64 dk,.int .i64 de])::(fun _=>pt p 0)::(fun _=>pt p 0)::(fun _=>pt p 8)::(fun _=>pt b 0)::(fun _=>.tuple #[.int .i64 p1,.int .i64 0])::(fun _=>.tuple #[.int .i64 p1,.int .i64 0])::(fun _=>.int .i64 p1)::(fun _=>.int .i64 0)::(fun _=>.int .i64 p1)::(fun _=>.int .i64 0)::[]) (zR::zR::zR::zR::zR::zR::zR::zR::zR::zR::zR::zR::(fun _=>[Sto b Lx m])::([]:List (List Gh → List Res))) (zR::zR::zR::zR::zR::zR::zR::zR::zR::zR::zR::zR::(fun _=>[Sto b Ly m])::([]:List (List Gh → List Res))) (by kernel_rfl) rfl (hold_lt (n:=84) (by decide)) H.out rfl (by decide) (hold_nil (fs:=[6]) trivial rfl ?nil8_1) ?gd8_1 ?step8_1 (fun t=>(decide (9 ≤ t) && decide (t ≤ 10)) || (decide (35 ≤ t) && decide (t ≤ 44))) (by decide) ?done8_1 (fun I h0 st dn=>run_wpB mixed I h0 st dn)
          case nil8_1 =>
           intro s gs hs
           simp only [List.mem_cons,List.not_mem_nil,or_false] at hs
           subst hs; rfl
          case gd8_1 =>
           repeat (refine StepAll.cons (by first | exact trivial | exact fun g=>rfl) ?_)
           exact trivial
          case step8_1 =>
           refine StepAll.cons ?_ ?_
           · refine HoldStepB.val (by decide) fun a wx γ hn hr hres hpre Ss hH K hK=>?_
             have e8:a.eval (.tmp 8) = .pointer (some ⟨w.heap.size,0,none⟩):=(hr 8 (by decide)).trans rfl
             exact hold_run (v:=.pointer (some ⟨w.heap.size,0,none⟩)) (by clear hn hr hK; generalize a.eval = ρ at *; simp [execOp,e8,go_sem]) rfl rfl hH hK
           refine StepAll.cons ?_ ?_
           · refine HoldStepB.val (by decide) fun a wx γ hn hr hres hpre Ss hH K hK=>?_
             have e36:a.eval (.tmp 36) = .pointer (some ⟨w.heap.size,0,none⟩):=hn 0 (by decide) 36 rfl
             exact hold_run (v:=.agg #[.int .i64 dk,.int .i64 de]) (by clear hn hr hK; generalize a.eval = ρ at *; simp [execOp,e36,cell_of_heap (Hd.nthk 0 hH.rear rfl),go_sem]) rfl rfl hH hK
           refine .cons (pR 0 rfl fun _=>⟨rfl,rfl⟩) ?_
           refine .cons (pN 2 38 rfl fun _=>⟨rfl,rfl⟩) ?_
           refine .cons (pF 3 39 8 rfl rfl (fun b q w=>by simp [go_sem]) fun _=>⟨⟨_,_,rfl,rfl⟩,rfl⟩) ?_
           refine StepAll.cons ?_ ?_
           · refine HoldStepB.val (by decide) fun a wx γ hn hr hres hpre Ss hH K hK=>?_
             have e40:a.eval (.tmp 40) = .pointer (some ⟨p,8,none⟩):=hn 4 (by decide) 40 rfl
             exact hold_run (v:=.pointer (some ⟨b,0,none⟩)) (by clear hn hr hK; generalize a.eval = ρ at *; simp [execOp,e40,cell_of_heap (Hd.nthk 1 hH.rear rfl),go_sem]) rfl rfl hH hK
           refine StepAll.cons ?_ ?_
           · refine HoldStepB.fil 12 (by decide) fun a wx γ hn hr hres hpre Ss hH K hK=>?_
             have e37:a.eval (.tmp 37) = .agg #[.int .i64 dk,.int .i64 de]:=hn 1 (by decide) 37 rfl
             have e41:a.eval (.tmp 41) = .pointer (some ⟨b,0,none⟩):=hn 5 (by decide) 41 rfl
             have ef:a.eval (.func 21) = .func (.func 21) #[] #[]:=rfl
             refine hold_callB (b:=12) (f:=21) (args:=#[.agg #[.int .i64 dk,.int .i64 de],.pointer (some ⟨b,0,none⟩)]) (by clear hn hr hK hH; generalize a.eval = ρ at *; simp [execOp,e37,e41,cf21,ef,go_sem]) ?_ hK
             exact (seal15_calls dk de HP.out hH).mono fun e2 w2 h=>⟨default,h.1,h.2⟩
           refine .cons (pN 6 42 rfl fun _=>⟨rfl,rfl⟩) ?_
           refine .cons (pN 7 35 rfl fun _=>⟨rfl,rfl⟩) ?_
           refine .cons (pN 7 35 rfl fun _=>⟨rfl,rfl⟩) ?_
           refine .cons (pN 8 43 rfl fun _=>⟨rfl,rfl⟩) ?_
           refine .cons (pN 9 44 rfl fun _=>⟨rfl,rfl⟩) ?_
           exact trivial
          case done8_1 =>
           intro f w9 g9 hv h9
           have er10:f 10 = .int .i64 p1:=hv 10 10 rfl
           have er9:f 9 = .int .i64 0:=hv 11 9 rfl
           have hd:Hd W w9 (Sto b Ly m::Blk w.heap.size (.cells #[.int .i64 dk,.int .i64 de,.int .i64 0] 140 (0,0))::Blk p (.cells #[.int .i64 ok,.int .i64 oe,.int .i64 sent,.int .i64 rc.ik,.int .i64 rc.ie,.int .u64 rc.nx,.int .u64 rc.bt,.slice ad rc.es.length cap,.pointer (some ⟨b,0,none⟩),.int .i64 xh,.int .i64 xs,.int .i64 xr,.int .i64 xv] 148 (0,0))::Rs):=h9
           clear hv h9 cf21
           clear g9
           simp only [patchG,Nat.reduceAdd,Nat.reduceLeDiff,decide_true,decide_false,Bool.and_true,Bool.and_false,Bool.or_true,Bool.or_false,cond_true,cond_false,er10,er9]
           clear er10 er9
           clear H HP
           have H:=hid hd
           clear hd
           go_wp2_with fail
           have cf64:∀ args w,(callFunc 64 args).run Try.prog w = .ok (.enter 64 args) w:=fun args w=>by kernel_rfl
           refine hold_coreB (P:=Try.prog) (W:=W) (Rs:=(Blk w.heap.size (.cells #[.int .i64 dk,.int .i64 de,.int .i64 0] 140 (0,0))::Blk p (.cells #[.int .i64 ok,.int .i64 oe,.int .i64 sent,.int .i64 rc.ik,.int .i64 rc.ie,.int .u64 rc.nx,.int .u64 rc.bt,.slice ad rc.es.length cap,.pointer (some ⟨b,0,none⟩),.int .i64 xh,.int .i64 xs,.int .i64 xr,.int .i64 xv] 148 (0,0))::Rs)) [[],[0],[1],[2],[],[],[5],[6],[],[8],[9],[10],[11],[],[3,4,7,12,13],[14],[15],[15],[16],[17]] [[],[],[],[],[],[],[],[],[],[],[],[],[],[],[],[],[],[],[],[]] ([some 49,some 50,some 51,some 52,some 53,some 54,some 55,some 56,some 57,some 58,some 59,some 60,some 61,some 62,some 63,some 48,some 64,some 65,some 11,some 9]:List (Option Nat)) ([none,none,none,none,none,none,none,none,none,none,none,none,none,none,none,none,none,none,none,none,some 14]:List (Option Nat)) ((fun _=>pt p 0)::(fun _=>pt p 0)::(fun _=>pt p 8)::(fun _=>pt b 0)::(fun _=>.int .i64 p1)::(fun _=>pt w.heap.size 2)::(fun _=>.int .i64 0)::(fun _=>.int .u64 0)::(fun _=>pt p 0)::(fun _=>pt p 0)::(fun _=>pt p 9)::(fun _=>pt p 9)::(fun _=>.int .i64 xh)::(fun _=>.string s)::(fun _=>.tuple #[.int .i64 c,.int .i64 0])::(fun _=>.tuple #[.int .i64 c,.int .i64 0])::(fun _=>.int .i64 c)::(fun _=>.int .i64 0)::(fun _=>.int .i64 c)::(fun _=>.int .i64 0)::[]) (zR::zR::zR::zR::zR::zR::zR::zR::zR::zR::zR::zR::zR::zR::zR::zR::zR::zR::zR::zR::(fun _=>[Sto b Ly m])::([]:List (List Gh → List Res))) (zR::zR::zR::zR::zR::zR::zR::zR::zR::zR::zR::zR::zR::zR::zR::zR::zR::zR::zR::zR::(fun _=>[Sto b Lz m])::([]:List (List Gh → List Res))) (by kernel_rfl) rfl (hold_lt (n:=84) (by decide)) H.out rfl (by decide) (hold_nil (fs:=[14]) trivial rfl ?nil11_1) ?gd11_1 ?step11_1 (fun t=>decide (t = 9) || decide (t = 11) || (decide (48 ≤ t) && decide (t ≤ 65))) (by decide) ?done11_1 (fun I h0 st dn=>run_wpB mixed I h0 st dn)
           case nil11_1 =>
            intro s gs hs
            simp only [List.mem_cons,List.not_mem_nil,or_false] at hs
            subst hs; rfl
           case gd11_1 =>
            repeat (refine StepAll.cons (by first | exact trivial | exact fun g=>rfl) ?_)
            exact trivial
           case step11_1 =>
            refine .cons (pR 0 rfl fun _=>⟨rfl,rfl⟩) ?_
            refine .cons (pN 0 49 rfl fun _=>⟨rfl,rfl⟩) ?_
            refine .cons (pF 1 50 8 rfl rfl (fun b q w=>by simp [go_sem]) fun _=>⟨⟨_,_,rfl,rfl⟩,rfl⟩) ?_
            refine StepAll.cons ?_ ?_
            · refine HoldStepB.val (by decide) fun a wx γ hn hr hres hpre Ss hH K hK=>?_
              have e51:a.eval (.tmp 51) = .pointer (some ⟨p,8,none⟩):=hn 2 (by decide) 51 rfl
              exact hold_run (v:=.pointer (some ⟨b,0,none⟩)) (by clear hn hr hK; generalize a.eval = ρ at *; simp [execOp,e51,cell_of_heap (Hd.nthk 1 hH.rear rfl),go_sem]) rfl rfl hH hK
            refine .cons (pR 10 rfl fun _=>⟨rfl,rfl⟩) ?_
            refine StepAll.cons ?_ ?_
            · refine HoldStepB.val (by decide) fun a wx γ hn hr hres hpre Ss hH K hK=>?_
              have e8:a.eval (.tmp 8) = .pointer (some ⟨w.heap.size,0,none⟩):=(hr 8 (by decide)).trans rfl
              exact hold_run (v:=.pointer (some ⟨w.heap.size,2,none⟩)) (by clear hn hr hK; generalize a.eval = ρ at *; simp [execOp,e8,go_sem]) rfl rfl hH hK
            refine StepAll.cons ?_ ?_
            · refine HoldStepB.val (by decide) fun a wx γ hn hr hres hpre Ss hH K hK=>?_
              have e54:a.eval (.tmp 54) = .pointer (some ⟨w.heap.size,2,none⟩):=hn 5 (by decide) 54 rfl
              exact hold_run (v:=.int .i64 0) (by clear hn hr hK; generalize a.eval = ρ at *; simp [execOp,e54,cell_of_heap (Hd.nthk 0 hH.rear rfl),go_sem]) rfl rfl hH hK
            refine StepAll.cons ?_ ?_
            · refine HoldStepB.val (by decide) fun a wx γ hn hr hres hpre Ss hH K hK=>?_
              have e55:a.eval (.tmp 55) = .int .i64 0:=hn 6 (by decide) 55 rfl
              exact hold_run (v:=.int .u64 0) (by clear hn hr hK; generalize a.eval = ρ at *; simp [execOp,e55,zcv,go_sem]) rfl rfl hH hK
            refine .cons (pR 0 rfl fun _=>⟨rfl,rfl⟩) ?_
            refine .cons (pN 8 57 rfl fun _=>⟨rfl,rfl⟩) ?_
            refine .cons (pF 9 58 9 rfl rfl (fun b q w=>by simp [go_sem]) fun _=>⟨⟨_,_,rfl,rfl⟩,rfl⟩) ?_
            refine .cons (pF 10 59 0 rfl rfl (fun b q w=>by simp [go_sem]) fun _=>⟨⟨_,_,rfl,rfl⟩,rfl⟩) ?_
            refine StepAll.cons ?_ ?_
            · refine HoldStepB.val (by decide) fun a wx γ hn hr hres hpre Ss hH K hK=>?_
              have e60:a.eval (.tmp 60) = .pointer (some ⟨p,9,none⟩):=hn 11 (by decide) 60 rfl
              exact hold_run (v:=.int .i64 xh) (by clear hn hr hK; generalize a.eval = ρ at *; simp [execOp,e60,cell_of_heap (Hd.nthk 1 hH.rear rfl),go_sem]) rfl rfl hH hK
            refine .cons (pR 1 rfl fun _=>⟨rfl,rfl⟩) ?_
            refine StepAll.cons ?_ ?_
            · refine HoldStepB.fil 20 (by decide) fun a wx γ hn hr hres hpre Ss hH K hK=>?_
              have e52:a.eval (.tmp 52) = .pointer (some ⟨b,0,none⟩):=hn 3 (by decide) 52 rfl
              have e53:a.eval (.tmp 53) = .int .i64 p1:=hn 4 (by decide) 53 rfl
              have e56:a.eval (.tmp 56) = .int .u64 0:=hn 7 (by decide) 56 rfl
              have e61:a.eval (.tmp 61) = .int .i64 xh:=hn 12 (by decide) 61 rfl
              have e62:a.eval (.tmp 62) = .string s:=hn 13 (by decide) 62 rfl
              have ef:a.eval (.func 64) = .func (.func 64) #[] #[]:=rfl
              refine hold_callB (b:=20) (f:=64) (args:=#[.pointer (some ⟨b,0,none⟩),.int .i64 p1,.int .u64 0,.int .i64 xh,.string s]) (by clear hn hr hK hH; generalize a.eval = ρ at *; simp [execOp,e52,e53,e56,e61,e62,cf64,ef,go_sem]) ?_ hK
              refine (text_calls p1 (0) xh s HSZ.out hH).mono fun e2 w2 h=>?_
              rw [HT.out] at h
              exact ⟨default,h.1,h.2⟩
            refine .cons (pN 14 63 rfl fun _=>⟨rfl,rfl⟩) ?_
            refine .cons (pN 15 48 rfl fun _=>⟨rfl,rfl⟩) ?_
            refine .cons (pN 15 48 rfl fun _=>⟨rfl,rfl⟩) ?_
            refine .cons (pN 16 64 rfl fun _=>⟨rfl,rfl⟩) ?_
            refine .cons (pN 17 65 rfl fun _=>⟨rfl,rfl⟩) ?_
            exact trivial
           case done11_1 =>
            intro f w9 g9 hv h9
            have er11:f 11 = .int .i64 c:=hv 18 11 rfl
            have er9:f 9 = .int .i64 0:=hv 19 9 rfl
            have hd:Hd W w9 (Sto b Lz m::Blk w.heap.size (.cells #[.int .i64 dk,.int .i64 de,.int .i64 0] 140 (0,0))::Blk p (.cells #[.int .i64 ok,.int .i64 oe,.int .i64 sent,.int .i64 rc.ik,.int .i64 rc.ie,.int .u64 rc.nx,.int .u64 rc.bt,.slice ad rc.es.length cap,.pointer (some ⟨b,0,none⟩),.int .i64 xh,.int .i64 xs,.int .i64 xr,.int .i64 xv] 148 (0,0))::Rs):=h9
            clear hv h9 cf64
            clear g9
            simp only [patchG,Nat.reduceAdd,Nat.reduceLeDiff,Nat.reduceEqDiff,decide_true,decide_false,Bool.and_true,Bool.and_false,Bool.or_true,Bool.or_false,cond_true,cond_false,er11,er9]
            clear er11 er9
            clear H HT
            have H:=hid hd
            clear hd
            have hk:=Hd.nthk 1 H.out rfl
            have c0:=(cell_of_heap hk 0).trans (show _ = some (.int .i64 dk) from rfl)
            have c1:=(cell_of_heap hk 1).trans (show _ = some (.int .i64 de) from rfl)
            have c2:=(cell_of_heap hk 2).trans (show _ = some (.int .i64 0) from rfl)
            have cs:=(Array.getElem?_eq_some_iff.1 hk).1
            have cf:=frozen_of_heap hk
            clear hk
            have hk:=Hd.nthk 2 H.out rfl
            obtain ⟨g0,g1,g2,g3,g4,g5,g6,g7,g8,g9,g10,g11,g12⟩:=cells13 hk
            have gs:=(Array.getElem?_eq_some_iff.1 hk).1
            have gf:=frozen_of_heap hk
            clear hk
            have hne:=blks_ne H.out.drop
            have hne2:¬ p = w.heap.size:=fun e=>hne e.symm
            go_wp2_with fail
            refine bodyPost_ret (v:=.tuple #[.int .i64 de,.int .i64 0,.int .i64 c,.int .i64 0]) (by simp [results,Try.results37,go_sem]) rfl ⟨rfl,by first | rfl | trivial,?_⟩
            have h8:=(((H.out.front 2 rfl).front 1 rfl).front 2 rfl).set 2 (.int .i64 1)
            exact (((((((((h8.front 1 rfl).front 1 rfl).front 2 rfl).set 0 (.int .i64 dk)).set 1 (.int .i64 de)).set 2 (.int .i64 1)).front 2 rfl).front 2 rfl)).drop
       · rw [if_neg h4] at hq
         simp only [Prod.mk.injEq] at hq
         obtain ⟨⟨rfl,rfl,rfl,rfl⟩,rfl,rfl⟩:=hq
         have g1:(er != 0) = true:=by rw [bne_iff_ne]; exact h4
         have g2:decide (er = 0) = false:=by simpa using h4
         clear h4
         go_enter Try.func37,Try.ntmps37
         have hk:=Hd.nthk 1 H.out rfl
         obtain ⟨g0,g1,g2,g3,g4,g5,g6,g7,g8,g9,g10,g11,g12⟩:=cells13 hk
         have gs:=(Array.getElem?_eq_some_iff.1 hk).1
         clear hk
         go_wp2_with fail
         have HB:=hid (H.out.bxk w.heap.size rfl (o:=.cells #[.int .i64 ok,.int .i64 oe,.int .i64 sent] 140 (0,0)))
         clear H g0 g1 g2 g3 g4 g5 g6 g7 g8 g9 g10 g11 g12 gs
         have H:=HB
         clear HB
         have cf63:∀ args w,(callFunc 63 args).run Try.prog w = .ok (.enter 63 args) w:=fun args w=>by kernel_rfl
         refine hold_coreB (P:=Try.prog) (W:=W) (Rs:=(Blk p (.cells #[.int .i64 ok,.int .i64 oe,.int .i64 sent,.int .i64 rc.ik,.int .i64 rc.ie,.int .u64 rc.nx,.int .u64 rc.bt,.slice ad rc.es.length cap,.pointer (some ⟨b,0,none⟩),.int .i64 xh,.int .i64 xs,.int .i64 xr,.int .i64 xv] 148 (0,0))::Rs)) [[],[],[1],[2],[3],[0,4],[5],[6],[6],[0,7],[8]] [[],[],[],[],[],[],[],[],[],[],[]] ([some 24,some 25,some 26,some 27,some 28,some 29,some 23,some 30,some 31,none,some 9]:List (Option Nat)) ([none,none,none,none,none,none,none,none,none,none,none,some 5,some 9]:List (Option Nat)) ((fun _=>.agg #[.int .i64 ok,.int .i64 oe,.int .i64 sent])::(fun _=>pt p 0)::(fun _=>pt p 0)::(fun _=>pt p 8)::(fun _=>pt b 0)::(fun _=>.tuple #[.agg #[.int .i64 dk,.int .i64 de,.int .i64 0],.int .i64 0])::(fun _=>.tuple #[.agg #[.int .i64 dk,.int .i64 de,.int .i64 0],.int .i64 0])::(fun _=>.agg #[.int .i64 dk,.int .i64 de,.int .i64 0])::(fun _=>.int .i64 0)::(fun _=>undef)::(fun _=>.int .i64 0)::[]) (zR::zR::zR::zR::zR::zR::zR::zR::zR::zR::zR::(fun _=>[Sto b L m])::(fun _=>[Blk w.heap.size (.cells #[.int .i64 ok,.int .i64 oe,.int .i64 sent] 140 (0,0))])::([]:List (List Gh → List Res))) (zR::zR::zR::zR::zR::zR::zR::zR::zR::zR::zR::(fun _=>[Sto b Lx m])::(fun _=>[Blk w.heap.size (.cells #[.int .i64 dk,.int .i64 de,.int .i64 0] 140 (0,0))])::([]:List (List Gh → List Res))) (by kernel_rfl) rfl (hold_lt (n:=84) (by decide)) H.out rfl (by decide) (hold_nil (fs:=[5,9]) trivial rfl ?nil5_2) ?gd5_2 ?step5_2 (fun t=>decide (t = 9) || (decide (23 ≤ t) && decide (t ≤ 31))) (by decide) ?done5_2 (fun I h0 st dn=>run_wpB mixed I h0 st dn)
         case nil5_2 =>
          intro s gs hs
          simp only [List.mem_cons,List.not_mem_nil,or_false] at hs
          rcases hs with rfl | rfl <;> rfl
         case gd5_2 =>
          repeat (refine StepAll.cons (by first | exact trivial | exact fun g=>rfl) ?_)
          exact trivial
         case step5_2 =>
          refine StepAll.cons ?_ ?_
          · refine HoldStepB.val (by decide) fun a wx γ hn hr hres hpre Ss hH K hK=>?_
            have e8:a.eval (.tmp 8) = .pointer (some ⟨w.heap.size,0,none⟩):=(hr 8 (by decide)).trans rfl
            obtain ⟨Zs,hB⟩:=hpre 12 9 rfl (by decide) (by decide)
            have hk:=(show Hd W wx (Blk w.heap.size (.cells #[.int .i64 ok,.int .i64 oe,.int .i64 sent] 140 (0,0))::Zs) from hB).blk
            have c0:=(cell_of_heap hk 0).trans (show _ = some (.int .i64 ok) from rfl)
            have c1:=(cell_of_heap hk 1).trans (show _ = some (.int .i64 oe) from rfl)
            have c2:=(cell_of_heap hk 2).trans (show _ = some (.int .i64 sent) from rfl)
            clear hk
            exact hold_run (v:=.agg #[.int .i64 ok,.int .i64 oe,.int .i64 sent]) (by clear hn hr hK; generalize a.eval = ρ at *; simp [execOp,e8,c0,c1,c2,go_sem]) rfl rfl hH hK
          refine .cons (pR 0 rfl fun _=>⟨rfl,rfl⟩) ?_
          refine .cons (pN 1 25 rfl fun _=>⟨rfl,rfl⟩) ?_
          refine .cons (pF 2 26 8 rfl rfl (fun b q w=>by simp [go_sem]) fun _=>⟨⟨_,_,rfl,rfl⟩,rfl⟩) ?_
          refine StepAll.cons ?_ ?_
          · refine HoldStepB.val (by decide) fun a wx γ hn hr hres hpre Ss hH K hK=>?_
            have e27:a.eval (.tmp 27) = .pointer (some ⟨p,8,none⟩):=hn 3 (by decide) 27 rfl
            exact hold_run (v:=.pointer (some ⟨b,0,none⟩)) (by clear hn hr hK; generalize a.eval = ρ at *; simp [execOp,e27,cell_of_heap (Hd.nthk 0 hH.rear rfl),go_sem]) rfl rfl hH hK
          refine StepAll.cons ?_ ?_
          · refine HoldStepB.fil 11 (by decide) fun a wx γ hn hr hres hpre Ss hH K hK=>?_
            have e24:a.eval (.tmp 24) = .agg #[.int .i64 ok,.int .i64 oe,.int .i64 sent]:=hn 0 (by decide) 24 rfl
            have e28:a.eval (.tmp 28) = .pointer (some ⟨b,0,none⟩):=hn 4 (by decide) 28 rfl
            have ef:a.eval (.func 63) = .func (.func 63) #[] #[]:=rfl
            refine hold_callB (b:=11) (f:=63) (args:=#[.agg #[.int .i64 ok,.int .i64 oe,.int .i64 sent],.pointer (some ⟨b,0,none⟩)]) (by clear hn hr hK hH; generalize a.eval = ρ at *; simp [execOp,e24,e28,cf63,ef,go_sem]) ?_ hK
            exact (snext_calls ok oe sent HN.out hH).mono fun e2 w2 h=>⟨default,h.1,h.2⟩
          refine .cons (pN 5 29 rfl fun _=>⟨rfl,rfl⟩) ?_
          refine .cons (pN 6 23 rfl fun _=>⟨rfl,rfl⟩) ?_
          refine .cons (pN 6 23 rfl fun _=>⟨rfl,rfl⟩) ?_
          refine StepAll.cons ?_ ?_
          · refine HoldStepB.fil 12 (by decide) fun a wx γ hn hr hres hpre Ss hH K hK=>?_
            have e8:a.eval (.tmp 8) = .pointer (some ⟨w.heap.size,0,none⟩):=(hr 8 (by decide)).trans rfl
            have e30:a.eval (.tmp 30) = .agg #[.int .i64 dk,.int .i64 de,.int .i64 0]:=hn 7 (by decide) 30 rfl
            have hH2:Hd W wx (Blk w.heap.size (.cells #[.int .i64 ok,.int .i64 oe,.int .i64 sent] 140 (0,0))::(Ss ++ (Blk p (.cells #[.int .i64 ok,.int .i64 oe,.int .i64 sent,.int .i64 rc.ik,.int .i64 rc.ie,.int .u64 rc.nx,.int .u64 rc.bt,.slice ad rc.es.length cap,.pointer (some ⟨b,0,none⟩),.int .i64 xh,.int .i64 xs,.int .i64 xr,.int .i64 xv] 148 (0,0))::Rs))):=hH
            have hk:=hH2.blk
            have c0:=(cell_of_heap hk 0).trans (show _ = some (.int .i64 ok) from rfl)
            have c1:=(cell_of_heap hk 1).trans (show _ = some (.int .i64 oe) from rfl)
            have c2:=(cell_of_heap hk 2).trans (show _ = some (.int .i64 sent) from rfl)
            have cf:=frozen_of_heap hk
            clear hk hH
            exact hold_filB (w':=(((wx.setCell ⟨w.heap.size,0,none⟩ (.int .i64 dk)).setCell ⟨w.heap.size,1,none⟩ (.int .i64 de)).setCell ⟨w.heap.size,2,none⟩ (.int .i64 0))) (by clear hn hr hK hH2; generalize a.eval = ρ at *; simp [execOp,e8,e30,c0,c1,c2,cf,go_sem]) rfl rfl (((hH2.set 0 (.int .i64 dk)).set 1 (.int .i64 de)).set 2 (.int .i64 0)) hK
          refine .cons (pN 8 31 rfl fun _=>⟨rfl,rfl⟩) ?_
          exact trivial
         case done5_2 =>
          intro f w9 g9 hv h9
          have er9:f 9 = .int .i64 0:=hv 10 9 rfl
          have hd:Hd W w9 (Sto b Lx m::Blk w.heap.size (.cells #[.int .i64 dk,.int .i64 de,.int .i64 0] 140 (0,0))::Blk p (.cells #[.int .i64 ok,.int .i64 oe,.int .i64 sent,.int .i64 rc.ik,.int .i64 rc.ie,.int .u64 rc.nx,.int .u64 rc.bt,.slice ad rc.es.length cap,.pointer (some ⟨b,0,none⟩),.int .i64 xh,.int .i64 xs,.int .i64 xr,.int .i64 xv] 148 (0,0))::Rs):=h9
          clear hv h9 cf63
          clear g9
          simp only [patchG,Nat.reduceAdd,Nat.reduceLeDiff,Nat.reduceEqDiff,decide_true,decide_false,Bool.and_true,Bool.and_false,Bool.or_true,Bool.or_false,cond_true,cond_false,er9]
          clear er9
          clear H HN
          have H:=hid hd
          clear hd
          go_wp2_with fail
          have cf21:∀ args w,(callFunc 21 args).run Try.prog w = .ok (.enter 21 args) w:=fun args w=>by kernel_rfl
          refine hold_coreB (P:=Try.prog) (W:=W) (Rs:=(Blk w.heap.size (.cells #[.int .i64 dk,.int .i64 de,.int .i64 0] 140 (0,0))::Blk p (.cells #[.int .i64 ok,.int .i64 oe,.int .i64 sent,.int .i64 rc.ik,.int .i64 rc.ie,.int .u64 rc.nx,.int .u64 rc.bt,.slice ad rc.es.length cap,.pointer (some ⟨b,0,none⟩),.int .i64 xh,.int .i64 xs,.int .i64 xr,.int .i64 xv] 148 (0,0))::Rs)) [[],[0],[],[2],[3],[4],[1,5],[6],[7],[7],[8],[9]] [[],[],[],[],[],[],[],[],[],[],[],[]] ([some 36,some 37,some 38,some 39,some 40,some 41,some 42,some 35,some 43,some 44,some 10,some 9]:List (Option Nat)) ([none,none,none,none,none,none,none,none,none,none,none,none,some 6]:List (Option Nat)) ((fun _=>pt w.heap.size 0)::(fun _=>.agg #[.int .i64 dk,.int .i64 de])::(fun _=>pt p 0)::(fun _=>pt p 0)::(fun _=>pt p 8)::(fun _=>pt b 0)::(fun _=>.tuple #[.int .i64 p1,.int .i64 0])::(fun _=>.tuple #[.int .i64 p1,.int .i64 0])::(fun _=>.int .i64 p1)::(fun _=>.int .i64 0)::(fun _=>.int .i64 p1)::(fun _=>.int .i64 0)::[]) (zR::zR::zR::zR::zR::zR::zR::zR::zR::zR::zR::zR::(fun _=>[Sto b Lx m])::([]:List (List Gh → List Res))) (zR::zR::zR::zR::zR::zR::zR::zR::zR::zR::zR::zR::(fun _=>[Sto b Ly m])::([]:List (List Gh → List Res))) (by kernel_rfl) rfl (hold_lt (n:=84) (by decide)) H.out rfl (by decide) (hold_nil (fs:=[6]) trivial rfl ?nil8_2) ?gd8_2 ?step8_2 (fun t=>(decide (9 ≤ t) && decide (t ≤ 10)) || (decide (35 ≤ t) && decide (t ≤ 44))) (by decide) ?done8_2 (fun I h0 st dn=>run_wpB mixed I h0 st dn)
          case nil8_2 =>
           intro s gs hs
           simp only [List.mem_cons,List.not_mem_nil,or_false] at hs
           subst hs; rfl
          case gd8_2 =>
           repeat (refine StepAll.cons (by first | exact trivial | exact fun g=>rfl) ?_)
           exact trivial
          case step8_2 =>
           refine StepAll.cons ?_ ?_
           · refine HoldStepB.val (by decide) fun a wx γ hn hr hres hpre Ss hH K hK=>?_
             have e8:a.eval (.tmp 8) = .pointer (some ⟨w.heap.size,0,none⟩):=(hr 8 (by decide)).trans rfl
             exact hold_run (v:=.pointer (some ⟨w.heap.size,0,none⟩)) (by clear hn hr hK; generalize a.eval = ρ at *; simp [execOp,e8,go_sem]) rfl rfl hH hK
           refine StepAll.cons ?_ ?_
           · refine HoldStepB.val (by decide) fun a wx γ hn hr hres hpre Ss hH K hK=>?_
             have e36:a.eval (.tmp 36) = .pointer (some ⟨w.heap.size,0,none⟩):=hn 0 (by decide) 36 rfl
             exact hold_run (v:=.agg #[.int .i64 dk,.int .i64 de]) (by clear hn hr hK; generalize a.eval = ρ at *; simp [execOp,e36,cell_of_heap (Hd.nthk 0 hH.rear rfl),go_sem]) rfl rfl hH hK
           refine .cons (pR 0 rfl fun _=>⟨rfl,rfl⟩) ?_
           refine .cons (pN 2 38 rfl fun _=>⟨rfl,rfl⟩) ?_
           refine .cons (pF 3 39 8 rfl rfl (fun b q w=>by simp [go_sem]) fun _=>⟨⟨_,_,rfl,rfl⟩,rfl⟩) ?_
           refine StepAll.cons ?_ ?_
           · refine HoldStepB.val (by decide) fun a wx γ hn hr hres hpre Ss hH K hK=>?_
             have e40:a.eval (.tmp 40) = .pointer (some ⟨p,8,none⟩):=hn 4 (by decide) 40 rfl
             exact hold_run (v:=.pointer (some ⟨b,0,none⟩)) (by clear hn hr hK; generalize a.eval = ρ at *; simp [execOp,e40,cell_of_heap (Hd.nthk 1 hH.rear rfl),go_sem]) rfl rfl hH hK
           refine StepAll.cons ?_ ?_
           · refine HoldStepB.fil 12 (by decide) fun a wx γ hn hr hres hpre Ss hH K hK=>?_
             have e37:a.eval (.tmp 37) = .agg #[.int .i64 dk,.int .i64 de]:=hn 1 (by decide) 37 rfl
             have e41:a.eval (.tmp 41) = .pointer (some ⟨b,0,none⟩):=hn 5 (by decide) 41 rfl
             have ef:a.eval (.func 21) = .func (.func 21) #[] #[]:=rfl
             refine hold_callB (b:=12) (f:=21) (args:=#[.agg #[.int .i64 dk,.int .i64 de],.pointer (some ⟨b,0,none⟩)]) (by clear hn hr hK hH; generalize a.eval = ρ at *; simp [execOp,e37,e41,cf21,ef,go_sem]) ?_ hK
             exact (seal15_calls dk de HP.out hH).mono fun e2 w2 h=>⟨default,h.1,h.2⟩
           refine .cons (pN 6 42 rfl fun _=>⟨rfl,rfl⟩) ?_
           refine .cons (pN 7 35 rfl fun _=>⟨rfl,rfl⟩) ?_
           refine .cons (pN 7 35 rfl fun _=>⟨rfl,rfl⟩) ?_
           refine .cons (pN 8 43 rfl fun _=>⟨rfl,rfl⟩) ?_
           refine .cons (pN 9 44 rfl fun _=>⟨rfl,rfl⟩) ?_
           exact trivial
          case done8_2 =>
           intro f w9 g9 hv h9
           have er10:f 10 = .int .i64 p1:=hv 10 10 rfl
           have er9:f 9 = .int .i64 0:=hv 11 9 rfl
           have hd:Hd W w9 (Sto b Ly m::Blk w.heap.size (.cells #[.int .i64 dk,.int .i64 de,.int .i64 0] 140 (0,0))::Blk p (.cells #[.int .i64 ok,.int .i64 oe,.int .i64 sent,.int .i64 rc.ik,.int .i64 rc.ie,.int .u64 rc.nx,.int .u64 rc.bt,.slice ad rc.es.length cap,.pointer (some ⟨b,0,none⟩),.int .i64 xh,.int .i64 xs,.int .i64 xr,.int .i64 xv] 148 (0,0))::Rs):=h9
           clear hv h9 cf21
           clear g9
           simp only [patchG,Nat.reduceAdd,Nat.reduceLeDiff,decide_true,decide_false,Bool.and_true,Bool.and_false,Bool.or_true,Bool.or_false,cond_true,cond_false,er10,er9]
           clear er10 er9
           clear H HP
           have H:=hid hd
           clear hd
           go_wp2_with fail
           have cf64:∀ args w,(callFunc 64 args).run Try.prog w = .ok (.enter 64 args) w:=fun args w=>by kernel_rfl
           refine hold_coreB (P:=Try.prog) (W:=W) (Rs:=(Blk w.heap.size (.cells #[.int .i64 dk,.int .i64 de,.int .i64 0] 140 (0,0))::Blk p (.cells #[.int .i64 ok,.int .i64 oe,.int .i64 sent,.int .i64 rc.ik,.int .i64 rc.ie,.int .u64 rc.nx,.int .u64 rc.bt,.slice ad rc.es.length cap,.pointer (some ⟨b,0,none⟩),.int .i64 xh,.int .i64 xs,.int .i64 xr,.int .i64 xv] 148 (0,0))::Rs)) [[],[0],[1],[2],[],[],[5],[6],[],[8],[9],[10],[11],[],[3,4,7,12,13],[14],[15],[15],[16],[17]] [[],[],[],[],[],[],[],[],[],[],[],[],[],[],[],[],[],[],[],[]] ([some 49,some 50,some 51,some 52,some 53,some 54,some 55,some 56,some 57,some 58,some 59,some 60,some 61,some 62,some 63,some 48,some 64,some 65,some 11,some 9]:List (Option Nat)) ([none,none,none,none,none,none,none,none,none,none,none,none,none,none,none,none,none,none,none,none,some 14]:List (Option Nat)) ((fun _=>pt p 0)::(fun _=>pt p 0)::(fun _=>pt p 8)::(fun _=>pt b 0)::(fun _=>.int .i64 p1)::(fun _=>pt w.heap.size 2)::(fun _=>.int .i64 0)::(fun _=>.int .u64 0)::(fun _=>pt p 0)::(fun _=>pt p 0)::(fun _=>pt p 9)::(fun _=>pt p 9)::(fun _=>.int .i64 xh)::(fun _=>.string s)::(fun _=>.tuple #[.int .i64 c,.int .i64 er])::(fun _=>.tuple #[.int .i64 c,.int .i64 er])::(fun _=>.int .i64 c)::(fun _=>.int .i64 er)::(fun _=>.int .i64 c)::(fun _=>.int .i64 er)::[]) (zR::zR::zR::zR::zR::zR::zR::zR::zR::zR::zR::zR::zR::zR::zR::zR::zR::zR::zR::zR::(fun _=>[Sto b Ly m])::([]:List (List Gh → List Res))) (zR::zR::zR::zR::zR::zR::zR::zR::zR::zR::zR::zR::zR::zR::zR::zR::zR::zR::zR::zR::(fun _=>[Sto b Lz m])::([]:List (List Gh → List Res))) (by kernel_rfl) rfl (hold_lt (n:=84) (by decide)) H.out rfl (by decide) (hold_nil (fs:=[14]) trivial rfl ?nil11_2) ?gd11_2 ?step11_2 (fun t=>decide (t = 9) || decide (t = 11) || (decide (48 ≤ t) && decide (t ≤ 65))) (by decide) ?done11_2 (fun I h0 st dn=>run_wpB mixed I h0 st dn)
           case nil11_2 =>
            intro s gs hs
            simp only [List.mem_cons,List.not_mem_nil,or_false] at hs
            subst hs; rfl
           case gd11_2 =>
            repeat (refine StepAll.cons (by first | exact trivial | exact fun g=>rfl) ?_)
            exact trivial
           case step11_2 =>
            refine .cons (pR 0 rfl fun _=>⟨rfl,rfl⟩) ?_
            refine .cons (pN 0 49 rfl fun _=>⟨rfl,rfl⟩) ?_
            refine .cons (pF 1 50 8 rfl rfl (fun b q w=>by simp [go_sem]) fun _=>⟨⟨_,_,rfl,rfl⟩,rfl⟩) ?_
            refine StepAll.cons ?_ ?_
            · refine HoldStepB.val (by decide) fun a wx γ hn hr hres hpre Ss hH K hK=>?_
              have e51:a.eval (.tmp 51) = .pointer (some ⟨p,8,none⟩):=hn 2 (by decide) 51 rfl
              exact hold_run (v:=.pointer (some ⟨b,0,none⟩)) (by clear hn hr hK; generalize a.eval = ρ at *; simp [execOp,e51,cell_of_heap (Hd.nthk 1 hH.rear rfl),go_sem]) rfl rfl hH hK
            refine .cons (pR 10 rfl fun _=>⟨rfl,rfl⟩) ?_
            refine StepAll.cons ?_ ?_
            · refine HoldStepB.val (by decide) fun a wx γ hn hr hres hpre Ss hH K hK=>?_
              have e8:a.eval (.tmp 8) = .pointer (some ⟨w.heap.size,0,none⟩):=(hr 8 (by decide)).trans rfl
              exact hold_run (v:=.pointer (some ⟨w.heap.size,2,none⟩)) (by clear hn hr hK; generalize a.eval = ρ at *; simp [execOp,e8,go_sem]) rfl rfl hH hK
            refine StepAll.cons ?_ ?_
            · refine HoldStepB.val (by decide) fun a wx γ hn hr hres hpre Ss hH K hK=>?_
              have e54:a.eval (.tmp 54) = .pointer (some ⟨w.heap.size,2,none⟩):=hn 5 (by decide) 54 rfl
              exact hold_run (v:=.int .i64 0) (by clear hn hr hK; generalize a.eval = ρ at *; simp [execOp,e54,cell_of_heap (Hd.nthk 0 hH.rear rfl),go_sem]) rfl rfl hH hK
            refine StepAll.cons ?_ ?_
            · refine HoldStepB.val (by decide) fun a wx γ hn hr hres hpre Ss hH K hK=>?_
              have e55:a.eval (.tmp 55) = .int .i64 0:=hn 6 (by decide) 55 rfl
              exact hold_run (v:=.int .u64 0) (by clear hn hr hK; generalize a.eval = ρ at *; simp [execOp,e55,zcv,go_sem]) rfl rfl hH hK
            refine .cons (pR 0 rfl fun _=>⟨rfl,rfl⟩) ?_
            refine .cons (pN 8 57 rfl fun _=>⟨rfl,rfl⟩) ?_
            refine .cons (pF 9 58 9 rfl rfl (fun b q w=>by simp [go_sem]) fun _=>⟨⟨_,_,rfl,rfl⟩,rfl⟩) ?_
            refine .cons (pF 10 59 0 rfl rfl (fun b q w=>by simp [go_sem]) fun _=>⟨⟨_,_,rfl,rfl⟩,rfl⟩) ?_
            refine StepAll.cons ?_ ?_
            · refine HoldStepB.val (by decide) fun a wx γ hn hr hres hpre Ss hH K hK=>?_
              have e60:a.eval (.tmp 60) = .pointer (some ⟨p,9,none⟩):=hn 11 (by decide) 60 rfl
              exact hold_run (v:=.int .i64 xh) (by clear hn hr hK; generalize a.eval = ρ at *; simp [execOp,e60,cell_of_heap (Hd.nthk 1 hH.rear rfl),go_sem]) rfl rfl hH hK
            refine .cons (pR 1 rfl fun _=>⟨rfl,rfl⟩) ?_
            refine StepAll.cons ?_ ?_
            · refine HoldStepB.fil 20 (by decide) fun a wx γ hn hr hres hpre Ss hH K hK=>?_
              have e52:a.eval (.tmp 52) = .pointer (some ⟨b,0,none⟩):=hn 3 (by decide) 52 rfl
              have e53:a.eval (.tmp 53) = .int .i64 p1:=hn 4 (by decide) 53 rfl
              have e56:a.eval (.tmp 56) = .int .u64 0:=hn 7 (by decide) 56 rfl
              have e61:a.eval (.tmp 61) = .int .i64 xh:=hn 12 (by decide) 61 rfl
              have e62:a.eval (.tmp 62) = .string s:=hn 13 (by decide) 62 rfl
              have ef:a.eval (.func 64) = .func (.func 64) #[] #[]:=rfl
              refine hold_callB (b:=20) (f:=64) (args:=#[.pointer (some ⟨b,0,none⟩),.int .i64 p1,.int .u64 0,.int .i64 xh,.string s]) (by clear hn hr hK hH; generalize a.eval = ρ at *; simp [execOp,e52,e53,e56,e61,e62,cf64,ef,go_sem]) ?_ hK
              refine (text_calls p1 (0) xh s HSZ.out hH).mono fun e2 w2 h=>?_
              rw [HT.out] at h
              exact ⟨default,h.1,h.2⟩
            refine .cons (pN 14 63 rfl fun _=>⟨rfl,rfl⟩) ?_
            refine .cons (pN 15 48 rfl fun _=>⟨rfl,rfl⟩) ?_
            refine .cons (pN 15 48 rfl fun _=>⟨rfl,rfl⟩) ?_
            refine .cons (pN 16 64 rfl fun _=>⟨rfl,rfl⟩) ?_
            refine .cons (pN 17 65 rfl fun _=>⟨rfl,rfl⟩) ?_
            exact trivial
           case done11_2 =>
            intro f w9 g9 hv h9
            have er11:f 11 = .int .i64 c:=hv 18 11 rfl
            have er9:f 9 = .int .i64 er:=hv 19 9 rfl
            have hd:Hd W w9 (Sto b Lz m::Blk w.heap.size (.cells #[.int .i64 dk,.int .i64 de,.int .i64 0] 140 (0,0))::Blk p (.cells #[.int .i64 ok,.int .i64 oe,.int .i64 sent,.int .i64 rc.ik,.int .i64 rc.ie,.int .u64 rc.nx,.int .u64 rc.bt,.slice ad rc.es.length cap,.pointer (some ⟨b,0,none⟩),.int .i64 xh,.int .i64 xs,.int .i64 xr,.int .i64 xv] 148 (0,0))::Rs):=h9
            clear hv h9 cf64
            clear g9
            simp only [patchG,Nat.reduceAdd,Nat.reduceLeDiff,Nat.reduceEqDiff,decide_true,decide_false,Bool.and_true,Bool.and_false,Bool.or_true,Bool.or_false,cond_true,cond_false,er11,er9]
            clear er11 er9
            clear H HT
            have H:=hid hd
            clear hd
            go_wp2_with fail
            refine bodyPost_ret (v:=.tuple #[.int .i64 0,.int .i64 0,.int .i64 0,.int .i64 er]) (by simp [results,Try.results37,go_sem]) rfl ⟨rfl,by first | rfl | trivial,?_⟩
            exact H.out.un2
     · rw [if_neg h3] at hq
       dsimp only at hq
       rw [if_neg h3] at hq
       simp only [Prod.mk.injEq] at hq
       obtain ⟨⟨rfl,rfl,rfl,rfl⟩,rfl,rfl⟩:=hq
       have g1:(p2 != 0) = true:=by rw [bne_iff_ne]; exact h3
       have g2:decide (p2 = 0) = false:=by simpa using h3
       clear h3
       go_enter Try.func37,Try.ntmps37
       have hk:=Hd.nthk 1 H.out rfl
       obtain ⟨g0,g1,g2,g3,g4,g5,g6,g7,g8,g9,g10,g11,g12⟩:=cells13 hk
       have gs:=(Array.getElem?_eq_some_iff.1 hk).1
       clear hk
       go_wp2_with fail
       have HB:=hid (H.out.bxk w.heap.size rfl (o:=.cells #[.int .i64 ok,.int .i64 oe,.int .i64 sent] 140 (0,0)))
       clear H g0 g1 g2 g3 g4 g5 g6 g7 g8 g9 g10 g11 g12 gs
       have H:=HB
       clear HB
       have cf63:∀ args w,(callFunc 63 args).run Try.prog w = .ok (.enter 63 args) w:=fun args w=>by kernel_rfl
       refine hold_coreB (P:=Try.prog) (W:=W) (Rs:=(Blk p (.cells #[.int .i64 ok,.int .i64 oe,.int .i64 sent,.int .i64 rc.ik,.int .i64 rc.ie,.int .u64 rc.nx,.int .u64 rc.bt,.slice ad rc.es.length cap,.pointer (some ⟨b,0,none⟩),.int .i64 xh,.int .i64 xs,.int .i64 xr,.int .i64 xv] 148 (0,0))::Rs)) [[],[],[1],[2],[3],[0,4],[5],[6],[6],[0,7],[8]] [[],[],[],[],[],[],[],[],[],[],[]] ([some 24,some 25,some 26,some 27,some 28,some 29,some 23,some 30,some 31,none,some 9]:List (Option Nat)) ([none,none,none,none,none,none,none,none,none,none,none,some 5,some 9]:List (Option Nat)) ((fun _=>.agg #[.int .i64 ok,.int .i64 oe,.int .i64 sent])::(fun _=>pt p 0)::(fun _=>pt p 0)::(fun _=>pt p 8)::(fun _=>pt b 0)::(fun _=>.tuple #[.agg #[.int .i64 dk,.int .i64 de,.int .i64 0],.int .i64 0])::(fun _=>.tuple #[.agg #[.int .i64 dk,.int .i64 de,.int .i64 0],.int .i64 0])::(fun _=>.agg #[.int .i64 dk,.int .i64 de,.int .i64 0])::(fun _=>.int .i64 0)::(fun _=>undef)::(fun _=>.int .i64 0)::[]) (zR::zR::zR::zR::zR::zR::zR::zR::zR::zR::zR::(fun _=>[Sto b L m])::(fun _=>[Blk w.heap.size (.cells #[.int .i64 ok,.int .i64 oe,.int .i64 sent] 140 (0,0))])::([]:List (List Gh → List Res))) (zR::zR::zR::zR::zR::zR::zR::zR::zR::zR::zR::(fun _=>[Sto b Lx m])::(fun _=>[Blk w.heap.size (.cells #[.int .i64 dk,.int .i64 de,.int .i64 0] 140 (0,0))])::([]:List (List Gh → List Res))) (by kernel_rfl) rfl (hold_lt (n:=84) (by decide)) H.out rfl (by decide) (hold_nil (fs:=[5,9]) trivial rfl ?nil5_3) ?gd5_3 ?step5_3 (fun t=>decide (t = 9) || (decide (23 ≤ t) && decide (t ≤ 31))) (by decide) ?done5_3 (fun I h0 st dn=>run_wpB mixed I h0 st dn)
       case nil5_3 =>
        intro s gs hs
        simp only [List.mem_cons,List.not_mem_nil,or_false] at hs
        rcases hs with rfl | rfl <;> rfl
       case gd5_3 =>
        repeat (refine StepAll.cons (by first | exact trivial | exact fun g=>rfl) ?_)
        exact trivial
       case step5_3 =>
        refine StepAll.cons ?_ ?_
        · refine HoldStepB.val (by decide) fun a wx γ hn hr hres hpre Ss hH K hK=>?_
          have e8:a.eval (.tmp 8) = .pointer (some ⟨w.heap.size,0,none⟩):=(hr 8 (by decide)).trans rfl
          obtain ⟨Zs,hB⟩:=hpre 12 9 rfl (by decide) (by decide)
          have hk:=(show Hd W wx (Blk w.heap.size (.cells #[.int .i64 ok,.int .i64 oe,.int .i64 sent] 140 (0,0))::Zs) from hB).blk
          have c0:=(cell_of_heap hk 0).trans (show _ = some (.int .i64 ok) from rfl)
          have c1:=(cell_of_heap hk 1).trans (show _ = some (.int .i64 oe) from rfl)
          have c2:=(cell_of_heap hk 2).trans (show _ = some (.int .i64 sent) from rfl)
          clear hk
          exact hold_run (v:=.agg #[.int .i64 ok,.int .i64 oe,.int .i64 sent]) (by clear hn hr hK; generalize a.eval = ρ at *; simp [execOp,e8,c0,c1,c2,go_sem]) rfl rfl hH hK
        refine .cons (pR 0 rfl fun _=>⟨rfl,rfl⟩) ?_
        refine .cons (pN 1 25 rfl fun _=>⟨rfl,rfl⟩) ?_
        refine .cons (pF 2 26 8 rfl rfl (fun b q w=>by simp [go_sem]) fun _=>⟨⟨_,_,rfl,rfl⟩,rfl⟩) ?_
        refine StepAll.cons ?_ ?_
        · refine HoldStepB.val (by decide) fun a wx γ hn hr hres hpre Ss hH K hK=>?_
          have e27:a.eval (.tmp 27) = .pointer (some ⟨p,8,none⟩):=hn 3 (by decide) 27 rfl
          exact hold_run (v:=.pointer (some ⟨b,0,none⟩)) (by clear hn hr hK; generalize a.eval = ρ at *; simp [execOp,e27,cell_of_heap (Hd.nthk 0 hH.rear rfl),go_sem]) rfl rfl hH hK
        refine StepAll.cons ?_ ?_
        · refine HoldStepB.fil 11 (by decide) fun a wx γ hn hr hres hpre Ss hH K hK=>?_
          have e24:a.eval (.tmp 24) = .agg #[.int .i64 ok,.int .i64 oe,.int .i64 sent]:=hn 0 (by decide) 24 rfl
          have e28:a.eval (.tmp 28) = .pointer (some ⟨b,0,none⟩):=hn 4 (by decide) 28 rfl
          have ef:a.eval (.func 63) = .func (.func 63) #[] #[]:=rfl
          refine hold_callB (b:=11) (f:=63) (args:=#[.agg #[.int .i64 ok,.int .i64 oe,.int .i64 sent],.pointer (some ⟨b,0,none⟩)]) (by clear hn hr hK hH; generalize a.eval = ρ at *; simp [execOp,e24,e28,cf63,ef,go_sem]) ?_ hK
          exact (snext_calls ok oe sent HN.out hH).mono fun e2 w2 h=>⟨default,h.1,h.2⟩
        refine .cons (pN 5 29 rfl fun _=>⟨rfl,rfl⟩) ?_
        refine .cons (pN 6 23 rfl fun _=>⟨rfl,rfl⟩) ?_
        refine .cons (pN 6 23 rfl fun _=>⟨rfl,rfl⟩) ?_
        refine StepAll.cons ?_ ?_
        · refine HoldStepB.fil 12 (by decide) fun a wx γ hn hr hres hpre Ss hH K hK=>?_
          have e8:a.eval (.tmp 8) = .pointer (some ⟨w.heap.size,0,none⟩):=(hr 8 (by decide)).trans rfl
          have e30:a.eval (.tmp 30) = .agg #[.int .i64 dk,.int .i64 de,.int .i64 0]:=hn 7 (by decide) 30 rfl
          have hH2:Hd W wx (Blk w.heap.size (.cells #[.int .i64 ok,.int .i64 oe,.int .i64 sent] 140 (0,0))::(Ss ++ (Blk p (.cells #[.int .i64 ok,.int .i64 oe,.int .i64 sent,.int .i64 rc.ik,.int .i64 rc.ie,.int .u64 rc.nx,.int .u64 rc.bt,.slice ad rc.es.length cap,.pointer (some ⟨b,0,none⟩),.int .i64 xh,.int .i64 xs,.int .i64 xr,.int .i64 xv] 148 (0,0))::Rs))):=hH
          have hk:=hH2.blk
          have c0:=(cell_of_heap hk 0).trans (show _ = some (.int .i64 ok) from rfl)
          have c1:=(cell_of_heap hk 1).trans (show _ = some (.int .i64 oe) from rfl)
          have c2:=(cell_of_heap hk 2).trans (show _ = some (.int .i64 sent) from rfl)
          have cf:=frozen_of_heap hk
          clear hk hH
          exact hold_filB (w':=(((wx.setCell ⟨w.heap.size,0,none⟩ (.int .i64 dk)).setCell ⟨w.heap.size,1,none⟩ (.int .i64 de)).setCell ⟨w.heap.size,2,none⟩ (.int .i64 0))) (by clear hn hr hK hH2; generalize a.eval = ρ at *; simp [execOp,e8,e30,c0,c1,c2,cf,go_sem]) rfl rfl (((hH2.set 0 (.int .i64 dk)).set 1 (.int .i64 de)).set 2 (.int .i64 0)) hK
        refine .cons (pN 8 31 rfl fun _=>⟨rfl,rfl⟩) ?_
        exact trivial
       case done5_3 =>
        intro f w9 g9 hv h9
        have er9:f 9 = .int .i64 0:=hv 10 9 rfl
        have hd:Hd W w9 (Sto b Lx m::Blk w.heap.size (.cells #[.int .i64 dk,.int .i64 de,.int .i64 0] 140 (0,0))::Blk p (.cells #[.int .i64 ok,.int .i64 oe,.int .i64 sent,.int .i64 rc.ik,.int .i64 rc.ie,.int .u64 rc.nx,.int .u64 rc.bt,.slice ad rc.es.length cap,.pointer (some ⟨b,0,none⟩),.int .i64 xh,.int .i64 xs,.int .i64 xr,.int .i64 xv] 148 (0,0))::Rs):=h9
        clear hv h9 cf63
        clear g9
        simp only [patchG,Nat.reduceAdd,Nat.reduceLeDiff,Nat.reduceEqDiff,decide_true,decide_false,Bool.and_true,Bool.and_false,Bool.or_true,Bool.or_false,cond_true,cond_false,er9]
        clear er9
        clear H HN
        have H:=hid hd
        clear hd
        go_wp2_with fail
        have cf21:∀ args w,(callFunc 21 args).run Try.prog w = .ok (.enter 21 args) w:=fun args w=>by kernel_rfl
        refine hold_coreB (P:=Try.prog) (W:=W) (Rs:=(Blk w.heap.size (.cells #[.int .i64 dk,.int .i64 de,.int .i64 0] 140 (0,0))::Blk p (.cells #[.int .i64 ok,.int .i64 oe,.int .i64 sent,.int .i64 rc.ik,.int .i64 rc.ie,.int .u64 rc.nx,.int .u64 rc.bt,.slice ad rc.es.length cap,.pointer (some ⟨b,0,none⟩),.int .i64 xh,.int .i64 xs,.int .i64 xr,.int .i64 xv] 148 (0,0))::Rs)) [[],[0],[],[2],[3],[4],[1,5],[6],[7],[7],[8],[9]] [[],[],[],[],[],[],[],[],[],[],[],[]] ([some 36,some 37,some 38,some 39,some 40,some 41,some 42,some 35,some 43,some 44,some 10,some 9]:List (Option Nat)) ([none,none,none,none,none,none,none,none,none,none,none,none,some 6]:List (Option Nat)) ((fun _=>pt w.heap.size 0)::(fun _=>.agg #[.int .i64 dk,.int .i64 de])::(fun _=>pt p 0)::(fun _=>pt p 0)::(fun _=>pt p 8)::(fun _=>pt b 0)::(fun _=>.tuple #[.int .i64 p1,.int .i64 p2])::(fun _=>.tuple #[.int .i64 p1,.int .i64 p2])::(fun _=>.int .i64 p1)::(fun _=>.int .i64 p2)::(fun _=>.int .i64 p1)::(fun _=>.int .i64 p2)::[]) (zR::zR::zR::zR::zR::zR::zR::zR::zR::zR::zR::zR::(fun _=>[Sto b Lx m])::([]:List (List Gh → List Res))) (zR::zR::zR::zR::zR::zR::zR::zR::zR::zR::zR::zR::(fun _=>[Sto b Ly m])::([]:List (List Gh → List Res))) (by kernel_rfl) rfl (hold_lt (n:=84) (by decide)) H.out rfl (by decide) (hold_nil (fs:=[6]) trivial rfl ?nil8_3) ?gd8_3 ?step8_3 (fun t=>(decide (9 ≤ t) && decide (t ≤ 10)) || (decide (35 ≤ t) && decide (t ≤ 44))) (by decide) ?done8_3 (fun I h0 st dn=>run_wpB mixed I h0 st dn)
        case nil8_3 =>
         intro s gs hs
         simp only [List.mem_cons,List.not_mem_nil,or_false] at hs
         subst hs; rfl
        case gd8_3 =>
         repeat (refine StepAll.cons (by first | exact trivial | exact fun g=>rfl) ?_)
         exact trivial
        case step8_3 =>
         refine StepAll.cons ?_ ?_
         · refine HoldStepB.val (by decide) fun a wx γ hn hr hres hpre Ss hH K hK=>?_
           have e8:a.eval (.tmp 8) = .pointer (some ⟨w.heap.size,0,none⟩):=(hr 8 (by decide)).trans rfl
           exact hold_run (v:=.pointer (some ⟨w.heap.size,0,none⟩)) (by clear hn hr hK; generalize a.eval = ρ at *; simp [execOp,e8,go_sem]) rfl rfl hH hK
         refine StepAll.cons ?_ ?_
         · refine HoldStepB.val (by decide) fun a wx γ hn hr hres hpre Ss hH K hK=>?_
           have e36:a.eval (.tmp 36) = .pointer (some ⟨w.heap.size,0,none⟩):=hn 0 (by decide) 36 rfl
           exact hold_run (v:=.agg #[.int .i64 dk,.int .i64 de]) (by clear hn hr hK; generalize a.eval = ρ at *; simp [execOp,e36,cell_of_heap (Hd.nthk 0 hH.rear rfl),go_sem]) rfl rfl hH hK
         refine .cons (pR 0 rfl fun _=>⟨rfl,rfl⟩) ?_
         refine .cons (pN 2 38 rfl fun _=>⟨rfl,rfl⟩) ?_
         refine .cons (pF 3 39 8 rfl rfl (fun b q w=>by simp [go_sem]) fun _=>⟨⟨_,_,rfl,rfl⟩,rfl⟩) ?_
         refine StepAll.cons ?_ ?_
         · refine HoldStepB.val (by decide) fun a wx γ hn hr hres hpre Ss hH K hK=>?_
           have e40:a.eval (.tmp 40) = .pointer (some ⟨p,8,none⟩):=hn 4 (by decide) 40 rfl
           exact hold_run (v:=.pointer (some ⟨b,0,none⟩)) (by clear hn hr hK; generalize a.eval = ρ at *; simp [execOp,e40,cell_of_heap (Hd.nthk 1 hH.rear rfl),go_sem]) rfl rfl hH hK
         refine StepAll.cons ?_ ?_
         · refine HoldStepB.fil 12 (by decide) fun a wx γ hn hr hres hpre Ss hH K hK=>?_
           have e37:a.eval (.tmp 37) = .agg #[.int .i64 dk,.int .i64 de]:=hn 1 (by decide) 37 rfl
           have e41:a.eval (.tmp 41) = .pointer (some ⟨b,0,none⟩):=hn 5 (by decide) 41 rfl
           have ef:a.eval (.func 21) = .func (.func 21) #[] #[]:=rfl
           refine hold_callB (b:=12) (f:=21) (args:=#[.agg #[.int .i64 dk,.int .i64 de],.pointer (some ⟨b,0,none⟩)]) (by clear hn hr hK hH; generalize a.eval = ρ at *; simp [execOp,e37,e41,cf21,ef,go_sem]) ?_ hK
           exact (seal15_calls dk de HP.out hH).mono fun e2 w2 h=>⟨default,h.1,h.2⟩
         refine .cons (pN 6 42 rfl fun _=>⟨rfl,rfl⟩) ?_
         refine .cons (pN 7 35 rfl fun _=>⟨rfl,rfl⟩) ?_
         refine .cons (pN 7 35 rfl fun _=>⟨rfl,rfl⟩) ?_
         refine .cons (pN 8 43 rfl fun _=>⟨rfl,rfl⟩) ?_
         refine .cons (pN 9 44 rfl fun _=>⟨rfl,rfl⟩) ?_
         exact trivial
        case done8_3 =>
         intro f w9 g9 hv h9
         have er10:f 10 = .int .i64 p1:=hv 10 10 rfl
         have er9:f 9 = .int .i64 p2:=hv 11 9 rfl
         have hd:Hd W w9 (Sto b Ly m::Blk w.heap.size (.cells #[.int .i64 dk,.int .i64 de,.int .i64 0] 140 (0,0))::Blk p (.cells #[.int .i64 ok,.int .i64 oe,.int .i64 sent,.int .i64 rc.ik,.int .i64 rc.ie,.int .u64 rc.nx,.int .u64 rc.bt,.slice ad rc.es.length cap,.pointer (some ⟨b,0,none⟩),.int .i64 xh,.int .i64 xs,.int .i64 xr,.int .i64 xv] 148 (0,0))::Rs):=h9
         clear hv h9 cf21
         clear g9
         simp only [patchG,Nat.reduceAdd,Nat.reduceLeDiff,decide_true,decide_false,Bool.and_true,Bool.and_false,Bool.or_true,Bool.or_false,cond_true,cond_false,er10,er9]
         clear er10 er9
         clear H HP
         have H:=hid hd
         clear hd
         go_wp2_with fail
         refine bodyPost_ret (v:=.tuple #[.int .i64 0,.int .i64 0,.int .i64 0,.int .i64 p2]) (by simp [results,Try.results37,go_sem]) rfl ⟨rfl,by first | rfl | trivial,?_⟩
         exact H.out.un2
   · rw [if_neg h2] at hq
     simp only [Prod.mk.injEq] at hq
     obtain ⟨⟨rfl,rfl,rfl,rfl⟩,rfl,rfl⟩:=hq
     have g1:(r2 != 0) = true:=by rw [bne_iff_ne]; exact h2
     have g2:decide (r2 = 0) = false:=by simpa using h2
     clear h2
     go_enter Try.func37,Try.ntmps37
     have hk:=Hd.nthk 1 H.out rfl
     obtain ⟨g0,g1,g2,g3,g4,g5,g6,g7,g8,g9,g10,g11,g12⟩:=cells13 hk
     have gs:=(Array.getElem?_eq_some_iff.1 hk).1
     clear hk
     go_wp2_with fail
     have HB:=hid (H.out.bxk w.heap.size rfl (o:=.cells #[.int .i64 ok,.int .i64 oe,.int .i64 sent] 140 (0,0)))
     clear H g0 g1 g2 g3 g4 g5 g6 g7 g8 g9 g10 g11 g12 gs
     have H:=HB
     clear HB
     have cf63:∀ args w,(callFunc 63 args).run Try.prog w = .ok (.enter 63 args) w:=fun args w=>by kernel_rfl
     refine hold_coreB (P:=Try.prog) (W:=W) (Rs:=(Blk p (.cells #[.int .i64 ok,.int .i64 oe,.int .i64 sent,.int .i64 rc.ik,.int .i64 rc.ie,.int .u64 rc.nx,.int .u64 rc.bt,.slice ad rc.es.length cap,.pointer (some ⟨b,0,none⟩),.int .i64 xh,.int .i64 xs,.int .i64 xr,.int .i64 xv] 148 (0,0))::Rs)) [[],[],[1],[2],[3],[0,4],[5],[6],[6],[0,7],[8]] [[],[],[],[],[],[],[],[],[],[],[]] ([some 24,some 25,some 26,some 27,some 28,some 29,some 23,some 30,some 31,none,some 9]:List (Option Nat)) ([none,none,none,none,none,none,none,none,none,none,none,some 5,some 9]:List (Option Nat)) ((fun _=>.agg #[.int .i64 ok,.int .i64 oe,.int .i64 sent])::(fun _=>pt p 0)::(fun _=>pt p 0)::(fun _=>pt p 8)::(fun _=>pt b 0)::(fun _=>.tuple #[.agg #[.int .i64 dk,.int .i64 de,.int .i64 0],.int .i64 r2])::(fun _=>.tuple #[.agg #[.int .i64 dk,.int .i64 de,.int .i64 0],.int .i64 r2])::(fun _=>.agg #[.int .i64 dk,.int .i64 de,.int .i64 0])::(fun _=>.int .i64 r2)::(fun _=>undef)::(fun _=>.int .i64 r2)::[]) (zR::zR::zR::zR::zR::zR::zR::zR::zR::zR::zR::(fun _=>[Sto b L m])::(fun _=>[Blk w.heap.size (.cells #[.int .i64 ok,.int .i64 oe,.int .i64 sent] 140 (0,0))])::([]:List (List Gh → List Res))) (zR::zR::zR::zR::zR::zR::zR::zR::zR::zR::zR::(fun _=>[Sto b Lx m])::(fun _=>[Blk w.heap.size (.cells #[.int .i64 dk,.int .i64 de,.int .i64 0] 140 (0,0))])::([]:List (List Gh → List Res))) (by kernel_rfl) rfl (hold_lt (n:=84) (by decide)) H.out rfl (by decide) (hold_nil (fs:=[5,9]) trivial rfl ?nil5_4) ?gd5_4 ?step5_4 (fun t=>decide (t = 9) || (decide (23 ≤ t) && decide (t ≤ 31))) (by decide) ?done5_4 (fun I h0 st dn=>run_wpB mixed I h0 st dn)
     case nil5_4 =>
      intro s gs hs
      simp only [List.mem_cons,List.not_mem_nil,or_false] at hs
      rcases hs with rfl | rfl <;> rfl
     case gd5_4 =>
      repeat (refine StepAll.cons (by first | exact trivial | exact fun g=>rfl) ?_)
      exact trivial
     case step5_4 =>
      refine StepAll.cons ?_ ?_
      · refine HoldStepB.val (by decide) fun a wx γ hn hr hres hpre Ss hH K hK=>?_
        have e8:a.eval (.tmp 8) = .pointer (some ⟨w.heap.size,0,none⟩):=(hr 8 (by decide)).trans rfl
        obtain ⟨Zs,hB⟩:=hpre 12 9 rfl (by decide) (by decide)
        have hk:=(show Hd W wx (Blk w.heap.size (.cells #[.int .i64 ok,.int .i64 oe,.int .i64 sent] 140 (0,0))::Zs) from hB).blk
        have c0:=(cell_of_heap hk 0).trans (show _ = some (.int .i64 ok) from rfl)
        have c1:=(cell_of_heap hk 1).trans (show _ = some (.int .i64 oe) from rfl)
        have c2:=(cell_of_heap hk 2).trans (show _ = some (.int .i64 sent) from rfl)
        clear hk
        exact hold_run (v:=.agg #[.int .i64 ok,.int .i64 oe,.int .i64 sent]) (by clear hn hr hK; generalize a.eval = ρ at *; simp [execOp,e8,c0,c1,c2,go_sem]) rfl rfl hH hK
      refine .cons (pR 0 rfl fun _=>⟨rfl,rfl⟩) ?_
      refine .cons (pN 1 25 rfl fun _=>⟨rfl,rfl⟩) ?_
      refine .cons (pF 2 26 8 rfl rfl (fun b q w=>by simp [go_sem]) fun _=>⟨⟨_,_,rfl,rfl⟩,rfl⟩) ?_
      refine StepAll.cons ?_ ?_
      · refine HoldStepB.val (by decide) fun a wx γ hn hr hres hpre Ss hH K hK=>?_
        have e27:a.eval (.tmp 27) = .pointer (some ⟨p,8,none⟩):=hn 3 (by decide) 27 rfl
        exact hold_run (v:=.pointer (some ⟨b,0,none⟩)) (by clear hn hr hK; generalize a.eval = ρ at *; simp [execOp,e27,cell_of_heap (Hd.nthk 0 hH.rear rfl),go_sem]) rfl rfl hH hK
      refine StepAll.cons ?_ ?_
      · refine HoldStepB.fil 11 (by decide) fun a wx γ hn hr hres hpre Ss hH K hK=>?_
        have e24:a.eval (.tmp 24) = .agg #[.int .i64 ok,.int .i64 oe,.int .i64 sent]:=hn 0 (by decide) 24 rfl
        have e28:a.eval (.tmp 28) = .pointer (some ⟨b,0,none⟩):=hn 4 (by decide) 28 rfl
        have ef:a.eval (.func 63) = .func (.func 63) #[] #[]:=rfl
        refine hold_callB (b:=11) (f:=63) (args:=#[.agg #[.int .i64 ok,.int .i64 oe,.int .i64 sent],.pointer (some ⟨b,0,none⟩)]) (by clear hn hr hK hH; generalize a.eval = ρ at *; simp [execOp,e24,e28,cf63,ef,go_sem]) ?_ hK
        exact (snext_calls ok oe sent HN.out hH).mono fun e2 w2 h=>⟨default,h.1,h.2⟩
      refine .cons (pN 5 29 rfl fun _=>⟨rfl,rfl⟩) ?_
      refine .cons (pN 6 23 rfl fun _=>⟨rfl,rfl⟩) ?_
      refine .cons (pN 6 23 rfl fun _=>⟨rfl,rfl⟩) ?_
      refine StepAll.cons ?_ ?_
      · refine HoldStepB.fil 12 (by decide) fun a wx γ hn hr hres hpre Ss hH K hK=>?_
        have e8:a.eval (.tmp 8) = .pointer (some ⟨w.heap.size,0,none⟩):=(hr 8 (by decide)).trans rfl
        have e30:a.eval (.tmp 30) = .agg #[.int .i64 dk,.int .i64 de,.int .i64 0]:=hn 7 (by decide) 30 rfl
        have hH2:Hd W wx (Blk w.heap.size (.cells #[.int .i64 ok,.int .i64 oe,.int .i64 sent] 140 (0,0))::(Ss ++ (Blk p (.cells #[.int .i64 ok,.int .i64 oe,.int .i64 sent,.int .i64 rc.ik,.int .i64 rc.ie,.int .u64 rc.nx,.int .u64 rc.bt,.slice ad rc.es.length cap,.pointer (some ⟨b,0,none⟩),.int .i64 xh,.int .i64 xs,.int .i64 xr,.int .i64 xv] 148 (0,0))::Rs))):=hH
        have hk:=hH2.blk
        have c0:=(cell_of_heap hk 0).trans (show _ = some (.int .i64 ok) from rfl)
        have c1:=(cell_of_heap hk 1).trans (show _ = some (.int .i64 oe) from rfl)
        have c2:=(cell_of_heap hk 2).trans (show _ = some (.int .i64 sent) from rfl)
        have cf:=frozen_of_heap hk
        clear hk hH
        exact hold_filB (w':=(((wx.setCell ⟨w.heap.size,0,none⟩ (.int .i64 dk)).setCell ⟨w.heap.size,1,none⟩ (.int .i64 de)).setCell ⟨w.heap.size,2,none⟩ (.int .i64 0))) (by clear hn hr hK hH2; generalize a.eval = ρ at *; simp [execOp,e8,e30,c0,c1,c2,cf,go_sem]) rfl rfl (((hH2.set 0 (.int .i64 dk)).set 1 (.int .i64 de)).set 2 (.int .i64 0)) hK
      refine .cons (pN 8 31 rfl fun _=>⟨rfl,rfl⟩) ?_
      exact trivial
     case done5_4 =>
      intro f w9 g9 hv h9
      have er9:f 9 = .int .i64 r2:=hv 10 9 rfl
      have hd:Hd W w9 (Sto b Lx m::Blk w.heap.size (.cells #[.int .i64 dk,.int .i64 de,.int .i64 0] 140 (0,0))::Blk p (.cells #[.int .i64 ok,.int .i64 oe,.int .i64 sent,.int .i64 rc.ik,.int .i64 rc.ie,.int .u64 rc.nx,.int .u64 rc.bt,.slice ad rc.es.length cap,.pointer (some ⟨b,0,none⟩),.int .i64 xh,.int .i64 xs,.int .i64 xr,.int .i64 xv] 148 (0,0))::Rs):=h9
      clear hv h9 cf63
      clear g9
      simp only [patchG,Nat.reduceAdd,Nat.reduceLeDiff,Nat.reduceEqDiff,decide_true,decide_false,Bool.and_true,Bool.and_false,Bool.or_true,Bool.or_false,cond_true,cond_false,er9]
      clear er9
      clear H HN
      have H:=hid hd
      clear hd
      go_wp2_with fail
      refine bodyPost_ret (v:=.tuple #[.int .i64 0,.int .i64 0,.int .i64 0,.int .i64 r2]) (by simp [results,Try.results37,go_sem]) rfl ⟨rfl,by first | rfl | trivial,?_⟩
      exact H.out.un2
 · have d2:decide (256 ≤ sent) = false:=by simpa using hB
   rw [if_neg hB] at hq
   have zcv:IntKind.u64.wrap sent = sent:=IntWalk.u64_in _ (by omega)
   have z2:IntKind.i64.wrap (sent + 1) = sent + 1:=IntWalk.i64_in _ (by omega)
   clear hB
   obtain ⟨p1,p2,Ly,hp⟩:∃ p1 p2 Ly,put m L (keyT ok 1) = (p1,p2,Ly):=⟨_,_,_,rfl⟩
   unfold sealW at hq
   rw [hp] at hq
   dsimp only at hq
   have HP:=hid hp
   clear hp
   by_cases h3:p2 = 0
   · subst h3
     rw [if_pos rfl] at hq
     obtain ⟨c,er,Lz,ht⟩:∃ c er Lz,text5 m Ly p1 sent xh s = (c,er,Lz):=⟨_,_,_,rfl⟩
     rw [ht] at hq
     dsimp only at hq
     have HT:=hid ht
     clear ht
     by_cases h4:er = 0
     · subst h4
       rw [if_pos rfl] at hq
       simp only [Prod.mk.injEq] at hq
       obtain ⟨⟨rfl,rfl,rfl,rfl⟩,rfl,rfl⟩:=hq
       go_enter Try.func37,Try.ntmps37
       have hk:=Hd.nthk 1 H.out rfl
       obtain ⟨g0,g1,g2,g3,g4,g5,g6,g7,g8,g9,g10,g11,g12⟩:=cells13 hk
       have gs:=(Array.getElem?_eq_some_iff.1 hk).1
       clear hk
       go_wp2_with fail
       have HB:=hid (H.out.bxk w.heap.size rfl (o:=.cells #[.int .i64 ok,.int .i64 oe,.int .i64 sent] 140 (0,0)))
       clear H g0 g1 g2 g3 g4 g5 g6 g7 g8 g9 g10 g11 g12 gs
       have H:=HB
       clear HB
       have cf21:∀ args w,(callFunc 21 args).run Try.prog w = .ok (.enter 21 args) w:=fun args w=>by kernel_rfl
       refine hold_coreB (P:=Try.prog) (W:=W) (Rs:=(Blk w.heap.size (.cells #[.int .i64 ok,.int .i64 oe,.int .i64 sent] 140 (0,0))::Blk p (.cells #[.int .i64 ok,.int .i64 oe,.int .i64 sent,.int .i64 rc.ik,.int .i64 rc.ie,.int .u64 rc.nx,.int .u64 rc.bt,.slice ad rc.es.length cap,.pointer (some ⟨b,0,none⟩),.int .i64 xh,.int .i64 xs,.int .i64 xr,.int .i64 xv] 148 (0,0))::Rs)) [[],[0],[],[2],[3],[4],[1,5],[6],[7],[7],[8],[9]] [[],[],[],[],[],[],[],[],[],[],[],[]] ([some 36,some 37,some 38,some 39,some 40,some 41,some 42,some 35,some 43,some 44,some 10,some 9]:List (Option Nat)) ([none,none,none,none,none,none,none,none,none,none,none,none,some 6]:List (Option Nat)) ((fun _=>pt w.heap.size 0)::(fun _=>.agg #[.int .i64 ok,.int .i64 oe])::(fun _=>pt p 0)::(fun _=>pt p 0)::(fun _=>pt p 8)::(fun _=>pt b 0)::(fun _=>.tuple #[.int .i64 p1,.int .i64 0])::(fun _=>.tuple #[.int .i64 p1,.int .i64 0])::(fun _=>.int .i64 p1)::(fun _=>.int .i64 0)::(fun _=>.int .i64 p1)::(fun _=>.int .i64 0)::[]) (zR::zR::zR::zR::zR::zR::zR::zR::zR::zR::zR::zR::(fun _=>[Sto b L m])::([]:List (List Gh → List Res))) (zR::zR::zR::zR::zR::zR::zR::zR::zR::zR::zR::zR::(fun _=>[Sto b Ly m])::([]:List (List Gh → List Res))) (by kernel_rfl) rfl (hold_lt (n:=84) (by decide)) H.out rfl (by decide) (hold_nil (fs:=[6]) trivial rfl ?nil8_4) ?gd8_4 ?step8_4 (fun t=>(decide (9 ≤ t) && decide (t ≤ 10)) || (decide (35 ≤ t) && decide (t ≤ 44))) (by decide) ?done8_4 (fun I h0 st dn=>run_wpB mixed I h0 st dn)
       case nil8_4 =>
        intro s gs hs
        simp only [List.mem_cons,List.not_mem_nil,or_false] at hs
        subst hs; rfl
       case gd8_4 =>
        repeat (refine StepAll.cons (by first | exact trivial | exact fun g=>rfl) ?_)
        exact trivial
       case step8_4 =>
        refine StepAll.cons ?_ ?_
        · refine HoldStepB.val (by decide) fun a wx γ hn hr hres hpre Ss hH K hK=>?_
          have e8:a.eval (.tmp 8) = .pointer (some ⟨w.heap.size,0,none⟩):=(hr 8 (by decide)).trans rfl
          exact hold_run (v:=.pointer (some ⟨w.heap.size,0,none⟩)) (by clear hn hr hK; generalize a.eval = ρ at *; simp [execOp,e8,go_sem]) rfl rfl hH hK
        refine StepAll.cons ?_ ?_
        · refine HoldStepB.val (by decide) fun a wx γ hn hr hres hpre Ss hH K hK=>?_
          have e36:a.eval (.tmp 36) = .pointer (some ⟨w.heap.size,0,none⟩):=hn 0 (by decide) 36 rfl
          exact hold_run (v:=.agg #[.int .i64 ok,.int .i64 oe]) (by clear hn hr hK; generalize a.eval = ρ at *; simp [execOp,e36,cell_of_heap (Hd.nthk 0 hH.rear rfl),go_sem]) rfl rfl hH hK
        refine .cons (pR 0 rfl fun _=>⟨rfl,rfl⟩) ?_
        refine .cons (pN 2 38 rfl fun _=>⟨rfl,rfl⟩) ?_
        refine .cons (pF 3 39 8 rfl rfl (fun b q w=>by simp [go_sem]) fun _=>⟨⟨_,_,rfl,rfl⟩,rfl⟩) ?_
        refine StepAll.cons ?_ ?_
        · refine HoldStepB.val (by decide) fun a wx γ hn hr hres hpre Ss hH K hK=>?_
          have e40:a.eval (.tmp 40) = .pointer (some ⟨p,8,none⟩):=hn 4 (by decide) 40 rfl
          exact hold_run (v:=.pointer (some ⟨b,0,none⟩)) (by clear hn hr hK; generalize a.eval = ρ at *; simp [execOp,e40,cell_of_heap (Hd.nthk 1 hH.rear rfl),go_sem]) rfl rfl hH hK
        refine StepAll.cons ?_ ?_
        · refine HoldStepB.fil 12 (by decide) fun a wx γ hn hr hres hpre Ss hH K hK=>?_
          have e37:a.eval (.tmp 37) = .agg #[.int .i64 ok,.int .i64 oe]:=hn 1 (by decide) 37 rfl
          have e41:a.eval (.tmp 41) = .pointer (some ⟨b,0,none⟩):=hn 5 (by decide) 41 rfl
          have ef:a.eval (.func 21) = .func (.func 21) #[] #[]:=rfl
          refine hold_callB (b:=12) (f:=21) (args:=#[.agg #[.int .i64 ok,.int .i64 oe],.pointer (some ⟨b,0,none⟩)]) (by clear hn hr hK hH; generalize a.eval = ρ at *; simp [execOp,e37,e41,cf21,ef,go_sem]) ?_ hK
          exact (seal15_calls ok oe HP.out hH).mono fun e2 w2 h=>⟨default,h.1,h.2⟩
        refine .cons (pN 6 42 rfl fun _=>⟨rfl,rfl⟩) ?_
        refine .cons (pN 7 35 rfl fun _=>⟨rfl,rfl⟩) ?_
        refine .cons (pN 7 35 rfl fun _=>⟨rfl,rfl⟩) ?_
        refine .cons (pN 8 43 rfl fun _=>⟨rfl,rfl⟩) ?_
        refine .cons (pN 9 44 rfl fun _=>⟨rfl,rfl⟩) ?_
        exact trivial
       case done8_4 =>
        intro f w9 g9 hv h9
        have er10:f 10 = .int .i64 p1:=hv 10 10 rfl
        have er9:f 9 = .int .i64 0:=hv 11 9 rfl
        have hd:Hd W w9 (Sto b Ly m::Blk w.heap.size (.cells #[.int .i64 ok,.int .i64 oe,.int .i64 sent] 140 (0,0))::Blk p (.cells #[.int .i64 ok,.int .i64 oe,.int .i64 sent,.int .i64 rc.ik,.int .i64 rc.ie,.int .u64 rc.nx,.int .u64 rc.bt,.slice ad rc.es.length cap,.pointer (some ⟨b,0,none⟩),.int .i64 xh,.int .i64 xs,.int .i64 xr,.int .i64 xv] 148 (0,0))::Rs):=h9
        clear hv h9 cf21
        clear g9
        simp only [patchG,Nat.reduceAdd,Nat.reduceLeDiff,decide_true,decide_false,Bool.and_true,Bool.and_false,Bool.or_true,Bool.or_false,cond_true,cond_false,er10,er9]
        clear er10 er9
        clear H HP
        have H:=hid hd
        clear hd
        go_wp2_with fail
        have cf64:∀ args w,(callFunc 64 args).run Try.prog w = .ok (.enter 64 args) w:=fun args w=>by kernel_rfl
        refine hold_coreB (P:=Try.prog) (W:=W) (Rs:=(Blk w.heap.size (.cells #[.int .i64 ok,.int .i64 oe,.int .i64 sent] 140 (0,0))::Blk p (.cells #[.int .i64 ok,.int .i64 oe,.int .i64 sent,.int .i64 rc.ik,.int .i64 rc.ie,.int .u64 rc.nx,.int .u64 rc.bt,.slice ad rc.es.length cap,.pointer (some ⟨b,0,none⟩),.int .i64 xh,.int .i64 xs,.int .i64 xr,.int .i64 xv] 148 (0,0))::Rs)) [[],[0],[1],[2],[],[],[5],[6],[],[8],[9],[10],[11],[],[3,4,7,12,13],[14],[15],[15],[16],[17]] [[],[],[],[],[],[],[],[],[],[],[],[],[],[],[],[],[],[],[],[]] ([some 49,some 50,some 51,some 52,some 53,some 54,some 55,some 56,some 57,some 58,some 59,some 60,some 61,some 62,some 63,some 48,some 64,some 65,some 11,some 9]:List (Option Nat)) ([none,none,none,none,none,none,none,none,none,none,none,none,none,none,none,none,none,none,none,none,some 14]:List (Option Nat)) ((fun _=>pt p 0)::(fun _=>pt p 0)::(fun _=>pt p 8)::(fun _=>pt b 0)::(fun _=>.int .i64 p1)::(fun _=>pt w.heap.size 2)::(fun _=>.int .i64 sent)::(fun _=>.int .u64 sent)::(fun _=>pt p 0)::(fun _=>pt p 0)::(fun _=>pt p 9)::(fun _=>pt p 9)::(fun _=>.int .i64 xh)::(fun _=>.string s)::(fun _=>.tuple #[.int .i64 c,.int .i64 0])::(fun _=>.tuple #[.int .i64 c,.int .i64 0])::(fun _=>.int .i64 c)::(fun _=>.int .i64 0)::(fun _=>.int .i64 c)::(fun _=>.int .i64 0)::[]) (zR::zR::zR::zR::zR::zR::zR::zR::zR::zR::zR::zR::zR::zR::zR::zR::zR::zR::zR::zR::(fun _=>[Sto b Ly m])::([]:List (List Gh → List Res))) (zR::zR::zR::zR::zR::zR::zR::zR::zR::zR::zR::zR::zR::zR::zR::zR::zR::zR::zR::zR::(fun _=>[Sto b Lz m])::([]:List (List Gh → List Res))) (by kernel_rfl) rfl (hold_lt (n:=84) (by decide)) H.out rfl (by decide) (hold_nil (fs:=[14]) trivial rfl ?nil11_4) ?gd11_4 ?step11_4 (fun t=>decide (t = 9) || decide (t = 11) || (decide (48 ≤ t) && decide (t ≤ 65))) (by decide) ?done11_4 (fun I h0 st dn=>run_wpB mixed I h0 st dn)
        case nil11_4 =>
         intro s gs hs
         simp only [List.mem_cons,List.not_mem_nil,or_false] at hs
         subst hs; rfl
        case gd11_4 =>
         repeat (refine StepAll.cons (by first | exact trivial | exact fun g=>rfl) ?_)
         exact trivial
        case step11_4 =>
         refine .cons (pR 0 rfl fun _=>⟨rfl,rfl⟩) ?_
         refine .cons (pN 0 49 rfl fun _=>⟨rfl,rfl⟩) ?_
         refine .cons (pF 1 50 8 rfl rfl (fun b q w=>by simp [go_sem]) fun _=>⟨⟨_,_,rfl,rfl⟩,rfl⟩) ?_
         refine StepAll.cons ?_ ?_
         · refine HoldStepB.val (by decide) fun a wx γ hn hr hres hpre Ss hH K hK=>?_
           have e51:a.eval (.tmp 51) = .pointer (some ⟨p,8,none⟩):=hn 2 (by decide) 51 rfl
           exact hold_run (v:=.pointer (some ⟨b,0,none⟩)) (by clear hn hr hK; generalize a.eval = ρ at *; simp [execOp,e51,cell_of_heap (Hd.nthk 1 hH.rear rfl),go_sem]) rfl rfl hH hK
         refine .cons (pR 10 rfl fun _=>⟨rfl,rfl⟩) ?_
         refine StepAll.cons ?_ ?_
         · refine HoldStepB.val (by decide) fun a wx γ hn hr hres hpre Ss hH K hK=>?_
           have e8:a.eval (.tmp 8) = .pointer (some ⟨w.heap.size,0,none⟩):=(hr 8 (by decide)).trans rfl
           exact hold_run (v:=.pointer (some ⟨w.heap.size,2,none⟩)) (by clear hn hr hK; generalize a.eval = ρ at *; simp [execOp,e8,go_sem]) rfl rfl hH hK
         refine StepAll.cons ?_ ?_
         · refine HoldStepB.val (by decide) fun a wx γ hn hr hres hpre Ss hH K hK=>?_
           have e54:a.eval (.tmp 54) = .pointer (some ⟨w.heap.size,2,none⟩):=hn 5 (by decide) 54 rfl
           exact hold_run (v:=.int .i64 sent) (by clear hn hr hK; generalize a.eval = ρ at *; simp [execOp,e54,cell_of_heap (Hd.nthk 0 hH.rear rfl),go_sem]) rfl rfl hH hK
         refine StepAll.cons ?_ ?_
         · refine HoldStepB.val (by decide) fun a wx γ hn hr hres hpre Ss hH K hK=>?_
           have e55:a.eval (.tmp 55) = .int .i64 sent:=hn 6 (by decide) 55 rfl
           exact hold_run (v:=.int .u64 sent) (by clear hn hr hK; generalize a.eval = ρ at *; simp [execOp,e55,zcv,go_sem]) rfl rfl hH hK
         refine .cons (pR 0 rfl fun _=>⟨rfl,rfl⟩) ?_
         refine .cons (pN 8 57 rfl fun _=>⟨rfl,rfl⟩) ?_
         refine .cons (pF 9 58 9 rfl rfl (fun b q w=>by simp [go_sem]) fun _=>⟨⟨_,_,rfl,rfl⟩,rfl⟩) ?_
         refine .cons (pF 10 59 0 rfl rfl (fun b q w=>by simp [go_sem]) fun _=>⟨⟨_,_,rfl,rfl⟩,rfl⟩) ?_
         refine StepAll.cons ?_ ?_
         · refine HoldStepB.val (by decide) fun a wx γ hn hr hres hpre Ss hH K hK=>?_
           have e60:a.eval (.tmp 60) = .pointer (some ⟨p,9,none⟩):=hn 11 (by decide) 60 rfl
           exact hold_run (v:=.int .i64 xh) (by clear hn hr hK; generalize a.eval = ρ at *; simp [execOp,e60,cell_of_heap (Hd.nthk 1 hH.rear rfl),go_sem]) rfl rfl hH hK
         refine .cons (pR 1 rfl fun _=>⟨rfl,rfl⟩) ?_
         refine StepAll.cons ?_ ?_
         · refine HoldStepB.fil 20 (by decide) fun a wx γ hn hr hres hpre Ss hH K hK=>?_
           have e52:a.eval (.tmp 52) = .pointer (some ⟨b,0,none⟩):=hn 3 (by decide) 52 rfl
           have e53:a.eval (.tmp 53) = .int .i64 p1:=hn 4 (by decide) 53 rfl
           have e56:a.eval (.tmp 56) = .int .u64 sent:=hn 7 (by decide) 56 rfl
           have e61:a.eval (.tmp 61) = .int .i64 xh:=hn 12 (by decide) 61 rfl
           have e62:a.eval (.tmp 62) = .string s:=hn 13 (by decide) 62 rfl
           have ef:a.eval (.func 64) = .func (.func 64) #[] #[]:=rfl
           refine hold_callB (b:=20) (f:=64) (args:=#[.pointer (some ⟨b,0,none⟩),.int .i64 p1,.int .u64 sent,.int .i64 xh,.string s]) (by clear hn hr hK hH; generalize a.eval = ρ at *; simp [execOp,e52,e53,e56,e61,e62,cf64,ef,go_sem]) ?_ hK
           refine (text_calls p1 (sent) xh s HSZ.out hH).mono fun e2 w2 h=>?_
           rw [HT.out] at h
           exact ⟨default,h.1,h.2⟩
         refine .cons (pN 14 63 rfl fun _=>⟨rfl,rfl⟩) ?_
         refine .cons (pN 15 48 rfl fun _=>⟨rfl,rfl⟩) ?_
         refine .cons (pN 15 48 rfl fun _=>⟨rfl,rfl⟩) ?_
         refine .cons (pN 16 64 rfl fun _=>⟨rfl,rfl⟩) ?_
         refine .cons (pN 17 65 rfl fun _=>⟨rfl,rfl⟩) ?_
         exact trivial
        case done11_4 =>
         intro f w9 g9 hv h9
         have er11:f 11 = .int .i64 c:=hv 18 11 rfl
         have er9:f 9 = .int .i64 0:=hv 19 9 rfl
         have hd:Hd W w9 (Sto b Lz m::Blk w.heap.size (.cells #[.int .i64 ok,.int .i64 oe,.int .i64 sent] 140 (0,0))::Blk p (.cells #[.int .i64 ok,.int .i64 oe,.int .i64 sent,.int .i64 rc.ik,.int .i64 rc.ie,.int .u64 rc.nx,.int .u64 rc.bt,.slice ad rc.es.length cap,.pointer (some ⟨b,0,none⟩),.int .i64 xh,.int .i64 xs,.int .i64 xr,.int .i64 xv] 148 (0,0))::Rs):=h9
         clear hv h9 cf64
         clear g9
         simp only [patchG,Nat.reduceAdd,Nat.reduceLeDiff,Nat.reduceEqDiff,decide_true,decide_false,Bool.and_true,Bool.and_false,Bool.or_true,Bool.or_false,cond_true,cond_false,er11,er9]
         clear er11 er9
         clear H HT
         have H:=hid hd
         clear hd
         have hk:=Hd.nthk 1 H.out rfl
         have c0:=(cell_of_heap hk 0).trans (show _ = some (.int .i64 ok) from rfl)
         have c1:=(cell_of_heap hk 1).trans (show _ = some (.int .i64 oe) from rfl)
         have c2:=(cell_of_heap hk 2).trans (show _ = some (.int .i64 sent) from rfl)
         have cs:=(Array.getElem?_eq_some_iff.1 hk).1
         have cf:=frozen_of_heap hk
         clear hk
         have hk:=Hd.nthk 2 H.out rfl
         obtain ⟨g0,g1,g2,g3,g4,g5,g6,g7,g8,g9,g10,g11,g12⟩:=cells13 hk
         have gs:=(Array.getElem?_eq_some_iff.1 hk).1
         have gf:=frozen_of_heap hk
         clear hk
         have hne:=blks_ne H.out.drop
         have hne2:¬ p = w.heap.size:=fun e=>hne e.symm
         go_wp2_with fail
         refine bodyPost_ret (v:=.tuple #[.int .i64 oe,.int .i64 sent,.int .i64 c,.int .i64 0]) (by simp [results,Try.results37,go_sem]) rfl ⟨rfl,by first | rfl | trivial,?_⟩
         have h8:=(((H.out.front 2 rfl).front 1 rfl).front 2 rfl).set 2 (.int .i64 (sent + 1))
         exact (((((((((h8.front 1 rfl).front 1 rfl).front 2 rfl).set 0 (.int .i64 ok)).set 1 (.int .i64 oe)).set 2 (.int .i64 (sent + 1))).front 2 rfl).front 2 rfl)).drop
     · rw [if_neg h4] at hq
       simp only [Prod.mk.injEq] at hq
       obtain ⟨⟨rfl,rfl,rfl,rfl⟩,rfl,rfl⟩:=hq
       have g1:(er != 0) = true:=by rw [bne_iff_ne]; exact h4
       have g2:decide (er = 0) = false:=by simpa using h4
       clear h4
       go_enter Try.func37,Try.ntmps37
       have hk:=Hd.nthk 1 H.out rfl
       obtain ⟨g0,g1,g2,g3,g4,g5,g6,g7,g8,g9,g10,g11,g12⟩:=cells13 hk
       have gs:=(Array.getElem?_eq_some_iff.1 hk).1
       clear hk
       go_wp2_with fail
       have HB:=hid (H.out.bxk w.heap.size rfl (o:=.cells #[.int .i64 ok,.int .i64 oe,.int .i64 sent] 140 (0,0)))
       clear H g0 g1 g2 g3 g4 g5 g6 g7 g8 g9 g10 g11 g12 gs
       have H:=HB
       clear HB
       have cf21:∀ args w,(callFunc 21 args).run Try.prog w = .ok (.enter 21 args) w:=fun args w=>by kernel_rfl
       refine hold_coreB (P:=Try.prog) (W:=W) (Rs:=(Blk w.heap.size (.cells #[.int .i64 ok,.int .i64 oe,.int .i64 sent] 140 (0,0))::Blk p (.cells #[.int .i64 ok,.int .i64 oe,.int .i64 sent,.int .i64 rc.ik,.int .i64 rc.ie,.int .u64 rc.nx,.int .u64 rc.bt,.slice ad rc.es.length cap,.pointer (some ⟨b,0,none⟩),.int .i64 xh,.int .i64 xs,.int .i64 xr,.int .i64 xv] 148 (0,0))::Rs)) [[],[0],[],[2],[3],[4],[1,5],[6],[7],[7],[8],[9]] [[],[],[],[],[],[],[],[],[],[],[],[]] ([some 36,some 37,some 38,some 39,some 40,some 41,some 42,some 35,some 43,some 44,some 10,some 9]:List (Option Nat)) ([none,none,none,none,none,none,none,none,none,none,none,none,some 6]:List (Option Nat)) ((fun _=>pt w.heap.size 0)::(fun _=>.agg #[.int .i64 ok,.int .i64 oe])::(fun _=>pt p 0)::(fun _=>pt p 0)::(fun _=>pt p 8)::(fun _=>pt b 0)::(fun _=>.tuple #[.int .i64 p1,.int .i64 0])::(fun _=>.tuple #[.int .i64 p1,.int .i64 0])::(fun _=>.int .i64 p1)::(fun _=>.int .i64 0)::(fun _=>.int .i64 p1)::(fun _=>.int .i64 0)::[]) (zR::zR::zR::zR::zR::zR::zR::zR::zR::zR::zR::zR::(fun _=>[Sto b L m])::([]:List (List Gh → List Res))) (zR::zR::zR::zR::zR::zR::zR::zR::zR::zR::zR::zR::(fun _=>[Sto b Ly m])::([]:List (List Gh → List Res))) (by kernel_rfl) rfl (hold_lt (n:=84) (by decide)) H.out rfl (by decide) (hold_nil (fs:=[6]) trivial rfl ?nil8_5) ?gd8_5 ?step8_5 (fun t=>(decide (9 ≤ t) && decide (t ≤ 10)) || (decide (35 ≤ t) && decide (t ≤ 44))) (by decide) ?done8_5 (fun I h0 st dn=>run_wpB mixed I h0 st dn)
       case nil8_5 =>
        intro s gs hs
        simp only [List.mem_cons,List.not_mem_nil,or_false] at hs
        subst hs; rfl
       case gd8_5 =>
        repeat (refine StepAll.cons (by first | exact trivial | exact fun g=>rfl) ?_)
        exact trivial
       case step8_5 =>
        refine StepAll.cons ?_ ?_
        · refine HoldStepB.val (by decide) fun a wx γ hn hr hres hpre Ss hH K hK=>?_
          have e8:a.eval (.tmp 8) = .pointer (some ⟨w.heap.size,0,none⟩):=(hr 8 (by decide)).trans rfl
          exact hold_run (v:=.pointer (some ⟨w.heap.size,0,none⟩)) (by clear hn hr hK; generalize a.eval = ρ at *; simp [execOp,e8,go_sem]) rfl rfl hH hK
        refine StepAll.cons ?_ ?_
        · refine HoldStepB.val (by decide) fun a wx γ hn hr hres hpre Ss hH K hK=>?_
          have e36:a.eval (.tmp 36) = .pointer (some ⟨w.heap.size,0,none⟩):=hn 0 (by decide) 36 rfl
          exact hold_run (v:=.agg #[.int .i64 ok,.int .i64 oe]) (by clear hn hr hK; generalize a.eval = ρ at *; simp [execOp,e36,cell_of_heap (Hd.nthk 0 hH.rear rfl),go_sem]) rfl rfl hH hK
        refine .cons (pR 0 rfl fun _=>⟨rfl,rfl⟩) ?_
        refine .cons (pN 2 38 rfl fun _=>⟨rfl,rfl⟩) ?_
        refine .cons (pF 3 39 8 rfl rfl (fun b q w=>by simp [go_sem]) fun _=>⟨⟨_,_,rfl,rfl⟩,rfl⟩) ?_
        refine StepAll.cons ?_ ?_
        · refine HoldStepB.val (by decide) fun a wx γ hn hr hres hpre Ss hH K hK=>?_
          have e40:a.eval (.tmp 40) = .pointer (some ⟨p,8,none⟩):=hn 4 (by decide) 40 rfl
          exact hold_run (v:=.pointer (some ⟨b,0,none⟩)) (by clear hn hr hK; generalize a.eval = ρ at *; simp [execOp,e40,cell_of_heap (Hd.nthk 1 hH.rear rfl),go_sem]) rfl rfl hH hK
        refine StepAll.cons ?_ ?_
        · refine HoldStepB.fil 12 (by decide) fun a wx γ hn hr hres hpre Ss hH K hK=>?_
          have e37:a.eval (.tmp 37) = .agg #[.int .i64 ok,.int .i64 oe]:=hn 1 (by decide) 37 rfl
          have e41:a.eval (.tmp 41) = .pointer (some ⟨b,0,none⟩):=hn 5 (by decide) 41 rfl
          have ef:a.eval (.func 21) = .func (.func 21) #[] #[]:=rfl
          refine hold_callB (b:=12) (f:=21) (args:=#[.agg #[.int .i64 ok,.int .i64 oe],.pointer (some ⟨b,0,none⟩)]) (by clear hn hr hK hH; generalize a.eval = ρ at *; simp [execOp,e37,e41,cf21,ef,go_sem]) ?_ hK
          exact (seal15_calls ok oe HP.out hH).mono fun e2 w2 h=>⟨default,h.1,h.2⟩
        refine .cons (pN 6 42 rfl fun _=>⟨rfl,rfl⟩) ?_
        refine .cons (pN 7 35 rfl fun _=>⟨rfl,rfl⟩) ?_
        refine .cons (pN 7 35 rfl fun _=>⟨rfl,rfl⟩) ?_
        refine .cons (pN 8 43 rfl fun _=>⟨rfl,rfl⟩) ?_
        refine .cons (pN 9 44 rfl fun _=>⟨rfl,rfl⟩) ?_
        exact trivial
       case done8_5 =>
        intro f w9 g9 hv h9
        have er10:f 10 = .int .i64 p1:=hv 10 10 rfl
        have er9:f 9 = .int .i64 0:=hv 11 9 rfl
        have hd:Hd W w9 (Sto b Ly m::Blk w.heap.size (.cells #[.int .i64 ok,.int .i64 oe,.int .i64 sent] 140 (0,0))::Blk p (.cells #[.int .i64 ok,.int .i64 oe,.int .i64 sent,.int .i64 rc.ik,.int .i64 rc.ie,.int .u64 rc.nx,.int .u64 rc.bt,.slice ad rc.es.length cap,.pointer (some ⟨b,0,none⟩),.int .i64 xh,.int .i64 xs,.int .i64 xr,.int .i64 xv] 148 (0,0))::Rs):=h9
        clear hv h9 cf21
        clear g9
        simp only [patchG,Nat.reduceAdd,Nat.reduceLeDiff,decide_true,decide_false,Bool.and_true,Bool.and_false,Bool.or_true,Bool.or_false,cond_true,cond_false,er10,er9]
        clear er10 er9
        clear H HP
        have H:=hid hd
        clear hd
        go_wp2_with fail
        have cf64:∀ args w,(callFunc 64 args).run Try.prog w = .ok (.enter 64 args) w:=fun args w=>by kernel_rfl
        refine hold_coreB (P:=Try.prog) (W:=W) (Rs:=(Blk w.heap.size (.cells #[.int .i64 ok,.int .i64 oe,.int .i64 sent] 140 (0,0))::Blk p (.cells #[.int .i64 ok,.int .i64 oe,.int .i64 sent,.int .i64 rc.ik,.int .i64 rc.ie,.int .u64 rc.nx,.int .u64 rc.bt,.slice ad rc.es.length cap,.pointer (some ⟨b,0,none⟩),.int .i64 xh,.int .i64 xs,.int .i64 xr,.int .i64 xv] 148 (0,0))::Rs)) [[],[0],[1],[2],[],[],[5],[6],[],[8],[9],[10],[11],[],[3,4,7,12,13],[14],[15],[15],[16],[17]] [[],[],[],[],[],[],[],[],[],[],[],[],[],[],[],[],[],[],[],[]] ([some 49,some 50,some 51,some 52,some 53,some 54,some 55,some 56,some 57,some 58,some 59,some 60,some 61,some 62,some 63,some 48,some 64,some 65,some 11,some 9]:List (Option Nat)) ([none,none,none,none,none,none,none,none,none,none,none,none,none,none,none,none,none,none,none,none,some 14]:List (Option Nat)) ((fun _=>pt p 0)::(fun _=>pt p 0)::(fun _=>pt p 8)::(fun _=>pt b 0)::(fun _=>.int .i64 p1)::(fun _=>pt w.heap.size 2)::(fun _=>.int .i64 sent)::(fun _=>.int .u64 sent)::(fun _=>pt p 0)::(fun _=>pt p 0)::(fun _=>pt p 9)::(fun _=>pt p 9)::(fun _=>.int .i64 xh)::(fun _=>.string s)::(fun _=>.tuple #[.int .i64 c,.int .i64 er])::(fun _=>.tuple #[.int .i64 c,.int .i64 er])::(fun _=>.int .i64 c)::(fun _=>.int .i64 er)::(fun _=>.int .i64 c)::(fun _=>.int .i64 er)::[]) (zR::zR::zR::zR::zR::zR::zR::zR::zR::zR::zR::zR::zR::zR::zR::zR::zR::zR::zR::zR::(fun _=>[Sto b Ly m])::([]:List (List Gh → List Res))) (zR::zR::zR::zR::zR::zR::zR::zR::zR::zR::zR::zR::zR::zR::zR::zR::zR::zR::zR::zR::(fun _=>[Sto b Lz m])::([]:List (List Gh → List Res))) (by kernel_rfl) rfl (hold_lt (n:=84) (by decide)) H.out rfl (by decide) (hold_nil (fs:=[14]) trivial rfl ?nil11_5) ?gd11_5 ?step11_5 (fun t=>decide (t = 9) || decide (t = 11) || (decide (48 ≤ t) && decide (t ≤ 65))) (by decide) ?done11_5 (fun I h0 st dn=>run_wpB mixed I h0 st dn)
        case nil11_5 =>
         intro s gs hs
         simp only [List.mem_cons,List.not_mem_nil,or_false] at hs
         subst hs; rfl
        case gd11_5 =>
         repeat (refine StepAll.cons (by first | exact trivial | exact fun g=>rfl) ?_)
         exact trivial
        case step11_5 =>
         refine .cons (pR 0 rfl fun _=>⟨rfl,rfl⟩) ?_
         refine .cons (pN 0 49 rfl fun _=>⟨rfl,rfl⟩) ?_
         refine .cons (pF 1 50 8 rfl rfl (fun b q w=>by simp [go_sem]) fun _=>⟨⟨_,_,rfl,rfl⟩,rfl⟩) ?_
         refine StepAll.cons ?_ ?_
         · refine HoldStepB.val (by decide) fun a wx γ hn hr hres hpre Ss hH K hK=>?_
           have e51:a.eval (.tmp 51) = .pointer (some ⟨p,8,none⟩):=hn 2 (by decide) 51 rfl
           exact hold_run (v:=.pointer (some ⟨b,0,none⟩)) (by clear hn hr hK; generalize a.eval = ρ at *; simp [execOp,e51,cell_of_heap (Hd.nthk 1 hH.rear rfl),go_sem]) rfl rfl hH hK
         refine .cons (pR 10 rfl fun _=>⟨rfl,rfl⟩) ?_
         refine StepAll.cons ?_ ?_
         · refine HoldStepB.val (by decide) fun a wx γ hn hr hres hpre Ss hH K hK=>?_
           have e8:a.eval (.tmp 8) = .pointer (some ⟨w.heap.size,0,none⟩):=(hr 8 (by decide)).trans rfl
           exact hold_run (v:=.pointer (some ⟨w.heap.size,2,none⟩)) (by clear hn hr hK; generalize a.eval = ρ at *; simp [execOp,e8,go_sem]) rfl rfl hH hK
         refine StepAll.cons ?_ ?_
         · refine HoldStepB.val (by decide) fun a wx γ hn hr hres hpre Ss hH K hK=>?_
           have e54:a.eval (.tmp 54) = .pointer (some ⟨w.heap.size,2,none⟩):=hn 5 (by decide) 54 rfl
           exact hold_run (v:=.int .i64 sent) (by clear hn hr hK; generalize a.eval = ρ at *; simp [execOp,e54,cell_of_heap (Hd.nthk 0 hH.rear rfl),go_sem]) rfl rfl hH hK
         refine StepAll.cons ?_ ?_
         · refine HoldStepB.val (by decide) fun a wx γ hn hr hres hpre Ss hH K hK=>?_
           have e55:a.eval (.tmp 55) = .int .i64 sent:=hn 6 (by decide) 55 rfl
           exact hold_run (v:=.int .u64 sent) (by clear hn hr hK; generalize a.eval = ρ at *; simp [execOp,e55,zcv,go_sem]) rfl rfl hH hK
         refine .cons (pR 0 rfl fun _=>⟨rfl,rfl⟩) ?_
         refine .cons (pN 8 57 rfl fun _=>⟨rfl,rfl⟩) ?_
         refine .cons (pF 9 58 9 rfl rfl (fun b q w=>by simp [go_sem]) fun _=>⟨⟨_,_,rfl,rfl⟩,rfl⟩) ?_
         refine .cons (pF 10 59 0 rfl rfl (fun b q w=>by simp [go_sem]) fun _=>⟨⟨_,_,rfl,rfl⟩,rfl⟩) ?_
         refine StepAll.cons ?_ ?_
         · refine HoldStepB.val (by decide) fun a wx γ hn hr hres hpre Ss hH K hK=>?_
           have e60:a.eval (.tmp 60) = .pointer (some ⟨p,9,none⟩):=hn 11 (by decide) 60 rfl
           exact hold_run (v:=.int .i64 xh) (by clear hn hr hK; generalize a.eval = ρ at *; simp [execOp,e60,cell_of_heap (Hd.nthk 1 hH.rear rfl),go_sem]) rfl rfl hH hK
         refine .cons (pR 1 rfl fun _=>⟨rfl,rfl⟩) ?_
         refine StepAll.cons ?_ ?_
         · refine HoldStepB.fil 20 (by decide) fun a wx γ hn hr hres hpre Ss hH K hK=>?_
           have e52:a.eval (.tmp 52) = .pointer (some ⟨b,0,none⟩):=hn 3 (by decide) 52 rfl
           have e53:a.eval (.tmp 53) = .int .i64 p1:=hn 4 (by decide) 53 rfl
           have e56:a.eval (.tmp 56) = .int .u64 sent:=hn 7 (by decide) 56 rfl
           have e61:a.eval (.tmp 61) = .int .i64 xh:=hn 12 (by decide) 61 rfl
           have e62:a.eval (.tmp 62) = .string s:=hn 13 (by decide) 62 rfl
           have ef:a.eval (.func 64) = .func (.func 64) #[] #[]:=rfl
           refine hold_callB (b:=20) (f:=64) (args:=#[.pointer (some ⟨b,0,none⟩),.int .i64 p1,.int .u64 sent,.int .i64 xh,.string s]) (by clear hn hr hK hH; generalize a.eval = ρ at *; simp [execOp,e52,e53,e56,e61,e62,cf64,ef,go_sem]) ?_ hK
           refine (text_calls p1 (sent) xh s HSZ.out hH).mono fun e2 w2 h=>?_
           rw [HT.out] at h
           exact ⟨default,h.1,h.2⟩
         refine .cons (pN 14 63 rfl fun _=>⟨rfl,rfl⟩) ?_
         refine .cons (pN 15 48 rfl fun _=>⟨rfl,rfl⟩) ?_
         refine .cons (pN 15 48 rfl fun _=>⟨rfl,rfl⟩) ?_
         refine .cons (pN 16 64 rfl fun _=>⟨rfl,rfl⟩) ?_
         refine .cons (pN 17 65 rfl fun _=>⟨rfl,rfl⟩) ?_
         exact trivial
        case done11_5 =>
         intro f w9 g9 hv h9
         have er11:f 11 = .int .i64 c:=hv 18 11 rfl
         have er9:f 9 = .int .i64 er:=hv 19 9 rfl
         have hd:Hd W w9 (Sto b Lz m::Blk w.heap.size (.cells #[.int .i64 ok,.int .i64 oe,.int .i64 sent] 140 (0,0))::Blk p (.cells #[.int .i64 ok,.int .i64 oe,.int .i64 sent,.int .i64 rc.ik,.int .i64 rc.ie,.int .u64 rc.nx,.int .u64 rc.bt,.slice ad rc.es.length cap,.pointer (some ⟨b,0,none⟩),.int .i64 xh,.int .i64 xs,.int .i64 xr,.int .i64 xv] 148 (0,0))::Rs):=h9
         clear hv h9 cf64
         clear g9
         simp only [patchG,Nat.reduceAdd,Nat.reduceLeDiff,Nat.reduceEqDiff,decide_true,decide_false,Bool.and_true,Bool.and_false,Bool.or_true,Bool.or_false,cond_true,cond_false,er11,er9]
         clear er11 er9
         clear H HT
         have H:=hid hd
         clear hd
         go_wp2_with fail
         refine bodyPost_ret (v:=.tuple #[.int .i64 0,.int .i64 0,.int .i64 0,.int .i64 er]) (by simp [results,Try.results37,go_sem]) rfl ⟨rfl,by first | rfl | trivial,?_⟩
         exact H.out.un2
   · rw [if_neg h3] at hq
     dsimp only at hq
     rw [if_neg h3] at hq
     simp only [Prod.mk.injEq] at hq
     obtain ⟨⟨rfl,rfl,rfl,rfl⟩,rfl,rfl⟩:=hq
     have g1:(p2 != 0) = true:=by rw [bne_iff_ne]; exact h3
     have g2:decide (p2 = 0) = false:=by simpa using h3
     clear h3
     go_enter Try.func37,Try.ntmps37
     have hk:=Hd.nthk 1 H.out rfl
     obtain ⟨g0,g1,g2,g3,g4,g5,g6,g7,g8,g9,g10,g11,g12⟩:=cells13 hk
     have gs:=(Array.getElem?_eq_some_iff.1 hk).1
     clear hk
     go_wp2_with fail
     have HB:=hid (H.out.bxk w.heap.size rfl (o:=.cells #[.int .i64 ok,.int .i64 oe,.int .i64 sent] 140 (0,0)))
     clear H g0 g1 g2 g3 g4 g5 g6 g7 g8 g9 g10 g11 g12 gs
     have H:=HB
     clear HB
     have cf21:∀ args w,(callFunc 21 args).run Try.prog w = .ok (.enter 21 args) w:=fun args w=>by kernel_rfl
     refine hold_coreB (P:=Try.prog) (W:=W) (Rs:=(Blk w.heap.size (.cells #[.int .i64 ok,.int .i64 oe,.int .i64 sent] 140 (0,0))::Blk p (.cells #[.int .i64 ok,.int .i64 oe,.int .i64 sent,.int .i64 rc.ik,.int .i64 rc.ie,.int .u64 rc.nx,.int .u64 rc.bt,.slice ad rc.es.length cap,.pointer (some ⟨b,0,none⟩),.int .i64 xh,.int .i64 xs,.int .i64 xr,.int .i64 xv] 148 (0,0))::Rs)) [[],[0],[],[2],[3],[4],[1,5],[6],[7],[7],[8],[9]] [[],[],[],[],[],[],[],[],[],[],[],[]] ([some 36,some 37,some 38,some 39,some 40,some 41,some 42,some 35,some 43,some 44,some 10,some 9]:List (Option Nat)) ([none,none,none,none,none,none,none,none,none,none,none,none,some 6]:List (Option Nat)) ((fun _=>pt w.heap.size 0)::(fun _=>.agg #[.int .i64 ok,.int .i64 oe])::(fun _=>pt p 0)::(fun _=>pt p 0)::(fun _=>pt p 8)::(fun _=>pt b 0)::(fun _=>.tuple #[.int .i64 p1,.int .i64 p2])::(fun _=>.tuple #[.int .i64 p1,.int .i64 p2])::(fun _=>.int .i64 p1)::(fun _=>.int .i64 p2)::(fun _=>.int .i64 p1)::(fun _=>.int .i64 p2)::[]) (zR::zR::zR::zR::zR::zR::zR::zR::zR::zR::zR::zR::(fun _=>[Sto b L m])::([]:List (List Gh → List Res))) (zR::zR::zR::zR::zR::zR::zR::zR::zR::zR::zR::zR::(fun _=>[Sto b Ly m])::([]:List (List Gh → List Res))) (by kernel_rfl) rfl (hold_lt (n:=84) (by decide)) H.out rfl (by decide) (hold_nil (fs:=[6]) trivial rfl ?nil8_6) ?gd8_6 ?step8_6 (fun t=>(decide (9 ≤ t) && decide (t ≤ 10)) || (decide (35 ≤ t) && decide (t ≤ 44))) (by decide) ?done8_6 (fun I h0 st dn=>run_wpB mixed I h0 st dn)
     case nil8_6 =>
      intro s gs hs
      simp only [List.mem_cons,List.not_mem_nil,or_false] at hs
      subst hs; rfl
     case gd8_6 =>
      repeat (refine StepAll.cons (by first | exact trivial | exact fun g=>rfl) ?_)
      exact trivial
     case step8_6 =>
      refine StepAll.cons ?_ ?_
      · refine HoldStepB.val (by decide) fun a wx γ hn hr hres hpre Ss hH K hK=>?_
        have e8:a.eval (.tmp 8) = .pointer (some ⟨w.heap.size,0,none⟩):=(hr 8 (by decide)).trans rfl
        exact hold_run (v:=.pointer (some ⟨w.heap.size,0,none⟩)) (by clear hn hr hK; generalize a.eval = ρ at *; simp [execOp,e8,go_sem]) rfl rfl hH hK
      refine StepAll.cons ?_ ?_
      · refine HoldStepB.val (by decide) fun a wx γ hn hr hres hpre Ss hH K hK=>?_
        have e36:a.eval (.tmp 36) = .pointer (some ⟨w.heap.size,0,none⟩):=hn 0 (by decide) 36 rfl
        exact hold_run (v:=.agg #[.int .i64 ok,.int .i64 oe]) (by clear hn hr hK; generalize a.eval = ρ at *; simp [execOp,e36,cell_of_heap (Hd.nthk 0 hH.rear rfl),go_sem]) rfl rfl hH hK
      refine .cons (pR 0 rfl fun _=>⟨rfl,rfl⟩) ?_
      refine .cons (pN 2 38 rfl fun _=>⟨rfl,rfl⟩) ?_
      refine .cons (pF 3 39 8 rfl rfl (fun b q w=>by simp [go_sem]) fun _=>⟨⟨_,_,rfl,rfl⟩,rfl⟩) ?_
      refine StepAll.cons ?_ ?_
      · refine HoldStepB.val (by decide) fun a wx γ hn hr hres hpre Ss hH K hK=>?_
        have e40:a.eval (.tmp 40) = .pointer (some ⟨p,8,none⟩):=hn 4 (by decide) 40 rfl
        exact hold_run (v:=.pointer (some ⟨b,0,none⟩)) (by clear hn hr hK; generalize a.eval = ρ at *; simp [execOp,e40,cell_of_heap (Hd.nthk 1 hH.rear rfl),go_sem]) rfl rfl hH hK
      refine StepAll.cons ?_ ?_
      · refine HoldStepB.fil 12 (by decide) fun a wx γ hn hr hres hpre Ss hH K hK=>?_
        have e37:a.eval (.tmp 37) = .agg #[.int .i64 ok,.int .i64 oe]:=hn 1 (by decide) 37 rfl
        have e41:a.eval (.tmp 41) = .pointer (some ⟨b,0,none⟩):=hn 5 (by decide) 41 rfl
        have ef:a.eval (.func 21) = .func (.func 21) #[] #[]:=rfl
        refine hold_callB (b:=12) (f:=21) (args:=#[.agg #[.int .i64 ok,.int .i64 oe],.pointer (some ⟨b,0,none⟩)]) (by clear hn hr hK hH; generalize a.eval = ρ at *; simp [execOp,e37,e41,cf21,ef,go_sem]) ?_ hK
        exact (seal15_calls ok oe HP.out hH).mono fun e2 w2 h=>⟨default,h.1,h.2⟩
      refine .cons (pN 6 42 rfl fun _=>⟨rfl,rfl⟩) ?_
      refine .cons (pN 7 35 rfl fun _=>⟨rfl,rfl⟩) ?_
      refine .cons (pN 7 35 rfl fun _=>⟨rfl,rfl⟩) ?_
      refine .cons (pN 8 43 rfl fun _=>⟨rfl,rfl⟩) ?_
      refine .cons (pN 9 44 rfl fun _=>⟨rfl,rfl⟩) ?_
      exact trivial
     case done8_6 =>
      intro f w9 g9 hv h9
      have er10:f 10 = .int .i64 p1:=hv 10 10 rfl
      have er9:f 9 = .int .i64 p2:=hv 11 9 rfl
      have hd:Hd W w9 (Sto b Ly m::Blk w.heap.size (.cells #[.int .i64 ok,.int .i64 oe,.int .i64 sent] 140 (0,0))::Blk p (.cells #[.int .i64 ok,.int .i64 oe,.int .i64 sent,.int .i64 rc.ik,.int .i64 rc.ie,.int .u64 rc.nx,.int .u64 rc.bt,.slice ad rc.es.length cap,.pointer (some ⟨b,0,none⟩),.int .i64 xh,.int .i64 xs,.int .i64 xr,.int .i64 xv] 148 (0,0))::Rs):=h9
      clear hv h9 cf21
      clear g9
      simp only [patchG,Nat.reduceAdd,Nat.reduceLeDiff,decide_true,decide_false,Bool.and_true,Bool.and_false,Bool.or_true,Bool.or_false,cond_true,cond_false,er10,er9]
      clear er10 er9
      clear H HP
      have H:=hid hd
      clear hd
      go_wp2_with fail
      refine bodyPost_ret (v:=.tuple #[.int .i64 0,.int .i64 0,.int .i64 0,.int .i64 p2]) (by simp [results,Try.results37,go_sem]) rfl ⟨rfl,by first | rfl | trivial,?_⟩
      exact H.out.un2
end
end Go.Proofs.Ytpcfmafokkffgaa
