/-
  Walks and laws that the proof stands on, one behind another: RSessA. For every input.
-/
import Derived.Test.YtpcfmafokkffgaaD7
import Derived.Test.YtpcfmafokkffgaaD11
import Derived.Test.YtpcfmafokkffgaaD3
namespace Go.Proofs.Ytpcfmafokkffgaa
open Go.RowKit

/-- One side of a session in memory, the document's. -/
def rsO (b:Nat) (x:Se) (v:Value):Obj:=.cells #[.pointer (some ⟨b,0,none⟩),.int .i64 x.h,.int .i64 x.s,.int .i64 x.r,.int .i64 x.v,.int .i64 x.ok,.int .i64 x.oe,.int .i64 x.sent,.int .i64 x.rc.ik,.int .i64 x.rc.ie,.int .u64 x.rc.nx,.int .u64 x.rc.bt,v] 94 (0,0)

section
variable {W w:World} {Rs:List Res} {b p:Nat} {L L2:List T} {m:Int}
set_option maxRecDepth 100000 in
set_option maxHeartbeats 8000000 in
theorem rstep19_calls {x x':Se} {er:Int} {ad:Option Addr} {cap:Nat} (hq:step19 m L x = (er,x',L2)) (h:Hd W w (RSto b L m::Blk p (rsO b x (.slice ad x.rc.es.length cap))::Rs)) :
 Calls Try.prog 40 #[.pointer (some ⟨p,0,none⟩)] w fun e' w'=>e' = .returned (.int .i64 er) ∧ x'.rc = x.rc ∧ Hd W w' (RSto b L2 m::Blk p (rsO b x' (.slice ad x.rc.es.length cap))::Rs):=by
 have mixed:Try.prog.follows .mixedOrders = true:=by kernel_rfl
 obtain ⟨ok,oe,sent,rc,xh,xs,xr,xv⟩:=x
 unfold step19 at hq
 dsimp only at hq h ⊢
 obtain ⟨⟨dk,de⟩,r2,L3,hn⟩:∃ d r2 L3,next15 m L ok oe = (d,r2,L3):=⟨_,_,_,rfl⟩
 rw [hn] at hq
 have HN:=hid hn
 clear hn
 have H:=hid h
 clear h
 by_cases h2:r2 = 0
 · subst h2
   rw [if_pos rfl] at hq
   simp only [Prod.mk.injEq] at hq
   obtain ⟨rfl,rfl,rfl⟩:=hq
   go_enter Try.func40,Try.ntmps40
   go_wp2_with fail
   have cf29:∀ args w,(callFunc 29 args).run Try.prog w = .ok (.enter 29 args) w:=fun args w=>by kernel_rfl
   refine hold_coreB (P:=Try.prog) (W:=W) (Rs:=(Blk p (.cells #[.pointer (some ⟨b,0,none⟩),.int .i64 xh,.int .i64 xs,.int .i64 xr,.int .i64 xv,.int .i64 ok,.int .i64 oe,.int .i64 sent,.int .i64 rc.ik,.int .i64 rc.ie,.int .u64 rc.nx,.int .u64 rc.bt,.slice ad rc.es.length cap] 94 (0,0))::Rs)) [[],[0],[1],[2],[],[4],[5],[6],[3,7],[8],[9],[9],[],[10,12],[11]] [[],[],[],[],[],[],[],[],[],[],[],[],[12],[12],[]] ([some 6,some 7,some 8,some 9,some 10,some 11,some 12,some 13,some 14,some 5,some 15,some 16,some 3,none,some 4]:List (Option Nat)) ([none,none,none,none,none,none,none,none,none,none,none,none,some 13,none,none,some 8]:List (Option Nat)) ((fun _=>pt p 0)::(fun _=>pt p 0)::(fun _=>pt p 0)::(fun _=>pt b 0)::(fun _=>pt p 0)::(fun _=>pt p 0)::(fun _=>pt p 5)::(fun _=>.agg #[.int .i64 ok,.int .i64 oe])::(fun _=>.tuple #[.agg #[.int .i64 dk,.int .i64 de],.int .i64 0])::(fun _=>.tuple #[.agg #[.int .i64 dk,.int .i64 de],.int .i64 0])::(fun _=>.agg #[.int .i64 dk,.int .i64 de])::(fun _=>.int .i64 0)::(fun gs=>pt ((gs.getD 0 default).2) 0)::(fun _=>undef)::(fun _=>.int .i64 0)::[]) (zR::zR::zR::zR::zR::zR::zR::zR::zR::zR::zR::zR::(fun gs=>[Blk (gs.getD 0 default).2 (.cells #[.int .i64 0,.int .i64 0] 57 (0,0))])::zR::zR::(fun _=>[RSto b L m])::([]:List (List Gh → List Res))) (zR::zR::zR::zR::zR::zR::zR::zR::zR::zR::zR::zR::(fun gs=>[Blk (gs.getD 0 default).2 (.cells #[.int .i64 dk,.int .i64 de] 57 (0,0))])::zR::zR::(fun _=>[RSto b L3 m])::([]:List (List Gh → List Res))) (by kernel_rfl) rfl (hold_lt (n:=27) (by decide)) H.out rfl (by decide) (hold_nil (fs:=[13,8]) trivial rfl ?nil1ok) ?gd1ok ?step1ok (fun t=>(decide (3 ≤ t) && decide (t ≤ 16))) (by decide) ?done1ok (fun I h0 st dn=>run_wpB mixed I h0 st dn)
   case nil1ok =>
    intro s gs hs
    simp only [List.mem_cons,List.not_mem_nil,or_false] at hs
    rcases hs with rfl | rfl <;> rfl
   case gd1ok =>
    repeat (refine StepAll.cons (by first | exact trivial | exact fun g=>rfl) ?_)
    exact trivial
   case step1ok =>
    refine .cons (pR 0 rfl fun _=>⟨rfl,rfl⟩) ?_
    refine .cons (pN 0 6 rfl fun _=>⟨rfl,rfl⟩) ?_
    refine .cons (pF 1 7 0 rfl rfl (fun b q w=>by simp [go_sem]) fun _=>⟨⟨_,_,rfl,rfl⟩,rfl⟩) ?_
    refine StepAll.cons ?_ ?_
    · refine HoldStepB.val (by decide) fun a wx γ hn hr hres hpre Ss hH K hK=>?_
      have e8:a.eval (.tmp 8) = .pointer (some ⟨p,0,none⟩):=hn 2 (by decide) 8 rfl
      exact hold_run (v:=.pointer (some ⟨b,0,none⟩)) (by clear hn hr hK; generalize a.eval = ρ at *; simp [execOp,e8,cell_of_heap (Hd.nthk 0 hH.rear rfl),go_sem]) rfl rfl hH hK
    refine .cons (pR 0 rfl fun _=>⟨rfl,rfl⟩) ?_
    refine .cons (pN 4 10 rfl fun _=>⟨rfl,rfl⟩) ?_
    refine .cons (pF 5 11 5 rfl rfl (fun b q w=>by simp [go_sem]) fun _=>⟨⟨_,_,rfl,rfl⟩,rfl⟩) ?_
    refine StepAll.cons ?_ ?_
    · refine HoldStepB.val (by decide) fun a wx γ hn hr hres hpre Ss hH K hK=>?_
      have e12:a.eval (.tmp 12) = .pointer (some ⟨p,5,none⟩):=hn 6 (by decide) 12 rfl
      exact hold_run (v:=.agg #[.int .i64 ok,.int .i64 oe]) (by clear hn hr hK; generalize a.eval = ρ at *; simp [execOp,e12,cell_of_heap (Hd.nthk 0 hH.rear rfl),go_sem]) rfl rfl hH hK
    refine StepAll.cons ?_ ?_
    · refine HoldStepB.fil 15 (by decide) fun a wx γ hn hr hres hpre Ss hH K hK=>?_
      have e9:a.eval (.tmp 9) = .pointer (some ⟨b,0,none⟩):=hn 3 (by decide) 9 rfl
      have e13:a.eval (.tmp 13) = .agg #[.int .i64 ok,.int .i64 oe]:=hn 7 (by decide) 13 rfl
      have ef:a.eval (.func 29) = .func (.func 29) #[] #[]:=rfl
      refine hold_callB (b:=15) (f:=29) (args:=#[.pointer (some ⟨b,0,none⟩),.agg #[.int .i64 ok,.int .i64 oe]]) (by clear hn hr hK hH; generalize a.eval = ρ at *; simp [execOp,e9,e13,cf29,ef,go_sem]) ?_ hK
      exact (rnext15_calls ok oe HN.out hH).mono fun e2 w2 h=>⟨default,h.1,h.2⟩
    refine .cons (pN 8 14 rfl fun _=>⟨rfl,rfl⟩) ?_
    refine .cons (pN 9 5 rfl fun _=>⟨rfl,rfl⟩) ?_
    refine .cons (pN 9 5 rfl fun _=>⟨rfl,rfl⟩) ?_
    refine StepAll.cons ?_ ?_
    · refine HoldStepB.val (by decide) fun a wx γ hn hr hres hpre Ss hH K hK=>?_
      exact hold_new (obj:=.cells #[.int .i64 0,.int .i64 0] 57 (0,0)) (v:=.pointer (some ⟨wx.heap.size,0,none⟩)) (by clear hn hr hK; generalize a.eval = ρ at *; simp [execOp,go_sem]) rfl rfl hH hK
    refine StepAll.cons ?_ ?_
    · refine HoldStepB.fil 12 (by decide) fun a wx γ hn hr hres hpre Ss hH K hK=>?_
      have e3:a.eval (.tmp 3) = .pointer (some ⟨(γ 12).2,0,none⟩):=hn 12 (by decide) 3 rfl
      have e15:a.eval (.tmp 15) = .agg #[.int .i64 dk,.int .i64 de]:=hn 10 (by decide) 15 rfl
      have hH2:Hd W wx (Blk (γ 12).2 (.cells #[.int .i64 0,.int .i64 0] 57 (0,0))::(Ss ++ (Blk p (.cells #[.pointer (some ⟨b,0,none⟩),.int .i64 xh,.int .i64 xs,.int .i64 xr,.int .i64 xv,.int .i64 ok,.int .i64 oe,.int .i64 sent,.int .i64 rc.ik,.int .i64 rc.ie,.int .u64 rc.nx,.int .u64 rc.bt,.slice ad rc.es.length cap] 94 (0,0))::Rs))):=hH
      have hk:=hH2.blk
      have c0:=(cell_of_heap hk 0).trans (show _ = some (.int .i64 0) from rfl)
      have c1:=(cell_of_heap hk 1).trans (show _ = some (.int .i64 0) from rfl)
      have cf:=frozen_of_heap hk
      clear hk hH
      exact hold_filB (w':=((wx.setCell ⟨(γ 12).2,0,none⟩ (.int .i64 dk)).setCell ⟨(γ 12).2,1,none⟩ (.int .i64 de))) (by clear hn hr hK hH2; generalize a.eval = ρ at *; simp [execOp,e3,e15,c0,c1,cf,go_sem]) rfl rfl ((hH2.set 0 (.int .i64 dk)).set 1 (.int .i64 de)) hK
    refine .cons (pN 11 16 rfl fun _=>⟨rfl,rfl⟩) ?_
    exact trivial
   case done1ok =>
    intro f w9 g9 hv h9
    have er3:f 3 = .pointer (some ⟨(g9 12).2,0,none⟩):=hv 12 3 rfl
    have er4:f 4 = .int .i64 0:=hv 14 4 rfl
    have hd:Hd W w9 (Blk (g9 12).2 (.cells #[.int .i64 dk,.int .i64 de] 57 (0,0))::RSto b L3 m::Blk p (.cells #[.pointer (some ⟨b,0,none⟩),.int .i64 xh,.int .i64 xs,.int .i64 xr,.int .i64 xv,.int .i64 ok,.int .i64 oe,.int .i64 sent,.int .i64 rc.ik,.int .i64 rc.ie,.int .u64 rc.nx,.int .u64 rc.bt,.slice ad rc.es.length cap] 94 (0,0))::Rs):=h9
    obtain ⟨⟨_,p3⟩,hG12⟩:∃ x,g9 12 = x:=⟨_,rfl⟩
    simp only [hG12] at hd er3 er4
    clear hv h9 hG12 cf29
    clear g9
    simp only [patchG,Nat.reduceAdd,Nat.reduceLeDiff,decide_true,decide_false,Bool.and_true,Bool.and_false,cond_true,cond_false,er3,er4]
    clear er3 er4
    clear H
    have H:=hid hd
    clear hd
    have hk:=Hd.nthk 0 H.out rfl
    have c0:=(cell_of_heap hk 0).trans (show _ = some (.int .i64 dk) from rfl)
    have c1:=(cell_of_heap hk 1).trans (show _ = some (.int .i64 de) from rfl)
    have cs:=(Array.getElem?_eq_some_iff.1 hk).1
    clear hk
    have hk:=Hd.nthk 2 H.out rfl
    obtain ⟨g0,g1,g2,g3,g4,g5,g6,g7,g8,g9,g10,g11,g12⟩:=cells13 hk
    have gs:=(Array.getElem?_eq_some_iff.1 hk).1
    have gf:=frozen_of_heap hk
    clear hk
    go_wp2_with fail
    refine bodyPost_ret (v:=.int .i64 0) (by simp [results,Try.results40,go_sem]) rfl ⟨rfl,by first | rfl | trivial,?_⟩
    exact (((((((((H.out.front 1 rfl).front 1 rfl).front 2 rfl).set 5 (.int .i64 dk)).set 6 (.int .i64 de)).set 7 (.int .i64 0)).front 2 rfl).front 2 rfl)).drop
 · rw [if_neg h2] at hq
   simp only [Prod.mk.injEq] at hq
   obtain ⟨rfl,rfl,rfl⟩:=hq
   have g1:(r2 != 0) = true:=by rw [bne_iff_ne]; exact h2
   have g2:decide (r2 = 0) = false:=by simpa using h2
   clear h2
   go_enter Try.func40,Try.ntmps40
   go_wp2_with fail
   have cf29:∀ args w,(callFunc 29 args).run Try.prog w = .ok (.enter 29 args) w:=fun args w=>by kernel_rfl
   refine hold_coreB (P:=Try.prog) (W:=W) (Rs:=(Blk p (.cells #[.pointer (some ⟨b,0,none⟩),.int .i64 xh,.int .i64 xs,.int .i64 xr,.int .i64 xv,.int .i64 ok,.int .i64 oe,.int .i64 sent,.int .i64 rc.ik,.int .i64 rc.ie,.int .u64 rc.nx,.int .u64 rc.bt,.slice ad rc.es.length cap] 94 (0,0))::Rs)) [[],[0],[1],[2],[],[4],[5],[6],[3,7],[8],[9],[9],[],[10,12],[11]] [[],[],[],[],[],[],[],[],[],[],[],[],[12],[12],[]] ([some 6,some 7,some 8,some 9,some 10,some 11,some 12,some 13,some 14,some 5,some 15,some 16,some 3,none,some 4]:List (Option Nat)) ([none,none,none,none,none,none,none,none,none,none,none,none,some 13,none,none,some 8]:List (Option Nat)) ((fun _=>pt p 0)::(fun _=>pt p 0)::(fun _=>pt p 0)::(fun _=>pt b 0)::(fun _=>pt p 0)::(fun _=>pt p 0)::(fun _=>pt p 5)::(fun _=>.agg #[.int .i64 ok,.int .i64 oe])::(fun _=>.tuple #[.agg #[.int .i64 dk,.int .i64 de],.int .i64 r2])::(fun _=>.tuple #[.agg #[.int .i64 dk,.int .i64 de],.int .i64 r2])::(fun _=>.agg #[.int .i64 dk,.int .i64 de])::(fun _=>.int .i64 r2)::(fun gs=>pt ((gs.getD 0 default).2) 0)::(fun _=>undef)::(fun _=>.int .i64 r2)::[]) (zR::zR::zR::zR::zR::zR::zR::zR::zR::zR::zR::zR::(fun gs=>[Blk (gs.getD 0 default).2 (.cells #[.int .i64 0,.int .i64 0] 57 (0,0))])::zR::zR::(fun _=>[RSto b L m])::([]:List (List Gh → List Res))) (zR::zR::zR::zR::zR::zR::zR::zR::zR::zR::zR::zR::(fun gs=>[Blk (gs.getD 0 default).2 (.cells #[.int .i64 dk,.int .i64 de] 57 (0,0))])::zR::zR::(fun _=>[RSto b L3 m])::([]:List (List Gh → List Res))) (by kernel_rfl) rfl (hold_lt (n:=27) (by decide)) H.out rfl (by decide) (hold_nil (fs:=[13,8]) trivial rfl ?nil1err) ?gd1err ?step1err (fun t=>(decide (3 ≤ t) && decide (t ≤ 16))) (by decide) ?done1err (fun I h0 st dn=>run_wpB mixed I h0 st dn)
   case nil1err =>
    intro s gs hs
    simp only [List.mem_cons,List.not_mem_nil,or_false] at hs
    rcases hs with rfl | rfl <;> rfl
   case gd1err =>
    repeat (refine StepAll.cons (by first | exact trivial | exact fun g=>rfl) ?_)
    exact trivial
   case step1err =>
    refine .cons (pR 0 rfl fun _=>⟨rfl,rfl⟩) ?_
    refine .cons (pN 0 6 rfl fun _=>⟨rfl,rfl⟩) ?_
    refine .cons (pF 1 7 0 rfl rfl (fun b q w=>by simp [go_sem]) fun _=>⟨⟨_,_,rfl,rfl⟩,rfl⟩) ?_
    refine StepAll.cons ?_ ?_
    · refine HoldStepB.val (by decide) fun a wx γ hn hr hres hpre Ss hH K hK=>?_
      have e8:a.eval (.tmp 8) = .pointer (some ⟨p,0,none⟩):=hn 2 (by decide) 8 rfl
      exact hold_run (v:=.pointer (some ⟨b,0,none⟩)) (by clear hn hr hK; generalize a.eval = ρ at *; simp [execOp,e8,cell_of_heap (Hd.nthk 0 hH.rear rfl),go_sem]) rfl rfl hH hK
    refine .cons (pR 0 rfl fun _=>⟨rfl,rfl⟩) ?_
    refine .cons (pN 4 10 rfl fun _=>⟨rfl,rfl⟩) ?_
    refine .cons (pF 5 11 5 rfl rfl (fun b q w=>by simp [go_sem]) fun _=>⟨⟨_,_,rfl,rfl⟩,rfl⟩) ?_
    refine StepAll.cons ?_ ?_
    · refine HoldStepB.val (by decide) fun a wx γ hn hr hres hpre Ss hH K hK=>?_
      have e12:a.eval (.tmp 12) = .pointer (some ⟨p,5,none⟩):=hn 6 (by decide) 12 rfl
      exact hold_run (v:=.agg #[.int .i64 ok,.int .i64 oe]) (by clear hn hr hK; generalize a.eval = ρ at *; simp [execOp,e12,cell_of_heap (Hd.nthk 0 hH.rear rfl),go_sem]) rfl rfl hH hK
    refine StepAll.cons ?_ ?_
    · refine HoldStepB.fil 15 (by decide) fun a wx γ hn hr hres hpre Ss hH K hK=>?_
      have e9:a.eval (.tmp 9) = .pointer (some ⟨b,0,none⟩):=hn 3 (by decide) 9 rfl
      have e13:a.eval (.tmp 13) = .agg #[.int .i64 ok,.int .i64 oe]:=hn 7 (by decide) 13 rfl
      have ef:a.eval (.func 29) = .func (.func 29) #[] #[]:=rfl
      refine hold_callB (b:=15) (f:=29) (args:=#[.pointer (some ⟨b,0,none⟩),.agg #[.int .i64 ok,.int .i64 oe]]) (by clear hn hr hK hH; generalize a.eval = ρ at *; simp [execOp,e9,e13,cf29,ef,go_sem]) ?_ hK
      exact (rnext15_calls ok oe HN.out hH).mono fun e2 w2 h=>⟨default,h.1,h.2⟩
    refine .cons (pN 8 14 rfl fun _=>⟨rfl,rfl⟩) ?_
    refine .cons (pN 9 5 rfl fun _=>⟨rfl,rfl⟩) ?_
    refine .cons (pN 9 5 rfl fun _=>⟨rfl,rfl⟩) ?_
    refine StepAll.cons ?_ ?_
    · refine HoldStepB.val (by decide) fun a wx γ hn hr hres hpre Ss hH K hK=>?_
      exact hold_new (obj:=.cells #[.int .i64 0,.int .i64 0] 57 (0,0)) (v:=.pointer (some ⟨wx.heap.size,0,none⟩)) (by clear hn hr hK; generalize a.eval = ρ at *; simp [execOp,go_sem]) rfl rfl hH hK
    refine StepAll.cons ?_ ?_
    · refine HoldStepB.fil 12 (by decide) fun a wx γ hn hr hres hpre Ss hH K hK=>?_
      have e3:a.eval (.tmp 3) = .pointer (some ⟨(γ 12).2,0,none⟩):=hn 12 (by decide) 3 rfl
      have e15:a.eval (.tmp 15) = .agg #[.int .i64 dk,.int .i64 de]:=hn 10 (by decide) 15 rfl
      have hH2:Hd W wx (Blk (γ 12).2 (.cells #[.int .i64 0,.int .i64 0] 57 (0,0))::(Ss ++ (Blk p (.cells #[.pointer (some ⟨b,0,none⟩),.int .i64 xh,.int .i64 xs,.int .i64 xr,.int .i64 xv,.int .i64 ok,.int .i64 oe,.int .i64 sent,.int .i64 rc.ik,.int .i64 rc.ie,.int .u64 rc.nx,.int .u64 rc.bt,.slice ad rc.es.length cap] 94 (0,0))::Rs))):=hH
      have hk:=hH2.blk
      have c0:=(cell_of_heap hk 0).trans (show _ = some (.int .i64 0) from rfl)
      have c1:=(cell_of_heap hk 1).trans (show _ = some (.int .i64 0) from rfl)
      have cf:=frozen_of_heap hk
      clear hk hH
      exact hold_filB (w':=((wx.setCell ⟨(γ 12).2,0,none⟩ (.int .i64 dk)).setCell ⟨(γ 12).2,1,none⟩ (.int .i64 de))) (by clear hn hr hK hH2; generalize a.eval = ρ at *; simp [execOp,e3,e15,c0,c1,cf,go_sem]) rfl rfl ((hH2.set 0 (.int .i64 dk)).set 1 (.int .i64 de)) hK
    refine .cons (pN 11 16 rfl fun _=>⟨rfl,rfl⟩) ?_
    exact trivial
   case done1err =>
    intro f w9 g9 hv h9
    have er3:f 3 = .pointer (some ⟨(g9 12).2,0,none⟩):=hv 12 3 rfl
    have er4:f 4 = .int .i64 r2:=hv 14 4 rfl
    have hd:Hd W w9 (Blk (g9 12).2 (.cells #[.int .i64 dk,.int .i64 de] 57 (0,0))::RSto b L3 m::Blk p (.cells #[.pointer (some ⟨b,0,none⟩),.int .i64 xh,.int .i64 xs,.int .i64 xr,.int .i64 xv,.int .i64 ok,.int .i64 oe,.int .i64 sent,.int .i64 rc.ik,.int .i64 rc.ie,.int .u64 rc.nx,.int .u64 rc.bt,.slice ad rc.es.length cap] 94 (0,0))::Rs):=h9
    obtain ⟨⟨_,p3⟩,hG12⟩:∃ x,g9 12 = x:=⟨_,rfl⟩
    simp only [hG12] at hd er3 er4
    clear hv h9 hG12 cf29
    clear g9
    simp only [patchG,Nat.reduceAdd,Nat.reduceLeDiff,decide_true,decide_false,Bool.and_true,Bool.and_false,cond_true,cond_false,er3,er4]
    clear er3 er4
    clear H
    have H:=hid hd
    clear hd
    have hk:=Hd.nthk 0 H.out rfl
    have c0:=(cell_of_heap hk 0).trans (show _ = some (.int .i64 dk) from rfl)
    have c1:=(cell_of_heap hk 1).trans (show _ = some (.int .i64 de) from rfl)
    have cs:=(Array.getElem?_eq_some_iff.1 hk).1
    clear hk
    have hk:=Hd.nthk 2 H.out rfl
    obtain ⟨g0,g1,g2,g3,g4,g5,g6,g7,g8,g9,g10,g11,g12⟩:=cells13 hk
    have gs:=(Array.getElem?_eq_some_iff.1 hk).1
    have gf:=frozen_of_heap hk
    clear hk
    go_wp2_with fail
    refine bodyPost_ret (v:=.int .i64 r2) (by simp [results,Try.results40,go_sem]) rfl ⟨rfl,by first | rfl | trivial,?_⟩
    exact H.out.drop

set_option maxRecDepth 100000 in
set_option maxHeartbeats 16000000 in
theorem rseal19_calls {x x':Se} {s:ByteArray} {r1 r3 r4 r5:Int} {ad:Option Addr} {cap:Nat} (hx:SeOk x) (hs:s.size ≤ maxLen) (hq:seal19 m L x s = ((r1,r3,r4,r5),x',L2)) (h:Hd W w (RSto b L m::Blk p (rsO b x (.slice ad x.rc.es.length cap))::Rs)) :
 Calls Try.prog 38 #[.pointer (some ⟨p,0,none⟩),.string s] w fun e' w'=>e' = .returned (.tuple #[.int .i64 r1,.int .i64 r3,.int .i64 r4,.int .i64 r5]) ∧ x'.rc = x.rc ∧ Hd W w' (RSto b L2 m::Blk p (rsO b x' (.slice ad x.rc.es.length cap))::Rs):=by
 have mixed:Try.prog.follows .mixedOrders = true:=by kernel_rfl
 have hs0:=hx.s0
 have hs1:=hx.s1
 have HSZ:=hid hs
 obtain ⟨ok,oe,sent,rc,xh,xs,xr,xv⟩:=x
 unfold seal19 at hq
 dsimp only at hq h hs0 hs1 ⊢
 have H:=hid h
 clear h hx
 by_cases hA:1000 < (s.size:Int)
 · have d1:decide (1000 < (s.size:Int)) = true:=by simpa using hA
   have d1':decide (1000 < s.size) = true:=by simp; omega
   rw [if_pos hA] at hq
   simp only [Prod.mk.injEq] at hq
   obtain ⟨⟨rfl,rfl,rfl,rfl⟩,rfl,rfl⟩:=hq
   clear hA
   go_enter Try.func38,Try.ntmps38
   go_wp2_with fail
   refine bodyPost_ret (v:=.tuple #[.int .i64 0,.int .i64 0,.int .i64 0,.int .i64 1]) (by simp [results,Try.results38,go_sem]) rfl ⟨rfl,by first | rfl | trivial,?_⟩
   exact H.out
 have d1:decide (1000 < (s.size:Int)) = false:=by simpa using hA
 have d1':decide (1000 < s.size) = false:=by simp; omega
 rw [if_neg hA] at hq
 clear hA hs
 by_cases hB:256 ≤ sent
 · have d2:decide (256 ≤ sent) = true:=by simpa using hB
   rw [if_pos hB] at hq
   clear hB
   obtain ⟨⟨dk,de⟩,r2,Lx,hn⟩:∃ d r2 L3,next15 m L ok oe = (d,r2,L3):=⟨_,_,_,rfl⟩
   rw [hn] at hq
   dsimp only at hq
   have HN:=hid hn
   clear hn
   by_cases h2:r2 = 0
   · subst h2
     rw [if_pos rfl] at hq
     have zcv:IntKind.u64.wrap 0 = 0:=by decide
     have z2:IntKind.i64.wrap ((0:Int) + 1) = 1:=by decide
     obtain ⟨p1,p2,Ly,hp⟩:∃ p1 p2 Ly,put m Lx (keyT dk 1) = (p1,p2,Ly):=⟨_,_,_,rfl⟩
     unfold sealW at hq
     rw [hp] at hq
     dsimp only at hq
     have HP:=hid hp
     clear hp
     by_cases h3:p2 = 0
     · subst h3
       rw [if_pos rfl] at hq
       obtain ⟨c,er,Lz,ht⟩:∃ c er Lz,text5 m Ly p1 0 xh s = (c,er,Lz):=⟨_,_,_,rfl⟩
       rw [ht] at hq
       dsimp only at hq
       have HT:=hid ht
       clear ht
       by_cases h4:er = 0
       · subst h4
         rw [if_pos rfl] at hq
         simp only [Prod.mk.injEq] at hq
         obtain ⟨⟨rfl,rfl,rfl,rfl⟩,rfl,rfl⟩:=hq
         go_enter Try.func38,Try.ntmps38
         go_wp2_with fail
         refine hold_coreB (P:=Try.prog) (W:=W) (Rs:=(RSto b L m::Blk p (.cells #[.pointer (some ⟨b,0,none⟩),.int .i64 xh,.int .i64 xs,.int .i64 xr,.int .i64 xv,.int .i64 ok,.int .i64 oe,.int .i64 sent,.int .i64 rc.ik,.int .i64 rc.ie,.int .u64 rc.nx,.int .u64 rc.bt,.slice ad rc.es.length cap] 94 (0,0))::Rs)) [[],[0],[1],[2],[],[4],[5],[6],[],[3,8],[7]] [[],[],[],[],[],[],[],[],[8],[8],[]] ([some 19,some 20,some 21,some 22,some 23,some 24,some 25,some 26,some 8,none,some 9]:List (Option Nat)) ([none,none,none,none,none,none,none,none,some 9,none,none]:List (Option Nat)) ((fun _=>pt p 0)::(fun _=>pt p 0)::(fun _=>pt p 5)::(fun _=>.agg #[.int .i64 ok,.int .i64 oe])::(fun _=>pt p 0)::(fun _=>pt p 0)::(fun _=>pt p 7)::(fun _=>.int .i64 sent)::(fun gs=>pt ((gs.getD 0 default).2) 0)::(fun _=>undef)::(fun _=>.int .i64 sent)::[]) (zR::zR::zR::zR::zR::zR::zR::zR::(fun gs=>[Blk (gs.getD 0 default).2 (.cells #[.int .i64 0,.int .i64 0] 57 (0,0))])::zR::zR::([]:List (List Gh → List Res))) (zR::zR::zR::zR::zR::zR::zR::zR::(fun gs=>[Blk (gs.getD 0 default).2 (.cells #[.int .i64 ok,.int .i64 oe] 57 (0,0))])::zR::zR::([]:List (List Gh → List Res))) (by kernel_rfl) rfl (hold_lt (n:=87) (by decide)) H.out rfl (by decide) (hold_nil (fs:=[9]) trivial rfl ?nil3_1) ?gd3_1 ?step3_1 (fun t=>(decide (8 ≤ t) && decide (t ≤ 9)) || (decide (19 ≤ t) && decide (t ≤ 26))) (by decide) ?done3_1 (fun I h0 st dn=>run_wpB mixed I h0 st dn)
         case nil3_1 =>
          intro s gs hs
          simp only [List.mem_cons,List.not_mem_nil,or_false] at hs
          subst hs; rfl
         case gd3_1 =>
          repeat (refine StepAll.cons (by first | exact trivial | exact fun g=>rfl) ?_)
          exact trivial
         case step3_1 =>
          refine .cons (pR 0 rfl fun _=>⟨rfl,rfl⟩) ?_
          refine .cons (pN 0 19 rfl fun _=>⟨rfl,rfl⟩) ?_
          refine .cons (pF 1 20 5 rfl rfl (fun b q w=>by simp [go_sem]) fun _=>⟨⟨_,_,rfl,rfl⟩,rfl⟩) ?_
          refine StepAll.cons ?_ ?_
          · refine HoldStepB.val (by decide) fun a wx γ hn hr hres hpre Ss hH K hK=>?_
            have e21:a.eval (.tmp 21) = .pointer (some ⟨p,5,none⟩):=hn 2 (by decide) 21 rfl
            exact hold_run (v:=.agg #[.int .i64 ok,.int .i64 oe]) (by clear hn hr hK; generalize a.eval = ρ at *; simp [execOp,e21,cell_of_heap (Hd.nthk 1 hH.rear rfl),go_sem]) rfl rfl hH hK
          refine .cons (pR 0 rfl fun _=>⟨rfl,rfl⟩) ?_
          refine .cons (pN 4 23 rfl fun _=>⟨rfl,rfl⟩) ?_
          refine .cons (pF 5 24 7 rfl rfl (fun b q w=>by simp [go_sem]) fun _=>⟨⟨_,_,rfl,rfl⟩,rfl⟩) ?_
          refine StepAll.cons ?_ ?_
          · refine HoldStepB.val (by decide) fun a wx γ hn hr hres hpre Ss hH K hK=>?_
            have e25:a.eval (.tmp 25) = .pointer (some ⟨p,7,none⟩):=hn 6 (by decide) 25 rfl
            exact hold_run (v:=.int .i64 sent) (by clear hn hr hK; generalize a.eval = ρ at *; simp [execOp,e25,cell_of_heap (Hd.nthk 1 hH.rear rfl),go_sem]) rfl rfl hH hK
          refine StepAll.cons ?_ ?_
          · refine HoldStepB.val (by decide) fun a wx γ hn hr hres hpre Ss hH K hK=>?_
            exact hold_new (obj:=.cells #[.int .i64 0,.int .i64 0] 57 (0,0)) (v:=.pointer (some ⟨wx.heap.size,0,none⟩)) (by clear hn hr hK; generalize a.eval = ρ at *; simp [execOp,go_sem]) rfl rfl hH hK
          refine StepAll.cons ?_ ?_
          · refine HoldStepB.fil 8 (by decide) fun a wx γ hn hr hres hpre Ss hH K hK=>?_
            have e8:a.eval (.tmp 8) = .pointer (some ⟨(γ 8).2,0,none⟩):=hn 8 (by decide) 8 rfl
            have e22:a.eval (.tmp 22) = .agg #[.int .i64 ok,.int .i64 oe]:=hn 3 (by decide) 22 rfl
            have hH2:Hd W wx (Blk (γ 8).2 (.cells #[.int .i64 0,.int .i64 0] 57 (0,0))::(Ss ++ (RSto b L m::Blk p (.cells #[.pointer (some ⟨b,0,none⟩),.int .i64 xh,.int .i64 xs,.int .i64 xr,.int .i64 xv,.int .i64 ok,.int .i64 oe,.int .i64 sent,.int .i64 rc.ik,.int .i64 rc.ie,.int .u64 rc.nx,.int .u64 rc.bt,.slice ad rc.es.length cap] 94 (0,0))::Rs))):=hH
            have hk:=hH2.blk
            have c0:=(cell_of_heap hk 0).trans (show _ = some (.int .i64 0) from rfl)
            have c1:=(cell_of_heap hk 1).trans (show _ = some (.int .i64 0) from rfl)
            have cf:=frozen_of_heap hk
            clear hk hH
            exact hold_filB (w':=((wx.setCell ⟨(γ 8).2,0,none⟩ (.int .i64 ok)).setCell ⟨(γ 8).2,1,none⟩ (.int .i64 oe))) (by clear hn hr hK hH2; generalize a.eval = ρ at *; simp [execOp,e8,e22,c0,c1,cf,go_sem]) rfl rfl ((hH2.set 0 (.int .i64 ok)).set 1 (.int .i64 oe)) hK
          refine .cons (pN 7 26 rfl fun _=>⟨rfl,rfl⟩) ?_
          exact trivial
         case done3_1 =>
          intro f w9 g9 hv h9
          have er8:f 8 = .pointer (some ⟨(g9 8).2,0,none⟩):=hv 8 8 rfl
          have er9:f 9 = .int .i64 sent:=hv 10 9 rfl
          have hd:Hd W w9 (Blk (g9 8).2 (.cells #[.int .i64 ok,.int .i64 oe] 57 (0,0))::RSto b L m::Blk p (.cells #[.pointer (some ⟨b,0,none⟩),.int .i64 xh,.int .i64 xs,.int .i64 xr,.int .i64 xv,.int .i64 ok,.int .i64 oe,.int .i64 sent,.int .i64 rc.ik,.int .i64 rc.ie,.int .u64 rc.nx,.int .u64 rc.bt,.slice ad rc.es.length cap] 94 (0,0))::Rs):=h9
          obtain ⟨⟨_,p8⟩,hG8⟩:∃ x,g9 8 = x:=⟨_,rfl⟩
          simp only [hG8] at hd er8 er9
          clear hv h9 hG8 
          clear g9
          simp only [patchG,Nat.reduceAdd,Nat.reduceLeDiff,decide_true,decide_false,Bool.and_true,Bool.and_false,Bool.or_true,Bool.or_false,cond_true,cond_false,er8,er9]
          clear er8 er9
          clear H
          have H:=hid ((((hd.front 2 rfl).front 1 rfl).front 2 rfl))
          clear hd
          go_wp2_with fail
          have cf29:∀ args w,(callFunc 29 args).run Try.prog w = .ok (.enter 29 args) w:=fun args w=>by kernel_rfl
          refine hold_coreB (P:=Try.prog) (W:=W) (Rs:=(Blk p8 (.cells #[.int .i64 ok,.int .i64 oe] 57 (0,0))::Blk p (.cells #[.pointer (some ⟨b,0,none⟩),.int .i64 xh,.int .i64 xs,.int .i64 xr,.int .i64 xv,.int .i64 ok,.int .i64 oe,.int .i64 sent,.int .i64 rc.ik,.int .i64 rc.ie,.int .u64 rc.nx,.int .u64 rc.bt,.slice ad rc.es.length cap] 94 (0,0))::Rs)) [[],[0],[1],[2],[],[3,4],[5],[6],[6],[],[7,9],[8]] [[],[],[],[],[],[],[],[],[],[9],[9],[]] ([some 30,some 31,some 32,some 33,some 34,some 35,some 29,some 36,some 37,some 10,none,some 11]:List (Option Nat)) ([none,none,none,none,none,none,none,none,none,some 10,none,none,some 5]:List (Option Nat)) ((fun _=>pt p 0)::(fun _=>pt p 0)::(fun _=>pt p 0)::(fun _=>pt b 0)::(fun _=>.agg #[.int .i64 ok,.int .i64 oe])::(fun _=>.tuple #[.agg #[.int .i64 dk,.int .i64 de],.int .i64 0])::(fun _=>.tuple #[.agg #[.int .i64 dk,.int .i64 de],.int .i64 0])::(fun _=>.agg #[.int .i64 dk,.int .i64 de])::(fun _=>.int .i64 0)::(fun gs=>pt ((gs.getD 0 default).2) 0)::(fun _=>undef)::(fun _=>.int .i64 0)::[]) (zR::zR::zR::zR::zR::zR::zR::zR::zR::(fun gs=>[Blk (gs.getD 0 default).2 (.cells #[.int .i64 0,.int .i64 0] 57 (0,0))])::zR::zR::(fun _=>[RSto b L m])::([]:List (List Gh → List Res))) (zR::zR::zR::zR::zR::zR::zR::zR::zR::(fun gs=>[Blk (gs.getD 0 default).2 (.cells #[.int .i64 dk,.int .i64 de] 57 (0,0))])::zR::zR::(fun _=>[RSto b Lx m])::([]:List (List Gh → List Res))) (by kernel_rfl) rfl (hold_lt (n:=87) (by decide)) H.out rfl (by decide) (hold_nil (fs:=[10,5]) trivial rfl ?nil5_1) ?gd5_1 ?step5_1 (fun t=>(decide (10 ≤ t) && decide (t ≤ 11)) || (decide (29 ≤ t) && decide (t ≤ 37))) (by decide) ?done5_1 (fun I h0 st dn=>run_wpB mixed I h0 st dn)
          case nil5_1 =>
           intro s gs hs
           simp only [List.mem_cons,List.not_mem_nil,or_false] at hs
           rcases hs with rfl | rfl <;> rfl
          case gd5_1 =>
           repeat (refine StepAll.cons (by first | exact trivial | exact fun g=>rfl) ?_)
           exact trivial
          case step5_1 =>
           refine .cons (pR 0 rfl fun _=>⟨rfl,rfl⟩) ?_
           refine .cons (pN 0 30 rfl fun _=>⟨rfl,rfl⟩) ?_
           refine .cons (pF 1 31 0 rfl rfl (fun b q w=>by simp [go_sem]) fun _=>⟨⟨_,_,rfl,rfl⟩,rfl⟩) ?_
           refine StepAll.cons ?_ ?_
           · refine HoldStepB.val (by decide) fun a wx γ hn hr hres hpre Ss hH K hK=>?_
             have e32:a.eval (.tmp 32) = .pointer (some ⟨p,0,none⟩):=hn 2 (by decide) 32 rfl
             exact hold_run (v:=.pointer (some ⟨b,0,none⟩)) (by clear hn hr hK; generalize a.eval = ρ at *; simp [execOp,e32,cell_of_heap (Hd.nthk 1 hH.rear rfl),go_sem]) rfl rfl hH hK
           refine StepAll.cons ?_ ?_
           · refine HoldStepB.val (by decide) fun a wx γ hn hr hres hpre Ss hH K hK=>?_
             have e8:a.eval (.tmp 8) = .pointer (some ⟨p8,0,none⟩):=(hr 8 (by decide)).trans rfl
             exact hold_run (v:=.agg #[.int .i64 ok,.int .i64 oe]) (by clear hn hr hK; generalize a.eval = ρ at *; simp [execOp,e8,cell_of_heap (Hd.nthk 0 hH.rear rfl),go_sem]) rfl rfl hH hK
           refine StepAll.cons ?_ ?_
           · refine HoldStepB.fil 12 (by decide) fun a wx γ hn hr hres hpre Ss hH K hK=>?_
             have e33:a.eval (.tmp 33) = .pointer (some ⟨b,0,none⟩):=hn 3 (by decide) 33 rfl
             have e34:a.eval (.tmp 34) = .agg #[.int .i64 ok,.int .i64 oe]:=hn 4 (by decide) 34 rfl
             have ef:a.eval (.func 29) = .func (.func 29) #[] #[]:=rfl
             refine hold_callB (b:=12) (f:=29) (args:=#[.pointer (some ⟨b,0,none⟩),.agg #[.int .i64 ok,.int .i64 oe]]) (by clear hn hr hK hH; generalize a.eval = ρ at *; simp [execOp,e33,e34,cf29,ef,go_sem]) ?_ hK
             exact (rnext15_calls ok oe HN.out hH).mono fun e2 w2 h=>⟨default,h.1,h.2⟩
           refine .cons (pN 5 35 rfl fun _=>⟨rfl,rfl⟩) ?_
           refine .cons (pN 6 29 rfl fun _=>⟨rfl,rfl⟩) ?_
           refine .cons (pN 6 29 rfl fun _=>⟨rfl,rfl⟩) ?_
           refine StepAll.cons ?_ ?_
           · refine HoldStepB.val (by decide) fun a wx γ hn hr hres hpre Ss hH K hK=>?_
             exact hold_new (obj:=.cells #[.int .i64 0,.int .i64 0] 57 (0,0)) (v:=.pointer (some ⟨wx.heap.size,0,none⟩)) (by clear hn hr hK; generalize a.eval = ρ at *; simp [execOp,go_sem]) rfl rfl hH hK
           refine StepAll.cons ?_ ?_
           · refine HoldStepB.fil 9 (by decide) fun a wx γ hn hr hres hpre Ss hH K hK=>?_
             have e10:a.eval (.tmp 10) = .pointer (some ⟨(γ 9).2,0,none⟩):=hn 9 (by decide) 10 rfl
             have e36:a.eval (.tmp 36) = .agg #[.int .i64 dk,.int .i64 de]:=hn 7 (by decide) 36 rfl
             have hH2:Hd W wx (Blk (γ 9).2 (.cells #[.int .i64 0,.int .i64 0] 57 (0,0))::(Ss ++ (Blk p8 (.cells #[.int .i64 ok,.int .i64 oe] 57 (0,0))::Blk p (.cells #[.pointer (some ⟨b,0,none⟩),.int .i64 xh,.int .i64 xs,.int .i64 xr,.int .i64 xv,.int .i64 ok,.int .i64 oe,.int .i64 sent,.int .i64 rc.ik,.int .i64 rc.ie,.int .u64 rc.nx,.int .u64 rc.bt,.slice ad rc.es.length cap] 94 (0,0))::Rs))):=hH
             have hk:=hH2.blk
             have c0:=(cell_of_heap hk 0).trans (show _ = some (.int .i64 0) from rfl)
             have c1:=(cell_of_heap hk 1).trans (show _ = some (.int .i64 0) from rfl)
             have cf:=frozen_of_heap hk
             clear hk hH
             exact hold_filB (w':=((wx.setCell ⟨(γ 9).2,0,none⟩ (.int .i64 dk)).setCell ⟨(γ 9).2,1,none⟩ (.int .i64 de))) (by clear hn hr hK hH2; generalize a.eval = ρ at *; simp [execOp,e10,e36,c0,c1,cf,go_sem]) rfl rfl ((hH2.set 0 (.int .i64 dk)).set 1 (.int .i64 de)) hK
           refine .cons (pN 8 37 rfl fun _=>⟨rfl,rfl⟩) ?_
           exact trivial
          case done5_1 =>
           intro f w9 g9 hv h9
           have er10:f 10 = .pointer (some ⟨(g9 9).2,0,none⟩):=hv 9 10 rfl
           have er11:f 11 = .int .i64 0:=hv 11 11 rfl
           have hd:Hd W w9 (Blk (g9 9).2 (.cells #[.int .i64 dk,.int .i64 de] 57 (0,0))::RSto b Lx m::Blk p8 (.cells #[.int .i64 ok,.int .i64 oe] 57 (0,0))::Blk p (.cells #[.pointer (some ⟨b,0,none⟩),.int .i64 xh,.int .i64 xs,.int .i64 xr,.int .i64 xv,.int .i64 ok,.int .i64 oe,.int .i64 sent,.int .i64 rc.ik,.int .i64 rc.ie,.int .u64 rc.nx,.int .u64 rc.bt,.slice ad rc.es.length cap] 94 (0,0))::Rs):=h9
           obtain ⟨⟨_,p10⟩,hG9⟩:∃ x,g9 9 = x:=⟨_,rfl⟩
           simp only [hG9] at hd er10 er11
           clear hv h9 hG9 cf29
           clear g9
           simp only [patchG,Nat.reduceAdd,Nat.reduceLeDiff,decide_true,decide_false,Bool.and_true,Bool.and_false,Bool.or_true,Bool.or_false,cond_true,cond_false,er10,er11]
           clear er10 er11
           clear H HN
           have H:=hid hd
           clear hd
           have hk:=Hd.nthk 0 H.out rfl
           have c0:=(cell_of_heap hk 0).trans (show _ = some (.int .i64 dk) from rfl)
           have c1:=(cell_of_heap hk 1).trans (show _ = some (.int .i64 de) from rfl)
           have cs:=(Array.getElem?_eq_some_iff.1 hk).1
           clear hk
           have hk:=Hd.nthk 2 H.out rfl
           have q0:=(cell_of_heap hk 0).trans (show _ = some (.int .i64 ok) from rfl)
           have q1:=(cell_of_heap hk 1).trans (show _ = some (.int .i64 oe) from rfl)
           have qs:=(Array.getElem?_eq_some_iff.1 hk).1
           have qf:=frozen_of_heap hk
           clear hk
           have hne:=blks_ne (((((H.out.front 3 rfl).front 2 rfl).front 3 rfl).front 3 rfl))
           have hne2:¬ p8 = p10:=fun e=>hne e.symm
           go_wp2_with fail
           have H2:=hid (((((((((((H.out.front 3 rfl).front 2 rfl).front 2 rfl).front 3 rfl).set 0 (.int .i64 dk)).set 1 (.int .i64 de)).front 3 rfl).front 1 rfl).front 3 rfl).front 3 rfl)).drop
           obtain ⟨w5,hw5⟩:∃ w5,(w9.setCell ⟨p8,0,none⟩ (.int .i64 dk)).setCell ⟨p8,1,none⟩ (.int .i64 de) = w5:=⟨_,rfl⟩
           rw [hw5] at H2 ⊢
           clear H c0 c1 cs q0 q1 qs qf hne hne2 hw5
           have H:Hid (Hd W w5 (RSto b Lx m::Blk p8 (.cells #[.int .i64 dk,.int .i64 de] 57 (0,0))::Blk p (.cells #[.pointer (some ⟨b,0,none⟩),.int .i64 xh,.int .i64 xs,.int .i64 xr,.int .i64 xv,.int .i64 ok,.int .i64 oe,.int .i64 sent,.int .i64 rc.ik,.int .i64 rc.ie,.int .u64 rc.nx,.int .u64 rc.bt,.slice ad rc.es.length cap] 94 (0,0))::Rs)):=H2
           clear H2
           have cf27:∀ args w,(callFunc 27 args).run Try.prog w = .ok (.enter 27 args) w:=fun args w=>by kernel_rfl
           refine hold_coreB (P:=Try.prog) (W:=W) (Rs:=(Blk p8 (.cells #[.int .i64 dk,.int .i64 de] 57 (0,0))::Blk p (.cells #[.pointer (some ⟨b,0,none⟩),.int .i64 xh,.int .i64 xs,.int .i64 xr,.int .i64 xv,.int .i64 ok,.int .i64 oe,.int .i64 sent,.int .i64 rc.ik,.int .i64 rc.ie,.int .u64 rc.nx,.int .u64 rc.bt,.slice ad rc.es.length cap] 94 (0,0))::Rs)) [[],[0],[1],[2],[],[3,4],[5],[6],[6],[7],[8]] [[],[],[],[],[],[],[],[],[],[],[]] ([some 43,some 44,some 45,some 46,some 47,some 48,some 42,some 49,some 50,some 12,some 13]:List (Option Nat)) ([none,none,none,none,none,none,none,none,none,none,none,some 5]:List (Option Nat)) ((fun _=>pt p 0)::(fun _=>pt p 0)::(fun _=>pt p 0)::(fun _=>pt b 0)::(fun _=>.agg #[.int .i64 dk,.int .i64 de])::(fun _=>.tuple #[.int .i64 p1,.int .i64 0])::(fun _=>.tuple #[.int .i64 p1,.int .i64 0])::(fun _=>.int .i64 p1)::(fun _=>.int .i64 0)::(fun _=>.int .i64 p1)::(fun _=>.int .i64 0)::[]) (zR::zR::zR::zR::zR::zR::zR::zR::zR::zR::zR::(fun _=>[RSto b Lx m])::([]:List (List Gh → List Res))) (zR::zR::zR::zR::zR::zR::zR::zR::zR::zR::zR::(fun _=>[RSto b Ly m])::([]:List (List Gh → List Res))) (by kernel_rfl) rfl (hold_lt (n:=87) (by decide)) H.out rfl (by decide) (hold_nil (fs:=[5]) trivial rfl ?nil10_1) ?gd10_1 ?step10_1 (fun t=>(decide (12 ≤ t) && decide (t ≤ 13)) || (decide (42 ≤ t) && decide (t ≤ 50))) (by decide) ?done10_1 (fun I h0 st dn=>run_wpB mixed I h0 st dn)
           case nil10_1 =>
            intro s gs hs
            simp only [List.mem_cons,List.not_mem_nil,or_false] at hs
            subst hs; rfl
           case gd10_1 =>
            repeat (refine StepAll.cons (by first | exact trivial | exact fun g=>rfl) ?_)
            exact trivial
           case step10_1 =>
            refine .cons (pR 0 rfl fun _=>⟨rfl,rfl⟩) ?_
            refine .cons (pN 0 43 rfl fun _=>⟨rfl,rfl⟩) ?_
            refine .cons (pF 1 44 0 rfl rfl (fun b q w=>by simp [go_sem]) fun _=>⟨⟨_,_,rfl,rfl⟩,rfl⟩) ?_
            refine StepAll.cons ?_ ?_
            · refine HoldStepB.val (by decide) fun a wx γ hn hr hres hpre Ss hH K hK=>?_
              have e45:a.eval (.tmp 45) = .pointer (some ⟨p,0,none⟩):=hn 2 (by decide) 45 rfl
              exact hold_run (v:=.pointer (some ⟨b,0,none⟩)) (by clear hn hr hK; generalize a.eval = ρ at *; simp [execOp,e45,cell_of_heap (Hd.nthk 1 hH.rear rfl),go_sem]) rfl rfl hH hK
            refine StepAll.cons ?_ ?_
            · refine HoldStepB.val (by decide) fun a wx γ hn hr hres hpre Ss hH K hK=>?_
              have e8:a.eval (.tmp 8) = .pointer (some ⟨p8,0,none⟩):=(hr 8 (by decide)).trans rfl
              exact hold_run (v:=.agg #[.int .i64 dk,.int .i64 de]) (by clear hn hr hK; generalize a.eval = ρ at *; simp [execOp,e8,cell_of_heap (Hd.nthk 0 hH.rear rfl),go_sem]) rfl rfl hH hK
            refine StepAll.cons ?_ ?_
            · refine HoldStepB.fil 11 (by decide) fun a wx γ hn hr hres hpre Ss hH K hK=>?_
              have e46:a.eval (.tmp 46) = .pointer (some ⟨b,0,none⟩):=hn 3 (by decide) 46 rfl
              have e47:a.eval (.tmp 47) = .agg #[.int .i64 dk,.int .i64 de]:=hn 4 (by decide) 47 rfl
              have ef:a.eval (.func 27) = .func (.func 27) #[] #[]:=rfl
              refine hold_callB (b:=11) (f:=27) (args:=#[.pointer (some ⟨b,0,none⟩),.agg #[.int .i64 dk,.int .i64 de]]) (by clear hn hr hK hH; generalize a.eval = ρ at *; simp [execOp,e46,e47,cf27,ef,go_sem]) ?_ hK
              exact (rseal15_calls dk de HP.out hH).mono fun e2 w2 h=>⟨default,h.1,h.2⟩
            refine .cons (pN 5 48 rfl fun _=>⟨rfl,rfl⟩) ?_
            refine .cons (pN 6 42 rfl fun _=>⟨rfl,rfl⟩) ?_
            refine .cons (pN 6 42 rfl fun _=>⟨rfl,rfl⟩) ?_
            refine .cons (pN 7 49 rfl fun _=>⟨rfl,rfl⟩) ?_
            refine .cons (pN 8 50 rfl fun _=>⟨rfl,rfl⟩) ?_
            exact trivial
           case done10_1 =>
            intro f w9 g9 hv h9
            have er12:f 12 = .int .i64 p1:=hv 9 12 rfl
            have er13:f 13 = .int .i64 0:=hv 10 13 rfl
            have hd:Hd W w9 (RSto b Ly m::Blk p8 (.cells #[.int .i64 dk,.int .i64 de] 57 (0,0))::Blk p (.cells #[.pointer (some ⟨b,0,none⟩),.int .i64 xh,.int .i64 xs,.int .i64 xr,.int .i64 xv,.int .i64 ok,.int .i64 oe,.int .i64 sent,.int .i64 rc.ik,.int .i64 rc.ie,.int .u64 rc.nx,.int .u64 rc.bt,.slice ad rc.es.length cap] 94 (0,0))::Rs):=h9
            clear hv h9 cf27
            clear g9
            simp only [patchG,Nat.reduceAdd,Nat.reduceLeDiff,decide_true,decide_false,Bool.and_true,Bool.and_false,Bool.or_true,Bool.or_false,cond_true,cond_false,er12,er13]
            clear er12 er13
            clear H HP
            have H:=hid hd
            clear hd
            go_wp2_with fail
            have cf65:∀ args w,(callFunc 65 args).run Try.prog w = .ok (.enter 65 args) w:=fun args w=>by kernel_rfl
            refine hold_coreB (P:=Try.prog) (W:=W) (Rs:=(Blk p8 (.cells #[.int .i64 dk,.int .i64 de] 57 (0,0))::Blk p (.cells #[.pointer (some ⟨b,0,none⟩),.int .i64 xh,.int .i64 xs,.int .i64 xr,.int .i64 xv,.int .i64 ok,.int .i64 oe,.int .i64 sent,.int .i64 rc.ik,.int .i64 rc.ie,.int .u64 rc.nx,.int .u64 rc.bt,.slice ad rc.es.length cap] 94 (0,0))::Rs)) [[],[0],[1],[2],[],[],[5],[],[7],[8],[9],[10],[],[3,4,6,11,12],[13],[14],[14],[15],[16]] [[],[],[],[],[],[],[],[],[],[],[],[],[],[],[],[],[],[],[]] ([some 55,some 56,some 57,some 58,some 59,some 60,some 61,some 62,some 63,some 64,some 65,some 66,some 67,some 68,some 54,some 69,some 70,some 14,some 15]:List (Option Nat)) ([none,none,none,none,none,none,none,none,none,none,none,none,none,none,none,none,none,none,none,some 13]:List (Option Nat)) ((fun _=>pt p 0)::(fun _=>pt p 0)::(fun _=>pt p 0)::(fun _=>pt b 0)::(fun _=>.int .i64 p1)::(fun _=>.int .i64 (0))::(fun _=>.int .u64 (0))::(fun _=>pt p 0)::(fun _=>pt p 0)::(fun _=>pt p 1)::(fun _=>pt p 1)::(fun _=>.int .i64 xh)::(fun _=>.string s)::(fun _=>.tuple #[.int .i64 c,.int .i64 0])::(fun _=>.tuple #[.int .i64 c,.int .i64 0])::(fun _=>.int .i64 c)::(fun _=>.int .i64 0)::(fun _=>.int .i64 c)::(fun _=>.int .i64 0)::[]) (zR::zR::zR::zR::zR::zR::zR::zR::zR::zR::zR::zR::zR::zR::zR::zR::zR::zR::zR::(fun _=>[RSto b Ly m])::([]:List (List Gh → List Res))) (zR::zR::zR::zR::zR::zR::zR::zR::zR::zR::zR::zR::zR::zR::zR::zR::zR::zR::zR::(fun _=>[RSto b Lz m])::([]:List (List Gh → List Res))) (by kernel_rfl) rfl (hold_lt (n:=87) (by decide)) H.out rfl (by decide) (hold_nil (fs:=[13]) trivial rfl ?nil13_1) ?gd13_1 ?step13_1 (fun t=>(decide (14 ≤ t) && decide (t ≤ 15)) || (decide (54 ≤ t) && decide (t ≤ 70))) (by decide) ?done13_1 (fun I h0 st dn=>run_wpB mixed I h0 st dn)
            case nil13_1 =>
             intro s gs hs
             simp only [List.mem_cons,List.not_mem_nil,or_false] at hs
             subst hs; rfl
            case gd13_1 =>
             repeat (refine StepAll.cons (by first | exact trivial | exact fun g=>rfl) ?_)
             exact trivial
            case step13_1 =>
             refine .cons (pR 0 rfl fun _=>⟨rfl,rfl⟩) ?_
             refine .cons (pN 0 55 rfl fun _=>⟨rfl,rfl⟩) ?_
             refine .cons (pF 1 56 0 rfl rfl (fun b q w=>by simp [go_sem]) fun _=>⟨⟨_,_,rfl,rfl⟩,rfl⟩) ?_
             refine StepAll.cons ?_ ?_
             · refine HoldStepB.val (by decide) fun a wx γ hn hr hres hpre Ss hH K hK=>?_
               have e57:a.eval (.tmp 57) = .pointer (some ⟨p,0,none⟩):=hn 2 (by decide) 57 rfl
               exact hold_run (v:=.pointer (some ⟨b,0,none⟩)) (by clear hn hr hK; generalize a.eval = ρ at *; simp [execOp,e57,cell_of_heap (Hd.nthk 1 hH.rear rfl),go_sem]) rfl rfl hH hK
             refine .cons (pR 12 rfl fun _=>⟨rfl,rfl⟩) ?_
             refine .cons (pR 9 rfl fun _=>⟨rfl,rfl⟩) ?_
             refine StepAll.cons ?_ ?_
             · refine HoldStepB.val (by decide) fun a wx γ hn hr hres hpre Ss hH K hK=>?_
               have e60:a.eval (.tmp 60) = .int .i64 (0):=hn 5 (by decide) 60 rfl
               exact hold_run (v:=.int .u64 (0)) (by clear hn hr hK; generalize a.eval = ρ at *; simp [execOp,e60,zcv,go_sem]) rfl rfl hH hK
             refine .cons (pR 0 rfl fun _=>⟨rfl,rfl⟩) ?_
             refine .cons (pN 7 62 rfl fun _=>⟨rfl,rfl⟩) ?_
             refine .cons (pF 8 63 1 rfl rfl (fun b q w=>by simp [go_sem]) fun _=>⟨⟨_,_,rfl,rfl⟩,rfl⟩) ?_
             refine .cons (pF 9 64 0 rfl rfl (fun b q w=>by simp [go_sem]) fun _=>⟨⟨_,_,rfl,rfl⟩,rfl⟩) ?_
             refine StepAll.cons ?_ ?_
             · refine HoldStepB.val (by decide) fun a wx γ hn hr hres hpre Ss hH K hK=>?_
               have e65:a.eval (.tmp 65) = .pointer (some ⟨p,1,none⟩):=hn 10 (by decide) 65 rfl
               exact hold_run (v:=.int .i64 xh) (by clear hn hr hK; generalize a.eval = ρ at *; simp [execOp,e65,cell_of_heap (Hd.nthk 1 hH.rear rfl),go_sem]) rfl rfl hH hK
             refine .cons (pR 1 rfl fun _=>⟨rfl,rfl⟩) ?_
             refine StepAll.cons ?_ ?_
             · refine HoldStepB.fil 19 (by decide) fun a wx γ hn hr hres hpre Ss hH K hK=>?_
               have e58:a.eval (.tmp 58) = .pointer (some ⟨b,0,none⟩):=hn 3 (by decide) 58 rfl
               have e59:a.eval (.tmp 59) = .int .i64 p1:=hn 4 (by decide) 59 rfl
               have e61:a.eval (.tmp 61) = .int .u64 (0):=hn 6 (by decide) 61 rfl
               have e66:a.eval (.tmp 66) = .int .i64 xh:=hn 11 (by decide) 66 rfl
               have e67:a.eval (.tmp 67) = .string s:=hn 12 (by decide) 67 rfl
               have ef:a.eval (.func 65) = .func (.func 65) #[] #[]:=rfl
               refine hold_callB (b:=19) (f:=65) (args:=#[.pointer (some ⟨b,0,none⟩),.int .i64 p1,.int .u64 (0),.int .i64 xh,.string s]) (by clear hn hr hK hH; generalize a.eval = ρ at *; simp [execOp,e58,e59,e61,e66,e67,cf65,ef,go_sem]) ?_ hK
               refine (rtext_calls p1 (0) xh s HSZ.out hH).mono fun e2 w2 h=>?_
               rw [HT.out] at h
               exact ⟨default,h.1,h.2⟩
             refine .cons (pN 13 68 rfl fun _=>⟨rfl,rfl⟩) ?_
             refine .cons (pN 14 54 rfl fun _=>⟨rfl,rfl⟩) ?_
             refine .cons (pN 14 54 rfl fun _=>⟨rfl,rfl⟩) ?_
             refine .cons (pN 15 69 rfl fun _=>⟨rfl,rfl⟩) ?_
             refine .cons (pN 16 70 rfl fun _=>⟨rfl,rfl⟩) ?_
             exact trivial
            case done13_1 =>
             intro f w9 g9 hv h9
             have er14:f 14 = .int .i64 c:=hv 17 14 rfl
             have er15:f 15 = .int .i64 0:=hv 18 15 rfl
             have hd:Hd W w9 (RSto b Lz m::Blk p8 (.cells #[.int .i64 dk,.int .i64 de] 57 (0,0))::Blk p (.cells #[.pointer (some ⟨b,0,none⟩),.int .i64 xh,.int .i64 xs,.int .i64 xr,.int .i64 xv,.int .i64 ok,.int .i64 oe,.int .i64 sent,.int .i64 rc.ik,.int .i64 rc.ie,.int .u64 rc.nx,.int .u64 rc.bt,.slice ad rc.es.length cap] 94 (0,0))::Rs):=h9
             clear hv h9 cf65
             clear g9
             simp only [patchG,Nat.reduceAdd,Nat.reduceLeDiff,decide_true,decide_false,Bool.and_true,Bool.and_false,Bool.or_true,Bool.or_false,cond_true,cond_false,er14,er15]
             clear er14 er15
             clear H HT
             have H:=hid hd
             clear hd
             have hk:=Hd.nthk 1 H.out rfl
             have c0:=(cell_of_heap hk 0).trans (show _ = some (.int .i64 dk) from rfl)
             have c1:=(cell_of_heap hk 1).trans (show _ = some (.int .i64 de) from rfl)
             have cs:=(Array.getElem?_eq_some_iff.1 hk).1
             have cf:=frozen_of_heap hk
             clear hk
             have hk:=Hd.nthk 2 H.out rfl
             obtain ⟨g0,g1,g2,g3,g4,g5,g6,g7,g8,g9,g10,g11,g12⟩:=cells13 hk
             have gs:=(Array.getElem?_eq_some_iff.1 hk).1
             have gf:=frozen_of_heap hk
             clear hk
             have hne:=blks_ne H.out.drop
             have hne2:¬ p = p8:=fun e=>hne e.symm
             go_wp2_with fail
             refine bodyPost_ret (v:=.tuple #[.int .i64 de,.int .i64 0,.int .i64 c,.int .i64 0]) (by simp [results,Try.results38,go_sem]) rfl ⟨rfl,by first | rfl | trivial,?_⟩
             exact ((((((((H.out.front 1 rfl).front 2 rfl).set 5 (.int .i64 dk)).set 6 (.int .i64 de)).set 7 (.int .i64 1)).front 2 rfl).front 2 rfl)).drop
       · rw [if_neg h4] at hq
         simp only [Prod.mk.injEq] at hq
         obtain ⟨⟨rfl,rfl,rfl,rfl⟩,rfl,rfl⟩:=hq
         have g1:(er != 0) = true:=by rw [bne_iff_ne]; exact h4
         have g2:decide (er = 0) = false:=by simpa using h4
         clear h4
         go_enter Try.func38,Try.ntmps38
         go_wp2_with fail
         refine hold_coreB (P:=Try.prog) (W:=W) (Rs:=(RSto b L m::Blk p (.cells #[.pointer (some ⟨b,0,none⟩),.int .i64 xh,.int .i64 xs,.int .i64 xr,.int .i64 xv,.int .i64 ok,.int .i64 oe,.int .i64 sent,.int .i64 rc.ik,.int .i64 rc.ie,.int .u64 rc.nx,.int .u64 rc.bt,.slice ad rc.es.length cap] 94 (0,0))::Rs)) [[],[0],[1],[2],[],[4],[5],[6],[],[3,8],[7]] [[],[],[],[],[],[],[],[],[8],[8],[]] ([some 19,some 20,some 21,some 22,some 23,some 24,some 25,some 26,some 8,none,some 9]:List (Option Nat)) ([none,none,none,none,none,none,none,none,some 9,none,none]:List (Option Nat)) ((fun _=>pt p 0)::(fun _=>pt p 0)::(fun _=>pt p 5)::(fun _=>.agg #[.int .i64 ok,.int .i64 oe])::(fun _=>pt p 0)::(fun _=>pt p 0)::(fun _=>pt p 7)::(fun _=>.int .i64 sent)::(fun gs=>pt ((gs.getD 0 default).2) 0)::(fun _=>undef)::(fun _=>.int .i64 sent)::[]) (zR::zR::zR::zR::zR::zR::zR::zR::(fun gs=>[Blk (gs.getD 0 default).2 (.cells #[.int .i64 0,.int .i64 0] 57 (0,0))])::zR::zR::([]:List (List Gh → List Res))) (zR::zR::zR::zR::zR::zR::zR::zR::(fun gs=>[Blk (gs.getD 0 default).2 (.cells #[.int .i64 ok,.int .i64 oe] 57 (0,0))])::zR::zR::([]:List (List Gh → List Res))) (by kernel_rfl) rfl (hold_lt (n:=87) (by decide)) H.out rfl (by decide) (hold_nil (fs:=[9]) trivial rfl ?nil3_2) ?gd3_2 ?step3_2 (fun t=>(decide (8 ≤ t) && decide (t ≤ 9)) || (decide (19 ≤ t) && decide (t ≤ 26))) (by decide) ?done3_2 (fun I h0 st dn=>run_wpB mixed I h0 st dn)
         case nil3_2 =>
          intro s gs hs
          simp only [List.mem_cons,List.not_mem_nil,or_false] at hs
          subst hs; rfl
         case gd3_2 =>
          repeat (refine StepAll.cons (by first | exact trivial | exact fun g=>rfl) ?_)
          exact trivial
         case step3_2 =>
          refine .cons (pR 0 rfl fun _=>⟨rfl,rfl⟩) ?_
          refine .cons (pN 0 19 rfl fun _=>⟨rfl,rfl⟩) ?_
          refine .cons (pF 1 20 5 rfl rfl (fun b q w=>by simp [go_sem]) fun _=>⟨⟨_,_,rfl,rfl⟩,rfl⟩) ?_
          refine StepAll.cons ?_ ?_
          · refine HoldStepB.val (by decide) fun a wx γ hn hr hres hpre Ss hH K hK=>?_
            have e21:a.eval (.tmp 21) = .pointer (some ⟨p,5,none⟩):=hn 2 (by decide) 21 rfl
            exact hold_run (v:=.agg #[.int .i64 ok,.int .i64 oe]) (by clear hn hr hK; generalize a.eval = ρ at *; simp [execOp,e21,cell_of_heap (Hd.nthk 1 hH.rear rfl),go_sem]) rfl rfl hH hK
          refine .cons (pR 0 rfl fun _=>⟨rfl,rfl⟩) ?_
          refine .cons (pN 4 23 rfl fun _=>⟨rfl,rfl⟩) ?_
          refine .cons (pF 5 24 7 rfl rfl (fun b q w=>by simp [go_sem]) fun _=>⟨⟨_,_,rfl,rfl⟩,rfl⟩) ?_
          refine StepAll.cons ?_ ?_
          · refine HoldStepB.val (by decide) fun a wx γ hn hr hres hpre Ss hH K hK=>?_
            have e25:a.eval (.tmp 25) = .pointer (some ⟨p,7,none⟩):=hn 6 (by decide) 25 rfl
            exact hold_run (v:=.int .i64 sent) (by clear hn hr hK; generalize a.eval = ρ at *; simp [execOp,e25,cell_of_heap (Hd.nthk 1 hH.rear rfl),go_sem]) rfl rfl hH hK
          refine StepAll.cons ?_ ?_
          · refine HoldStepB.val (by decide) fun a wx γ hn hr hres hpre Ss hH K hK=>?_
            exact hold_new (obj:=.cells #[.int .i64 0,.int .i64 0] 57 (0,0)) (v:=.pointer (some ⟨wx.heap.size,0,none⟩)) (by clear hn hr hK; generalize a.eval = ρ at *; simp [execOp,go_sem]) rfl rfl hH hK
          refine StepAll.cons ?_ ?_
          · refine HoldStepB.fil 8 (by decide) fun a wx γ hn hr hres hpre Ss hH K hK=>?_
            have e8:a.eval (.tmp 8) = .pointer (some ⟨(γ 8).2,0,none⟩):=hn 8 (by decide) 8 rfl
            have e22:a.eval (.tmp 22) = .agg #[.int .i64 ok,.int .i64 oe]:=hn 3 (by decide) 22 rfl
            have hH2:Hd W wx (Blk (γ 8).2 (.cells #[.int .i64 0,.int .i64 0] 57 (0,0))::(Ss ++ (RSto b L m::Blk p (.cells #[.pointer (some ⟨b,0,none⟩),.int .i64 xh,.int .i64 xs,.int .i64 xr,.int .i64 xv,.int .i64 ok,.int .i64 oe,.int .i64 sent,.int .i64 rc.ik,.int .i64 rc.ie,.int .u64 rc.nx,.int .u64 rc.bt,.slice ad rc.es.length cap] 94 (0,0))::Rs))):=hH
            have hk:=hH2.blk
            have c0:=(cell_of_heap hk 0).trans (show _ = some (.int .i64 0) from rfl)
            have c1:=(cell_of_heap hk 1).trans (show _ = some (.int .i64 0) from rfl)
            have cf:=frozen_of_heap hk
            clear hk hH
            exact hold_filB (w':=((wx.setCell ⟨(γ 8).2,0,none⟩ (.int .i64 ok)).setCell ⟨(γ 8).2,1,none⟩ (.int .i64 oe))) (by clear hn hr hK hH2; generalize a.eval = ρ at *; simp [execOp,e8,e22,c0,c1,cf,go_sem]) rfl rfl ((hH2.set 0 (.int .i64 ok)).set 1 (.int .i64 oe)) hK
          refine .cons (pN 7 26 rfl fun _=>⟨rfl,rfl⟩) ?_
          exact trivial
         case done3_2 =>
          intro f w9 g9 hv h9
          have er8:f 8 = .pointer (some ⟨(g9 8).2,0,none⟩):=hv 8 8 rfl
          have er9:f 9 = .int .i64 sent:=hv 10 9 rfl
          have hd:Hd W w9 (Blk (g9 8).2 (.cells #[.int .i64 ok,.int .i64 oe] 57 (0,0))::RSto b L m::Blk p (.cells #[.pointer (some ⟨b,0,none⟩),.int .i64 xh,.int .i64 xs,.int .i64 xr,.int .i64 xv,.int .i64 ok,.int .i64 oe,.int .i64 sent,.int .i64 rc.ik,.int .i64 rc.ie,.int .u64 rc.nx,.int .u64 rc.bt,.slice ad rc.es.length cap] 94 (0,0))::Rs):=h9
          obtain ⟨⟨_,p8⟩,hG8⟩:∃ x,g9 8 = x:=⟨_,rfl⟩
          simp only [hG8] at hd er8 er9
          clear hv h9 hG8 
          clear g9
          simp only [patchG,Nat.reduceAdd,Nat.reduceLeDiff,decide_true,decide_false,Bool.and_true,Bool.and_false,Bool.or_true,Bool.or_false,cond_true,cond_false,er8,er9]
          clear er8 er9
          clear H
          have H:=hid ((((hd.front 2 rfl).front 1 rfl).front 2 rfl))
          clear hd
          go_wp2_with fail
          have cf29:∀ args w,(callFunc 29 args).run Try.prog w = .ok (.enter 29 args) w:=fun args w=>by kernel_rfl
          refine hold_coreB (P:=Try.prog) (W:=W) (Rs:=(Blk p8 (.cells #[.int .i64 ok,.int .i64 oe] 57 (0,0))::Blk p (.cells #[.pointer (some ⟨b,0,none⟩),.int .i64 xh,.int .i64 xs,.int .i64 xr,.int .i64 xv,.int .i64 ok,.int .i64 oe,.int .i64 sent,.int .i64 rc.ik,.int .i64 rc.ie,.int .u64 rc.nx,.int .u64 rc.bt,.slice ad rc.es.length cap] 94 (0,0))::Rs)) [[],[0],[1],[2],[],[3,4],[5],[6],[6],[],[7,9],[8]] [[],[],[],[],[],[],[],[],[],[9],[9],[]] ([some 30,some 31,some 32,some 33,some 34,some 35,some 29,some 36,some 37,some 10,none,some 11]:List (Option Nat)) ([none,none,none,none,none,none,none,none,none,some 10,none,none,some 5]:List (Option Nat)) ((fun _=>pt p 0)::(fun _=>pt p 0)::(fun _=>pt p 0)::(fun _=>pt b 0)::(fun _=>.agg #[.int .i64 ok,.int .i64 oe])::(fun _=>.tuple #[.agg #[.int .i64 dk,.int .i64 de],.int .i64 0])::(fun _=>.tuple #[.agg #[.int .i64 dk,.int .i64 de],.int .i64 0])::(fun _=>.agg #[.int .i64 dk,.int .i64 de])::(fun _=>.int .i64 0)::(fun gs=>pt ((gs.getD 0 default).2) 0)::(fun _=>undef)::(fun _=>.int .i64 0)::[]) (zR::zR::zR::zR::zR::zR::zR::zR::zR::(fun gs=>[Blk (gs.getD 0 default).2 (.cells #[.int .i64 0,.int .i64 0] 57 (0,0))])::zR::zR::(fun _=>[RSto b L m])::([]:List (List Gh → List Res))) (zR::zR::zR::zR::zR::zR::zR::zR::zR::(fun gs=>[Blk (gs.getD 0 default).2 (.cells #[.int .i64 dk,.int .i64 de] 57 (0,0))])::zR::zR::(fun _=>[RSto b Lx m])::([]:List (List Gh → List Res))) (by kernel_rfl) rfl (hold_lt (n:=87) (by decide)) H.out rfl (by decide) (hold_nil (fs:=[10,5]) trivial rfl ?nil5_2) ?gd5_2 ?step5_2 (fun t=>(decide (10 ≤ t) && decide (t ≤ 11)) || (decide (29 ≤ t) && decide (t ≤ 37))) (by decide) ?done5_2 (fun I h0 st dn=>run_wpB mixed I h0 st dn)
          case nil5_2 =>
           intro s gs hs
           simp only [List.mem_cons,List.not_mem_nil,or_false] at hs
           rcases hs with rfl | rfl <;> rfl
          case gd5_2 =>
           repeat (refine StepAll.cons (by first | exact trivial | exact fun g=>rfl) ?_)
           exact trivial
          case step5_2 =>
           refine .cons (pR 0 rfl fun _=>⟨rfl,rfl⟩) ?_
           refine .cons (pN 0 30 rfl fun _=>⟨rfl,rfl⟩) ?_
           refine .cons (pF 1 31 0 rfl rfl (fun b q w=>by simp [go_sem]) fun _=>⟨⟨_,_,rfl,rfl⟩,rfl⟩) ?_
           refine StepAll.cons ?_ ?_
           · refine HoldStepB.val (by decide) fun a wx γ hn hr hres hpre Ss hH K hK=>?_
             have e32:a.eval (.tmp 32) = .pointer (some ⟨p,0,none⟩):=hn 2 (by decide) 32 rfl
             exact hold_run (v:=.pointer (some ⟨b,0,none⟩)) (by clear hn hr hK; generalize a.eval = ρ at *; simp [execOp,e32,cell_of_heap (Hd.nthk 1 hH.rear rfl),go_sem]) rfl rfl hH hK
           refine StepAll.cons ?_ ?_
           · refine HoldStepB.val (by decide) fun a wx γ hn hr hres hpre Ss hH K hK=>?_
             have e8:a.eval (.tmp 8) = .pointer (some ⟨p8,0,none⟩):=(hr 8 (by decide)).trans rfl
             exact hold_run (v:=.agg #[.int .i64 ok,.int .i64 oe]) (by clear hn hr hK; generalize a.eval = ρ at *; simp [execOp,e8,cell_of_heap (Hd.nthk 0 hH.rear rfl),go_sem]) rfl rfl hH hK
           refine StepAll.cons ?_ ?_
           · refine HoldStepB.fil 12 (by decide) fun a wx γ hn hr hres hpre Ss hH K hK=>?_
             have e33:a.eval (.tmp 33) = .pointer (some ⟨b,0,none⟩):=hn 3 (by decide) 33 rfl
             have e34:a.eval (.tmp 34) = .agg #[.int .i64 ok,.int .i64 oe]:=hn 4 (by decide) 34 rfl
             have ef:a.eval (.func 29) = .func (.func 29) #[] #[]:=rfl
             refine hold_callB (b:=12) (f:=29) (args:=#[.pointer (some ⟨b,0,none⟩),.agg #[.int .i64 ok,.int .i64 oe]]) (by clear hn hr hK hH; generalize a.eval = ρ at *; simp [execOp,e33,e34,cf29,ef,go_sem]) ?_ hK
             exact (rnext15_calls ok oe HN.out hH).mono fun e2 w2 h=>⟨default,h.1,h.2⟩
           refine .cons (pN 5 35 rfl fun _=>⟨rfl,rfl⟩) ?_
           refine .cons (pN 6 29 rfl fun _=>⟨rfl,rfl⟩) ?_
           refine .cons (pN 6 29 rfl fun _=>⟨rfl,rfl⟩) ?_
           refine StepAll.cons ?_ ?_
           · refine HoldStepB.val (by decide) fun a wx γ hn hr hres hpre Ss hH K hK=>?_
             exact hold_new (obj:=.cells #[.int .i64 0,.int .i64 0] 57 (0,0)) (v:=.pointer (some ⟨wx.heap.size,0,none⟩)) (by clear hn hr hK; generalize a.eval = ρ at *; simp [execOp,go_sem]) rfl rfl hH hK
           refine StepAll.cons ?_ ?_
           · refine HoldStepB.fil 9 (by decide) fun a wx γ hn hr hres hpre Ss hH K hK=>?_
             have e10:a.eval (.tmp 10) = .pointer (some ⟨(γ 9).2,0,none⟩):=hn 9 (by decide) 10 rfl
             have e36:a.eval (.tmp 36) = .agg #[.int .i64 dk,.int .i64 de]:=hn 7 (by decide) 36 rfl
             have hH2:Hd W wx (Blk (γ 9).2 (.cells #[.int .i64 0,.int .i64 0] 57 (0,0))::(Ss ++ (Blk p8 (.cells #[.int .i64 ok,.int .i64 oe] 57 (0,0))::Blk p (.cells #[.pointer (some ⟨b,0,none⟩),.int .i64 xh,.int .i64 xs,.int .i64 xr,.int .i64 xv,.int .i64 ok,.int .i64 oe,.int .i64 sent,.int .i64 rc.ik,.int .i64 rc.ie,.int .u64 rc.nx,.int .u64 rc.bt,.slice ad rc.es.length cap] 94 (0,0))::Rs))):=hH
             have hk:=hH2.blk
             have c0:=(cell_of_heap hk 0).trans (show _ = some (.int .i64 0) from rfl)
             have c1:=(cell_of_heap hk 1).trans (show _ = some (.int .i64 0) from rfl)
             have cf:=frozen_of_heap hk
             clear hk hH
             exact hold_filB (w':=((wx.setCell ⟨(γ 9).2,0,none⟩ (.int .i64 dk)).setCell ⟨(γ 9).2,1,none⟩ (.int .i64 de))) (by clear hn hr hK hH2; generalize a.eval = ρ at *; simp [execOp,e10,e36,c0,c1,cf,go_sem]) rfl rfl ((hH2.set 0 (.int .i64 dk)).set 1 (.int .i64 de)) hK
           refine .cons (pN 8 37 rfl fun _=>⟨rfl,rfl⟩) ?_
           exact trivial
          case done5_2 =>
           intro f w9 g9 hv h9
           have er10:f 10 = .pointer (some ⟨(g9 9).2,0,none⟩):=hv 9 10 rfl
           have er11:f 11 = .int .i64 0:=hv 11 11 rfl
           have hd:Hd W w9 (Blk (g9 9).2 (.cells #[.int .i64 dk,.int .i64 de] 57 (0,0))::RSto b Lx m::Blk p8 (.cells #[.int .i64 ok,.int .i64 oe] 57 (0,0))::Blk p (.cells #[.pointer (some ⟨b,0,none⟩),.int .i64 xh,.int .i64 xs,.int .i64 xr,.int .i64 xv,.int .i64 ok,.int .i64 oe,.int .i64 sent,.int .i64 rc.ik,.int .i64 rc.ie,.int .u64 rc.nx,.int .u64 rc.bt,.slice ad rc.es.length cap] 94 (0,0))::Rs):=h9
           obtain ⟨⟨_,p10⟩,hG9⟩:∃ x,g9 9 = x:=⟨_,rfl⟩
           simp only [hG9] at hd er10 er11
           clear hv h9 hG9 cf29
           clear g9
           simp only [patchG,Nat.reduceAdd,Nat.reduceLeDiff,decide_true,decide_false,Bool.and_true,Bool.and_false,Bool.or_true,Bool.or_false,cond_true,cond_false,er10,er11]
           clear er10 er11
           clear H HN
           have H:=hid hd
           clear hd
           have hk:=Hd.nthk 0 H.out rfl
           have c0:=(cell_of_heap hk 0).trans (show _ = some (.int .i64 dk) from rfl)
           have c1:=(cell_of_heap hk 1).trans (show _ = some (.int .i64 de) from rfl)
           have cs:=(Array.getElem?_eq_some_iff.1 hk).1
           clear hk
           have hk:=Hd.nthk 2 H.out rfl
           have q0:=(cell_of_heap hk 0).trans (show _ = some (.int .i64 ok) from rfl)
           have q1:=(cell_of_heap hk 1).trans (show _ = some (.int .i64 oe) from rfl)
           have qs:=(Array.getElem?_eq_some_iff.1 hk).1
           have qf:=frozen_of_heap hk
           clear hk
           have hne:=blks_ne (((((H.out.front 3 rfl).front 2 rfl).front 3 rfl).front 3 rfl))
           have hne2:¬ p8 = p10:=fun e=>hne e.symm
           go_wp2_with fail
           have H2:=hid (((((((((((H.out.front 3 rfl).front 2 rfl).front 2 rfl).front 3 rfl).set 0 (.int .i64 dk)).set 1 (.int .i64 de)).front 3 rfl).front 1 rfl).front 3 rfl).front 3 rfl)).drop
           obtain ⟨w5,hw5⟩:∃ w5,(w9.setCell ⟨p8,0,none⟩ (.int .i64 dk)).setCell ⟨p8,1,none⟩ (.int .i64 de) = w5:=⟨_,rfl⟩
           rw [hw5] at H2 ⊢
           clear H c0 c1 cs q0 q1 qs qf hne hne2 hw5
           have H:Hid (Hd W w5 (RSto b Lx m::Blk p8 (.cells #[.int .i64 dk,.int .i64 de] 57 (0,0))::Blk p (.cells #[.pointer (some ⟨b,0,none⟩),.int .i64 xh,.int .i64 xs,.int .i64 xr,.int .i64 xv,.int .i64 ok,.int .i64 oe,.int .i64 sent,.int .i64 rc.ik,.int .i64 rc.ie,.int .u64 rc.nx,.int .u64 rc.bt,.slice ad rc.es.length cap] 94 (0,0))::Rs)):=H2
           clear H2
           have cf27:∀ args w,(callFunc 27 args).run Try.prog w = .ok (.enter 27 args) w:=fun args w=>by kernel_rfl
           refine hold_coreB (P:=Try.prog) (W:=W) (Rs:=(Blk p8 (.cells #[.int .i64 dk,.int .i64 de] 57 (0,0))::Blk p (.cells #[.pointer (some ⟨b,0,none⟩),.int .i64 xh,.int .i64 xs,.int .i64 xr,.int .i64 xv,.int .i64 ok,.int .i64 oe,.int .i64 sent,.int .i64 rc.ik,.int .i64 rc.ie,.int .u64 rc.nx,.int .u64 rc.bt,.slice ad rc.es.length cap] 94 (0,0))::Rs)) [[],[0],[1],[2],[],[3,4],[5],[6],[6],[7],[8]] [[],[],[],[],[],[],[],[],[],[],[]] ([some 43,some 44,some 45,some 46,some 47,some 48,some 42,some 49,some 50,some 12,some 13]:List (Option Nat)) ([none,none,none,none,none,none,none,none,none,none,none,some 5]:List (Option Nat)) ((fun _=>pt p 0)::(fun _=>pt p 0)::(fun _=>pt p 0)::(fun _=>pt b 0)::(fun _=>.agg #[.int .i64 dk,.int .i64 de])::(fun _=>.tuple #[.int .i64 p1,.int .i64 0])::(fun _=>.tuple #[.int .i64 p1,.int .i64 0])::(fun _=>.int .i64 p1)::(fun _=>.int .i64 0)::(fun _=>.int .i64 p1)::(fun _=>.int .i64 0)::[]) (zR::zR::zR::zR::zR::zR::zR::zR::zR::zR::zR::(fun _=>[RSto b Lx m])::([]:List (List Gh → List Res))) (zR::zR::zR::zR::zR::zR::zR::zR::zR::zR::zR::(fun _=>[RSto b Ly m])::([]:List (List Gh → List Res))) (by kernel_rfl) rfl (hold_lt (n:=87) (by decide)) H.out rfl (by decide) (hold_nil (fs:=[5]) trivial rfl ?nil10_2) ?gd10_2 ?step10_2 (fun t=>(decide (12 ≤ t) && decide (t ≤ 13)) || (decide (42 ≤ t) && decide (t ≤ 50))) (by decide) ?done10_2 (fun I h0 st dn=>run_wpB mixed I h0 st dn)
           case nil10_2 =>
            intro s gs hs
            simp only [List.mem_cons,List.not_mem_nil,or_false] at hs
            subst hs; rfl
           case gd10_2 =>
            repeat (refine StepAll.cons (by first | exact trivial | exact fun g=>rfl) ?_)
            exact trivial
           case step10_2 =>
            refine .cons (pR 0 rfl fun _=>⟨rfl,rfl⟩) ?_
            refine .cons (pN 0 43 rfl fun _=>⟨rfl,rfl⟩) ?_
            refine .cons (pF 1 44 0 rfl rfl (fun b q w=>by simp [go_sem]) fun _=>⟨⟨_,_,rfl,rfl⟩,rfl⟩) ?_
            refine StepAll.cons ?_ ?_
            · refine HoldStepB.val (by decide) fun a wx γ hn hr hres hpre Ss hH K hK=>?_
              have e45:a.eval (.tmp 45) = .pointer (some ⟨p,0,none⟩):=hn 2 (by decide) 45 rfl
              exact hold_run (v:=.pointer (some ⟨b,0,none⟩)) (by clear hn hr hK; generalize a.eval = ρ at *; simp [execOp,e45,cell_of_heap (Hd.nthk 1 hH.rear rfl),go_sem]) rfl rfl hH hK
            refine StepAll.cons ?_ ?_
            · refine HoldStepB.val (by decide) fun a wx γ hn hr hres hpre Ss hH K hK=>?_
              have e8:a.eval (.tmp 8) = .pointer (some ⟨p8,0,none⟩):=(hr 8 (by decide)).trans rfl
              exact hold_run (v:=.agg #[.int .i64 dk,.int .i64 de]) (by clear hn hr hK; generalize a.eval = ρ at *; simp [execOp,e8,cell_of_heap (Hd.nthk 0 hH.rear rfl),go_sem]) rfl rfl hH hK
            refine StepAll.cons ?_ ?_
            · refine HoldStepB.fil 11 (by decide) fun a wx γ hn hr hres hpre Ss hH K hK=>?_
              have e46:a.eval (.tmp 46) = .pointer (some ⟨b,0,none⟩):=hn 3 (by decide) 46 rfl
              have e47:a.eval (.tmp 47) = .agg #[.int .i64 dk,.int .i64 de]:=hn 4 (by decide) 47 rfl
              have ef:a.eval (.func 27) = .func (.func 27) #[] #[]:=rfl
              refine hold_callB (b:=11) (f:=27) (args:=#[.pointer (some ⟨b,0,none⟩),.agg #[.int .i64 dk,.int .i64 de]]) (by clear hn hr hK hH; generalize a.eval = ρ at *; simp [execOp,e46,e47,cf27,ef,go_sem]) ?_ hK
              exact (rseal15_calls dk de HP.out hH).mono fun e2 w2 h=>⟨default,h.1,h.2⟩
            refine .cons (pN 5 48 rfl fun _=>⟨rfl,rfl⟩) ?_
            refine .cons (pN 6 42 rfl fun _=>⟨rfl,rfl⟩) ?_
            refine .cons (pN 6 42 rfl fun _=>⟨rfl,rfl⟩) ?_
            refine .cons (pN 7 49 rfl fun _=>⟨rfl,rfl⟩) ?_
            refine .cons (pN 8 50 rfl fun _=>⟨rfl,rfl⟩) ?_
            exact trivial
           case done10_2 =>
            intro f w9 g9 hv h9
            have er12:f 12 = .int .i64 p1:=hv 9 12 rfl
            have er13:f 13 = .int .i64 0:=hv 10 13 rfl
            have hd:Hd W w9 (RSto b Ly m::Blk p8 (.cells #[.int .i64 dk,.int .i64 de] 57 (0,0))::Blk p (.cells #[.pointer (some ⟨b,0,none⟩),.int .i64 xh,.int .i64 xs,.int .i64 xr,.int .i64 xv,.int .i64 ok,.int .i64 oe,.int .i64 sent,.int .i64 rc.ik,.int .i64 rc.ie,.int .u64 rc.nx,.int .u64 rc.bt,.slice ad rc.es.length cap] 94 (0,0))::Rs):=h9
            clear hv h9 cf27
            clear g9
            simp only [patchG,Nat.reduceAdd,Nat.reduceLeDiff,decide_true,decide_false,Bool.and_true,Bool.and_false,Bool.or_true,Bool.or_false,cond_true,cond_false,er12,er13]
            clear er12 er13
            clear H HP
            have H:=hid hd
            clear hd
            go_wp2_with fail
            have cf65:∀ args w,(callFunc 65 args).run Try.prog w = .ok (.enter 65 args) w:=fun args w=>by kernel_rfl
            refine hold_coreB (P:=Try.prog) (W:=W) (Rs:=(Blk p8 (.cells #[.int .i64 dk,.int .i64 de] 57 (0,0))::Blk p (.cells #[.pointer (some ⟨b,0,none⟩),.int .i64 xh,.int .i64 xs,.int .i64 xr,.int .i64 xv,.int .i64 ok,.int .i64 oe,.int .i64 sent,.int .i64 rc.ik,.int .i64 rc.ie,.int .u64 rc.nx,.int .u64 rc.bt,.slice ad rc.es.length cap] 94 (0,0))::Rs)) [[],[0],[1],[2],[],[],[5],[],[7],[8],[9],[10],[],[3,4,6,11,12],[13],[14],[14],[15],[16]] [[],[],[],[],[],[],[],[],[],[],[],[],[],[],[],[],[],[],[]] ([some 55,some 56,some 57,some 58,some 59,some 60,some 61,some 62,some 63,some 64,some 65,some 66,some 67,some 68,some 54,some 69,some 70,some 14,some 15]:List (Option Nat)) ([none,none,none,none,none,none,none,none,none,none,none,none,none,none,none,none,none,none,none,some 13]:List (Option Nat)) ((fun _=>pt p 0)::(fun _=>pt p 0)::(fun _=>pt p 0)::(fun _=>pt b 0)::(fun _=>.int .i64 p1)::(fun _=>.int .i64 (0))::(fun _=>.int .u64 (0))::(fun _=>pt p 0)::(fun _=>pt p 0)::(fun _=>pt p 1)::(fun _=>pt p 1)::(fun _=>.int .i64 xh)::(fun _=>.string s)::(fun _=>.tuple #[.int .i64 c,.int .i64 er])::(fun _=>.tuple #[.int .i64 c,.int .i64 er])::(fun _=>.int .i64 c)::(fun _=>.int .i64 er)::(fun _=>.int .i64 c)::(fun _=>.int .i64 er)::[]) (zR::zR::zR::zR::zR::zR::zR::zR::zR::zR::zR::zR::zR::zR::zR::zR::zR::zR::zR::(fun _=>[RSto b Ly m])::([]:List (List Gh → List Res))) (zR::zR::zR::zR::zR::zR::zR::zR::zR::zR::zR::zR::zR::zR::zR::zR::zR::zR::zR::(fun _=>[RSto b Lz m])::([]:List (List Gh → List Res))) (by kernel_rfl) rfl (hold_lt (n:=87) (by decide)) H.out rfl (by decide) (hold_nil (fs:=[13]) trivial rfl ?nil13_2) ?gd13_2 ?step13_2 (fun t=>(decide (14 ≤ t) && decide (t ≤ 15)) || (decide (54 ≤ t) && decide (t ≤ 70))) (by decide) ?done13_2 (fun I h0 st dn=>run_wpB mixed I h0 st dn)
            case nil13_2 =>
             intro s gs hs
             simp only [List.mem_cons,List.not_mem_nil,or_false] at hs
             subst hs; rfl
            case gd13_2 =>
             repeat (refine StepAll.cons (by first | exact trivial | exact fun g=>rfl) ?_)
             exact trivial
            case step13_2 =>
             refine .cons (pR 0 rfl fun _=>⟨rfl,rfl⟩) ?_
             refine .cons (pN 0 55 rfl fun _=>⟨rfl,rfl⟩) ?_
             refine .cons (pF 1 56 0 rfl rfl (fun b q w=>by simp [go_sem]) fun _=>⟨⟨_,_,rfl,rfl⟩,rfl⟩) ?_
             refine StepAll.cons ?_ ?_
             · refine HoldStepB.val (by decide) fun a wx γ hn hr hres hpre Ss hH K hK=>?_
               have e57:a.eval (.tmp 57) = .pointer (some ⟨p,0,none⟩):=hn 2 (by decide) 57 rfl
               exact hold_run (v:=.pointer (some ⟨b,0,none⟩)) (by clear hn hr hK; generalize a.eval = ρ at *; simp [execOp,e57,cell_of_heap (Hd.nthk 1 hH.rear rfl),go_sem]) rfl rfl hH hK
             refine .cons (pR 12 rfl fun _=>⟨rfl,rfl⟩) ?_
             refine .cons (pR 9 rfl fun _=>⟨rfl,rfl⟩) ?_
             refine StepAll.cons ?_ ?_
             · refine HoldStepB.val (by decide) fun a wx γ hn hr hres hpre Ss hH K hK=>?_
               have e60:a.eval (.tmp 60) = .int .i64 (0):=hn 5 (by decide) 60 rfl
               exact hold_run (v:=.int .u64 (0)) (by clear hn hr hK; generalize a.eval = ρ at *; simp [execOp,e60,zcv,go_sem]) rfl rfl hH hK
             refine .cons (pR 0 rfl fun _=>⟨rfl,rfl⟩) ?_
             refine .cons (pN 7 62 rfl fun _=>⟨rfl,rfl⟩) ?_
             refine .cons (pF 8 63 1 rfl rfl (fun b q w=>by simp [go_sem]) fun _=>⟨⟨_,_,rfl,rfl⟩,rfl⟩) ?_
             refine .cons (pF 9 64 0 rfl rfl (fun b q w=>by simp [go_sem]) fun _=>⟨⟨_,_,rfl,rfl⟩,rfl⟩) ?_
             refine StepAll.cons ?_ ?_
             · refine HoldStepB.val (by decide) fun a wx γ hn hr hres hpre Ss hH K hK=>?_
               have e65:a.eval (.tmp 65) = .pointer (some ⟨p,1,none⟩):=hn 10 (by decide) 65 rfl
               exact hold_run (v:=.int .i64 xh) (by clear hn hr hK; generalize a.eval = ρ at *; simp [execOp,e65,cell_of_heap (Hd.nthk 1 hH.rear rfl),go_sem]) rfl rfl hH hK
             refine .cons (pR 1 rfl fun _=>⟨rfl,rfl⟩) ?_
             refine StepAll.cons ?_ ?_
             · refine HoldStepB.fil 19 (by decide) fun a wx γ hn hr hres hpre Ss hH K hK=>?_
               have e58:a.eval (.tmp 58) = .pointer (some ⟨b,0,none⟩):=hn 3 (by decide) 58 rfl
               have e59:a.eval (.tmp 59) = .int .i64 p1:=hn 4 (by decide) 59 rfl
               have e61:a.eval (.tmp 61) = .int .u64 (0):=hn 6 (by decide) 61 rfl
               have e66:a.eval (.tmp 66) = .int .i64 xh:=hn 11 (by decide) 66 rfl
               have e67:a.eval (.tmp 67) = .string s:=hn 12 (by decide) 67 rfl
               have ef:a.eval (.func 65) = .func (.func 65) #[] #[]:=rfl
               refine hold_callB (b:=19) (f:=65) (args:=#[.pointer (some ⟨b,0,none⟩),.int .i64 p1,.int .u64 (0),.int .i64 xh,.string s]) (by clear hn hr hK hH; generalize a.eval = ρ at *; simp [execOp,e58,e59,e61,e66,e67,cf65,ef,go_sem]) ?_ hK
               refine (rtext_calls p1 (0) xh s HSZ.out hH).mono fun e2 w2 h=>?_
               rw [HT.out] at h
               exact ⟨default,h.1,h.2⟩
             refine .cons (pN 13 68 rfl fun _=>⟨rfl,rfl⟩) ?_
             refine .cons (pN 14 54 rfl fun _=>⟨rfl,rfl⟩) ?_
             refine .cons (pN 14 54 rfl fun _=>⟨rfl,rfl⟩) ?_
             refine .cons (pN 15 69 rfl fun _=>⟨rfl,rfl⟩) ?_
             refine .cons (pN 16 70 rfl fun _=>⟨rfl,rfl⟩) ?_
             exact trivial
            case done13_2 =>
             intro f w9 g9 hv h9
             have er14:f 14 = .int .i64 c:=hv 17 14 rfl
             have er15:f 15 = .int .i64 er:=hv 18 15 rfl
             have hd:Hd W w9 (RSto b Lz m::Blk p8 (.cells #[.int .i64 dk,.int .i64 de] 57 (0,0))::Blk p (.cells #[.pointer (some ⟨b,0,none⟩),.int .i64 xh,.int .i64 xs,.int .i64 xr,.int .i64 xv,.int .i64 ok,.int .i64 oe,.int .i64 sent,.int .i64 rc.ik,.int .i64 rc.ie,.int .u64 rc.nx,.int .u64 rc.bt,.slice ad rc.es.length cap] 94 (0,0))::Rs):=h9
             clear hv h9 cf65
             clear g9
             simp only [patchG,Nat.reduceAdd,Nat.reduceLeDiff,decide_true,decide_false,Bool.and_true,Bool.and_false,Bool.or_true,Bool.or_false,cond_true,cond_false,er14,er15]
             clear er14 er15
             clear H HT
             have H:=hid hd
             clear hd
             go_wp2_with fail
             refine bodyPost_ret (v:=.tuple #[.int .i64 0,.int .i64 0,.int .i64 0,.int .i64 er]) (by simp [results,Try.results38,go_sem]) rfl ⟨rfl,by first | rfl | trivial,?_⟩
             exact H.out.un2
     · rw [if_neg h3] at hq
       dsimp only at hq
       rw [if_neg h3] at hq
       simp only [Prod.mk.injEq] at hq
       obtain ⟨⟨rfl,rfl,rfl,rfl⟩,rfl,rfl⟩:=hq
       have g1:(p2 != 0) = true:=by rw [bne_iff_ne]; exact h3
       have g2:decide (p2 = 0) = false:=by simpa using h3
       clear h3
       go_enter Try.func38,Try.ntmps38
       go_wp2_with fail
       refine hold_coreB (P:=Try.prog) (W:=W) (Rs:=(RSto b L m::Blk p (.cells #[.pointer (some ⟨b,0,none⟩),.int .i64 xh,.int .i64 xs,.int .i64 xr,.int .i64 xv,.int .i64 ok,.int .i64 oe,.int .i64 sent,.int .i64 rc.ik,.int .i64 rc.ie,.int .u64 rc.nx,.int .u64 rc.bt,.slice ad rc.es.length cap] 94 (0,0))::Rs)) [[],[0],[1],[2],[],[4],[5],[6],[],[3,8],[7]] [[],[],[],[],[],[],[],[],[8],[8],[]] ([some 19,some 20,some 21,some 22,some 23,some 24,some 25,some 26,some 8,none,some 9]:List (Option Nat)) ([none,none,none,none,none,none,none,none,some 9,none,none]:List (Option Nat)) ((fun _=>pt p 0)::(fun _=>pt p 0)::(fun _=>pt p 5)::(fun _=>.agg #[.int .i64 ok,.int .i64 oe])::(fun _=>pt p 0)::(fun _=>pt p 0)::(fun _=>pt p 7)::(fun _=>.int .i64 sent)::(fun gs=>pt ((gs.getD 0 default).2) 0)::(fun _=>undef)::(fun _=>.int .i64 sent)::[]) (zR::zR::zR::zR::zR::zR::zR::zR::(fun gs=>[Blk (gs.getD 0 default).2 (.cells #[.int .i64 0,.int .i64 0] 57 (0,0))])::zR::zR::([]:List (List Gh → List Res))) (zR::zR::zR::zR::zR::zR::zR::zR::(fun gs=>[Blk (gs.getD 0 default).2 (.cells #[.int .i64 ok,.int .i64 oe] 57 (0,0))])::zR::zR::([]:List (List Gh → List Res))) (by kernel_rfl) rfl (hold_lt (n:=87) (by decide)) H.out rfl (by decide) (hold_nil (fs:=[9]) trivial rfl ?nil3_3) ?gd3_3 ?step3_3 (fun t=>(decide (8 ≤ t) && decide (t ≤ 9)) || (decide (19 ≤ t) && decide (t ≤ 26))) (by decide) ?done3_3 (fun I h0 st dn=>run_wpB mixed I h0 st dn)
       case nil3_3 =>
        intro s gs hs
        simp only [List.mem_cons,List.not_mem_nil,or_false] at hs
        subst hs; rfl
       case gd3_3 =>
        repeat (refine StepAll.cons (by first | exact trivial | exact fun g=>rfl) ?_)
        exact trivial
       case step3_3 =>
        refine .cons (pR 0 rfl fun _=>⟨rfl,rfl⟩) ?_
        refine .cons (pN 0 19 rfl fun _=>⟨rfl,rfl⟩) ?_
        refine .cons (pF 1 20 5 rfl rfl (fun b q w=>by simp [go_sem]) fun _=>⟨⟨_,_,rfl,rfl⟩,rfl⟩) ?_
        refine StepAll.cons ?_ ?_
        · refine HoldStepB.val (by decide) fun a wx γ hn hr hres hpre Ss hH K hK=>?_
          have e21:a.eval (.tmp 21) = .pointer (some ⟨p,5,none⟩):=hn 2 (by decide) 21 rfl
          exact hold_run (v:=.agg #[.int .i64 ok,.int .i64 oe]) (by clear hn hr hK; generalize a.eval = ρ at *; simp [execOp,e21,cell_of_heap (Hd.nthk 1 hH.rear rfl),go_sem]) rfl rfl hH hK
        refine .cons (pR 0 rfl fun _=>⟨rfl,rfl⟩) ?_
        refine .cons (pN 4 23 rfl fun _=>⟨rfl,rfl⟩) ?_
        refine .cons (pF 5 24 7 rfl rfl (fun b q w=>by simp [go_sem]) fun _=>⟨⟨_,_,rfl,rfl⟩,rfl⟩) ?_
        refine StepAll.cons ?_ ?_
        · refine HoldStepB.val (by decide) fun a wx γ hn hr hres hpre Ss hH K hK=>?_
          have e25:a.eval (.tmp 25) = .pointer (some ⟨p,7,none⟩):=hn 6 (by decide) 25 rfl
          exact hold_run (v:=.int .i64 sent) (by clear hn hr hK; generalize a.eval = ρ at *; simp [execOp,e25,cell_of_heap (Hd.nthk 1 hH.rear rfl),go_sem]) rfl rfl hH hK
        refine StepAll.cons ?_ ?_
        · refine HoldStepB.val (by decide) fun a wx γ hn hr hres hpre Ss hH K hK=>?_
          exact hold_new (obj:=.cells #[.int .i64 0,.int .i64 0] 57 (0,0)) (v:=.pointer (some ⟨wx.heap.size,0,none⟩)) (by clear hn hr hK; generalize a.eval = ρ at *; simp [execOp,go_sem]) rfl rfl hH hK
        refine StepAll.cons ?_ ?_
        · refine HoldStepB.fil 8 (by decide) fun a wx γ hn hr hres hpre Ss hH K hK=>?_
          have e8:a.eval (.tmp 8) = .pointer (some ⟨(γ 8).2,0,none⟩):=hn 8 (by decide) 8 rfl
          have e22:a.eval (.tmp 22) = .agg #[.int .i64 ok,.int .i64 oe]:=hn 3 (by decide) 22 rfl
          have hH2:Hd W wx (Blk (γ 8).2 (.cells #[.int .i64 0,.int .i64 0] 57 (0,0))::(Ss ++ (RSto b L m::Blk p (.cells #[.pointer (some ⟨b,0,none⟩),.int .i64 xh,.int .i64 xs,.int .i64 xr,.int .i64 xv,.int .i64 ok,.int .i64 oe,.int .i64 sent,.int .i64 rc.ik,.int .i64 rc.ie,.int .u64 rc.nx,.int .u64 rc.bt,.slice ad rc.es.length cap] 94 (0,0))::Rs))):=hH
          have hk:=hH2.blk
          have c0:=(cell_of_heap hk 0).trans (show _ = some (.int .i64 0) from rfl)
          have c1:=(cell_of_heap hk 1).trans (show _ = some (.int .i64 0) from rfl)
          have cf:=frozen_of_heap hk
          clear hk hH
          exact hold_filB (w':=((wx.setCell ⟨(γ 8).2,0,none⟩ (.int .i64 ok)).setCell ⟨(γ 8).2,1,none⟩ (.int .i64 oe))) (by clear hn hr hK hH2; generalize a.eval = ρ at *; simp [execOp,e8,e22,c0,c1,cf,go_sem]) rfl rfl ((hH2.set 0 (.int .i64 ok)).set 1 (.int .i64 oe)) hK
        refine .cons (pN 7 26 rfl fun _=>⟨rfl,rfl⟩) ?_
        exact trivial
       case done3_3 =>
        intro f w9 g9 hv h9
        have er8:f 8 = .pointer (some ⟨(g9 8).2,0,none⟩):=hv 8 8 rfl
        have er9:f 9 = .int .i64 sent:=hv 10 9 rfl
        have hd:Hd W w9 (Blk (g9 8).2 (.cells #[.int .i64 ok,.int .i64 oe] 57 (0,0))::RSto b L m::Blk p (.cells #[.pointer (some ⟨b,0,none⟩),.int .i64 xh,.int .i64 xs,.int .i64 xr,.int .i64 xv,.int .i64 ok,.int .i64 oe,.int .i64 sent,.int .i64 rc.ik,.int .i64 rc.ie,.int .u64 rc.nx,.int .u64 rc.bt,.slice ad rc.es.length cap] 94 (0,0))::Rs):=h9
        obtain ⟨⟨_,p8⟩,hG8⟩:∃ x,g9 8 = x:=⟨_,rfl⟩
        simp only [hG8] at hd er8 er9
        clear hv h9 hG8 
        clear g9
        simp only [patchG,Nat.reduceAdd,Nat.reduceLeDiff,decide_true,decide_false,Bool.and_true,Bool.and_false,Bool.or_true,Bool.or_false,cond_true,cond_false,er8,er9]
        clear er8 er9
        clear H
        have H:=hid ((((hd.front 2 rfl).front 1 rfl).front 2 rfl))
        clear hd
        go_wp2_with fail
        have cf29:∀ args w,(callFunc 29 args).run Try.prog w = .ok (.enter 29 args) w:=fun args w=>by kernel_rfl
        refine hold_coreB (P:=Try.prog) (W:=W) (Rs:=(Blk p8 (.cells #[.int .i64 ok,.int .i64 oe] 57 (0,0))::Blk p (.cells #[.pointer (some ⟨b,0,none⟩),.int .i64 xh,.int .i64 xs,.int .i64 xr,.int .i64 xv,.int .i64 ok,.int .i64 oe,.int .i64 sent,.int .i64 rc.ik,.int .i64 rc.ie,.int .u64 rc.nx,.int .u64 rc.bt,.slice ad rc.es.length cap] 94 (0,0))::Rs)) [[],[0],[1],[2],[],[3,4],[5],[6],[6],[],[7,9],[8]] [[],[],[],[],[],[],[],[],[],[9],[9],[]] ([some 30,some 31,some 32,some 33,some 34,some 35,some 29,some 36,some 37,some 10,none,some 11]:List (Option Nat)) ([none,none,none,none,none,none,none,none,none,some 10,none,none,some 5]:List (Option Nat)) ((fun _=>pt p 0)::(fun _=>pt p 0)::(fun _=>pt p 0)::(fun _=>pt b 0)::(fun _=>.agg #[.int .i64 ok,.int .i64 oe])::(fun _=>.tuple #[.agg #[.int .i64 dk,.int .i64 de],.int .i64 0])::(fun _=>.tuple #[.agg #[.int .i64 dk,.int .i64 de],.int .i64 0])::(fun _=>.agg #[.int .i64 dk,.int .i64 de])::(fun _=>.int .i64 0)::(fun gs=>pt ((gs.getD 0 default).2) 0)::(fun _=>undef)::(fun _=>.int .i64 0)::[]) (zR::zR::zR::zR::zR::zR::zR::zR::zR::(fun gs=>[Blk (gs.getD 0 default).2 (.cells #[.int .i64 0,.int .i64 0] 57 (0,0))])::zR::zR::(fun _=>[RSto b L m])::([]:List (List Gh → List Res))) (zR::zR::zR::zR::zR::zR::zR::zR::zR::(fun gs=>[Blk (gs.getD 0 default).2 (.cells #[.int .i64 dk,.int .i64 de] 57 (0,0))])::zR::zR::(fun _=>[RSto b Lx m])::([]:List (List Gh → List Res))) (by kernel_rfl) rfl (hold_lt (n:=87) (by decide)) H.out rfl (by decide) (hold_nil (fs:=[10,5]) trivial rfl ?nil5_3) ?gd5_3 ?step5_3 (fun t=>(decide (10 ≤ t) && decide (t ≤ 11)) || (decide (29 ≤ t) && decide (t ≤ 37))) (by decide) ?done5_3 (fun I h0 st dn=>run_wpB mixed I h0 st dn)
        case nil5_3 =>
         intro s gs hs
         simp only [List.mem_cons,List.not_mem_nil,or_false] at hs
         rcases hs with rfl | rfl <;> rfl
        case gd5_3 =>
         repeat (refine StepAll.cons (by first | exact trivial | exact fun g=>rfl) ?_)
         exact trivial
        case step5_3 =>
         refine .cons (pR 0 rfl fun _=>⟨rfl,rfl⟩) ?_
         refine .cons (pN 0 30 rfl fun _=>⟨rfl,rfl⟩) ?_
         refine .cons (pF 1 31 0 rfl rfl (fun b q w=>by simp [go_sem]) fun _=>⟨⟨_,_,rfl,rfl⟩,rfl⟩) ?_
         refine StepAll.cons ?_ ?_
         · refine HoldStepB.val (by decide) fun a wx γ hn hr hres hpre Ss hH K hK=>?_
           have e32:a.eval (.tmp 32) = .pointer (some ⟨p,0,none⟩):=hn 2 (by decide) 32 rfl
           exact hold_run (v:=.pointer (some ⟨b,0,none⟩)) (by clear hn hr hK; generalize a.eval = ρ at *; simp [execOp,e32,cell_of_heap (Hd.nthk 1 hH.rear rfl),go_sem]) rfl rfl hH hK
         refine StepAll.cons ?_ ?_
         · refine HoldStepB.val (by decide) fun a wx γ hn hr hres hpre Ss hH K hK=>?_
           have e8:a.eval (.tmp 8) = .pointer (some ⟨p8,0,none⟩):=(hr 8 (by decide)).trans rfl
           exact hold_run (v:=.agg #[.int .i64 ok,.int .i64 oe]) (by clear hn hr hK; generalize a.eval = ρ at *; simp [execOp,e8,cell_of_heap (Hd.nthk 0 hH.rear rfl),go_sem]) rfl rfl hH hK
         refine StepAll.cons ?_ ?_
         · refine HoldStepB.fil 12 (by decide) fun a wx γ hn hr hres hpre Ss hH K hK=>?_
           have e33:a.eval (.tmp 33) = .pointer (some ⟨b,0,none⟩):=hn 3 (by decide) 33 rfl
           have e34:a.eval (.tmp 34) = .agg #[.int .i64 ok,.int .i64 oe]:=hn 4 (by decide) 34 rfl
           have ef:a.eval (.func 29) = .func (.func 29) #[] #[]:=rfl
           refine hold_callB (b:=12) (f:=29) (args:=#[.pointer (some ⟨b,0,none⟩),.agg #[.int .i64 ok,.int .i64 oe]]) (by clear hn hr hK hH; generalize a.eval = ρ at *; simp [execOp,e33,e34,cf29,ef,go_sem]) ?_ hK
           exact (rnext15_calls ok oe HN.out hH).mono fun e2 w2 h=>⟨default,h.1,h.2⟩
         refine .cons (pN 5 35 rfl fun _=>⟨rfl,rfl⟩) ?_
         refine .cons (pN 6 29 rfl fun _=>⟨rfl,rfl⟩) ?_
         refine .cons (pN 6 29 rfl fun _=>⟨rfl,rfl⟩) ?_
         refine StepAll.cons ?_ ?_
         · refine HoldStepB.val (by decide) fun a wx γ hn hr hres hpre Ss hH K hK=>?_
           exact hold_new (obj:=.cells #[.int .i64 0,.int .i64 0] 57 (0,0)) (v:=.pointer (some ⟨wx.heap.size,0,none⟩)) (by clear hn hr hK; generalize a.eval = ρ at *; simp [execOp,go_sem]) rfl rfl hH hK
         refine StepAll.cons ?_ ?_
         · refine HoldStepB.fil 9 (by decide) fun a wx γ hn hr hres hpre Ss hH K hK=>?_
           have e10:a.eval (.tmp 10) = .pointer (some ⟨(γ 9).2,0,none⟩):=hn 9 (by decide) 10 rfl
           have e36:a.eval (.tmp 36) = .agg #[.int .i64 dk,.int .i64 de]:=hn 7 (by decide) 36 rfl
           have hH2:Hd W wx (Blk (γ 9).2 (.cells #[.int .i64 0,.int .i64 0] 57 (0,0))::(Ss ++ (Blk p8 (.cells #[.int .i64 ok,.int .i64 oe] 57 (0,0))::Blk p (.cells #[.pointer (some ⟨b,0,none⟩),.int .i64 xh,.int .i64 xs,.int .i64 xr,.int .i64 xv,.int .i64 ok,.int .i64 oe,.int .i64 sent,.int .i64 rc.ik,.int .i64 rc.ie,.int .u64 rc.nx,.int .u64 rc.bt,.slice ad rc.es.length cap] 94 (0,0))::Rs))):=hH
           have hk:=hH2.blk
           have c0:=(cell_of_heap hk 0).trans (show _ = some (.int .i64 0) from rfl)
           have c1:=(cell_of_heap hk 1).trans (show _ = some (.int .i64 0) from rfl)
           have cf:=frozen_of_heap hk
           clear hk hH
           exact hold_filB (w':=((wx.setCell ⟨(γ 9).2,0,none⟩ (.int .i64 dk)).setCell ⟨(γ 9).2,1,none⟩ (.int .i64 de))) (by clear hn hr hK hH2; generalize a.eval = ρ at *; simp [execOp,e10,e36,c0,c1,cf,go_sem]) rfl rfl ((hH2.set 0 (.int .i64 dk)).set 1 (.int .i64 de)) hK
         refine .cons (pN 8 37 rfl fun _=>⟨rfl,rfl⟩) ?_
         exact trivial
        case done5_3 =>
         intro f w9 g9 hv h9
         have er10:f 10 = .pointer (some ⟨(g9 9).2,0,none⟩):=hv 9 10 rfl
         have er11:f 11 = .int .i64 0:=hv 11 11 rfl
         have hd:Hd W w9 (Blk (g9 9).2 (.cells #[.int .i64 dk,.int .i64 de] 57 (0,0))::RSto b Lx m::Blk p8 (.cells #[.int .i64 ok,.int .i64 oe] 57 (0,0))::Blk p (.cells #[.pointer (some ⟨b,0,none⟩),.int .i64 xh,.int .i64 xs,.int .i64 xr,.int .i64 xv,.int .i64 ok,.int .i64 oe,.int .i64 sent,.int .i64 rc.ik,.int .i64 rc.ie,.int .u64 rc.nx,.int .u64 rc.bt,.slice ad rc.es.length cap] 94 (0,0))::Rs):=h9
         obtain ⟨⟨_,p10⟩,hG9⟩:∃ x,g9 9 = x:=⟨_,rfl⟩
         simp only [hG9] at hd er10 er11
         clear hv h9 hG9 cf29
         clear g9
         simp only [patchG,Nat.reduceAdd,Nat.reduceLeDiff,decide_true,decide_false,Bool.and_true,Bool.and_false,Bool.or_true,Bool.or_false,cond_true,cond_false,er10,er11]
         clear er10 er11
         clear H HN
         have H:=hid hd
         clear hd
         have hk:=Hd.nthk 0 H.out rfl
         have c0:=(cell_of_heap hk 0).trans (show _ = some (.int .i64 dk) from rfl)
         have c1:=(cell_of_heap hk 1).trans (show _ = some (.int .i64 de) from rfl)
         have cs:=(Array.getElem?_eq_some_iff.1 hk).1
         clear hk
         have hk:=Hd.nthk 2 H.out rfl
         have q0:=(cell_of_heap hk 0).trans (show _ = some (.int .i64 ok) from rfl)
         have q1:=(cell_of_heap hk 1).trans (show _ = some (.int .i64 oe) from rfl)
         have qs:=(Array.getElem?_eq_some_iff.1 hk).1
         have qf:=frozen_of_heap hk
         clear hk
         have hne:=blks_ne (((((H.out.front 3 rfl).front 2 rfl).front 3 rfl).front 3 rfl))
         have hne2:¬ p8 = p10:=fun e=>hne e.symm
         go_wp2_with fail
         have H2:=hid (((((((((((H.out.front 3 rfl).front 2 rfl).front 2 rfl).front 3 rfl).set 0 (.int .i64 dk)).set 1 (.int .i64 de)).front 3 rfl).front 1 rfl).front 3 rfl).front 3 rfl)).drop
         obtain ⟨w5,hw5⟩:∃ w5,(w9.setCell ⟨p8,0,none⟩ (.int .i64 dk)).setCell ⟨p8,1,none⟩ (.int .i64 de) = w5:=⟨_,rfl⟩
         rw [hw5] at H2 ⊢
         clear H c0 c1 cs q0 q1 qs qf hne hne2 hw5
         have H:Hid (Hd W w5 (RSto b Lx m::Blk p8 (.cells #[.int .i64 dk,.int .i64 de] 57 (0,0))::Blk p (.cells #[.pointer (some ⟨b,0,none⟩),.int .i64 xh,.int .i64 xs,.int .i64 xr,.int .i64 xv,.int .i64 ok,.int .i64 oe,.int .i64 sent,.int .i64 rc.ik,.int .i64 rc.ie,.int .u64 rc.nx,.int .u64 rc.bt,.slice ad rc.es.length cap] 94 (0,0))::Rs)):=H2
         clear H2
         have cf27:∀ args w,(callFunc 27 args).run Try.prog w = .ok (.enter 27 args) w:=fun args w=>by kernel_rfl
         refine hold_coreB (P:=Try.prog) (W:=W) (Rs:=(Blk p8 (.cells #[.int .i64 dk,.int .i64 de] 57 (0,0))::Blk p (.cells #[.pointer (some ⟨b,0,none⟩),.int .i64 xh,.int .i64 xs,.int .i64 xr,.int .i64 xv,.int .i64 ok,.int .i64 oe,.int .i64 sent,.int .i64 rc.ik,.int .i64 rc.ie,.int .u64 rc.nx,.int .u64 rc.bt,.slice ad rc.es.length cap] 94 (0,0))::Rs)) [[],[0],[1],[2],[],[3,4],[5],[6],[6],[7],[8]] [[],[],[],[],[],[],[],[],[],[],[]] ([some 43,some 44,some 45,some 46,some 47,some 48,some 42,some 49,some 50,some 12,some 13]:List (Option Nat)) ([none,none,none,none,none,none,none,none,none,none,none,some 5]:List (Option Nat)) ((fun _=>pt p 0)::(fun _=>pt p 0)::(fun _=>pt p 0)::(fun _=>pt b 0)::(fun _=>.agg #[.int .i64 dk,.int .i64 de])::(fun _=>.tuple #[.int .i64 p1,.int .i64 p2])::(fun _=>.tuple #[.int .i64 p1,.int .i64 p2])::(fun _=>.int .i64 p1)::(fun _=>.int .i64 p2)::(fun _=>.int .i64 p1)::(fun _=>.int .i64 p2)::[]) (zR::zR::zR::zR::zR::zR::zR::zR::zR::zR::zR::(fun _=>[RSto b Lx m])::([]:List (List Gh → List Res))) (zR::zR::zR::zR::zR::zR::zR::zR::zR::zR::zR::(fun _=>[RSto b Ly m])::([]:List (List Gh → List Res))) (by kernel_rfl) rfl (hold_lt (n:=87) (by decide)) H.out rfl (by decide) (hold_nil (fs:=[5]) trivial rfl ?nil10_3) ?gd10_3 ?step10_3 (fun t=>(decide (12 ≤ t) && decide (t ≤ 13)) || (decide (42 ≤ t) && decide (t ≤ 50))) (by decide) ?done10_3 (fun I h0 st dn=>run_wpB mixed I h0 st dn)
         case nil10_3 =>
          intro s gs hs
          simp only [List.mem_cons,List.not_mem_nil,or_false] at hs
          subst hs; rfl
         case gd10_3 =>
          repeat (refine StepAll.cons (by first | exact trivial | exact fun g=>rfl) ?_)
          exact trivial
         case step10_3 =>
          refine .cons (pR 0 rfl fun _=>⟨rfl,rfl⟩) ?_
          refine .cons (pN 0 43 rfl fun _=>⟨rfl,rfl⟩) ?_
          refine .cons (pF 1 44 0 rfl rfl (fun b q w=>by simp [go_sem]) fun _=>⟨⟨_,_,rfl,rfl⟩,rfl⟩) ?_
          refine StepAll.cons ?_ ?_
          · refine HoldStepB.val (by decide) fun a wx γ hn hr hres hpre Ss hH K hK=>?_
            have e45:a.eval (.tmp 45) = .pointer (some ⟨p,0,none⟩):=hn 2 (by decide) 45 rfl
            exact hold_run (v:=.pointer (some ⟨b,0,none⟩)) (by clear hn hr hK; generalize a.eval = ρ at *; simp [execOp,e45,cell_of_heap (Hd.nthk 1 hH.rear rfl),go_sem]) rfl rfl hH hK
          refine StepAll.cons ?_ ?_
          · refine HoldStepB.val (by decide) fun a wx γ hn hr hres hpre Ss hH K hK=>?_
            have e8:a.eval (.tmp 8) = .pointer (some ⟨p8,0,none⟩):=(hr 8 (by decide)).trans rfl
            exact hold_run (v:=.agg #[.int .i64 dk,.int .i64 de]) (by clear hn hr hK; generalize a.eval = ρ at *; simp [execOp,e8,cell_of_heap (Hd.nthk 0 hH.rear rfl),go_sem]) rfl rfl hH hK
          refine StepAll.cons ?_ ?_
          · refine HoldStepB.fil 11 (by decide) fun a wx γ hn hr hres hpre Ss hH K hK=>?_
            have e46:a.eval (.tmp 46) = .pointer (some ⟨b,0,none⟩):=hn 3 (by decide) 46 rfl
            have e47:a.eval (.tmp 47) = .agg #[.int .i64 dk,.int .i64 de]:=hn 4 (by decide) 47 rfl
            have ef:a.eval (.func 27) = .func (.func 27) #[] #[]:=rfl
            refine hold_callB (b:=11) (f:=27) (args:=#[.pointer (some ⟨b,0,none⟩),.agg #[.int .i64 dk,.int .i64 de]]) (by clear hn hr hK hH; generalize a.eval = ρ at *; simp [execOp,e46,e47,cf27,ef,go_sem]) ?_ hK
            exact (rseal15_calls dk de HP.out hH).mono fun e2 w2 h=>⟨default,h.1,h.2⟩
          refine .cons (pN 5 48 rfl fun _=>⟨rfl,rfl⟩) ?_
          refine .cons (pN 6 42 rfl fun _=>⟨rfl,rfl⟩) ?_
          refine .cons (pN 6 42 rfl fun _=>⟨rfl,rfl⟩) ?_
          refine .cons (pN 7 49 rfl fun _=>⟨rfl,rfl⟩) ?_
          refine .cons (pN 8 50 rfl fun _=>⟨rfl,rfl⟩) ?_
          exact trivial
         case done10_3 =>
          intro f w9 g9 hv h9
          have er12:f 12 = .int .i64 p1:=hv 9 12 rfl
          have er13:f 13 = .int .i64 p2:=hv 10 13 rfl
          have hd:Hd W w9 (RSto b Ly m::Blk p8 (.cells #[.int .i64 dk,.int .i64 de] 57 (0,0))::Blk p (.cells #[.pointer (some ⟨b,0,none⟩),.int .i64 xh,.int .i64 xs,.int .i64 xr,.int .i64 xv,.int .i64 ok,.int .i64 oe,.int .i64 sent,.int .i64 rc.ik,.int .i64 rc.ie,.int .u64 rc.nx,.int .u64 rc.bt,.slice ad rc.es.length cap] 94 (0,0))::Rs):=h9
          clear hv h9 cf27
          clear g9
          simp only [patchG,Nat.reduceAdd,Nat.reduceLeDiff,decide_true,decide_false,Bool.and_true,Bool.and_false,Bool.or_true,Bool.or_false,cond_true,cond_false,er12,er13]
          clear er12 er13
          clear H HP
          have H:=hid hd
          clear hd
          go_wp2_with fail
          refine bodyPost_ret (v:=.tuple #[.int .i64 0,.int .i64 0,.int .i64 0,.int .i64 p2]) (by simp [results,Try.results38,go_sem]) rfl ⟨rfl,by first | rfl | trivial,?_⟩
          exact H.out.un2
   · rw [if_neg h2] at hq
     simp only [Prod.mk.injEq] at hq
     obtain ⟨⟨rfl,rfl,rfl,rfl⟩,rfl,rfl⟩:=hq
     have g1:(r2 != 0) = true:=by rw [bne_iff_ne]; exact h2
     have g2:decide (r2 = 0) = false:=by simpa using h2
     clear h2
     go_enter Try.func38,Try.ntmps38
     go_wp2_with fail
     refine hold_coreB (P:=Try.prog) (W:=W) (Rs:=(RSto b L m::Blk p (.cells #[.pointer (some ⟨b,0,none⟩),.int .i64 xh,.int .i64 xs,.int .i64 xr,.int .i64 xv,.int .i64 ok,.int .i64 oe,.int .i64 sent,.int .i64 rc.ik,.int .i64 rc.ie,.int .u64 rc.nx,.int .u64 rc.bt,.slice ad rc.es.length cap] 94 (0,0))::Rs)) [[],[0],[1],[2],[],[4],[5],[6],[],[3,8],[7]] [[],[],[],[],[],[],[],[],[8],[8],[]] ([some 19,some 20,some 21,some 22,some 23,some 24,some 25,some 26,some 8,none,some 9]:List (Option Nat)) ([none,none,none,none,none,none,none,none,some 9,none,none]:List (Option Nat)) ((fun _=>pt p 0)::(fun _=>pt p 0)::(fun _=>pt p 5)::(fun _=>.agg #[.int .i64 ok,.int .i64 oe])::(fun _=>pt p 0)::(fun _=>pt p 0)::(fun _=>pt p 7)::(fun _=>.int .i64 sent)::(fun gs=>pt ((gs.getD 0 default).2) 0)::(fun _=>undef)::(fun _=>.int .i64 sent)::[]) (zR::zR::zR::zR::zR::zR::zR::zR::(fun gs=>[Blk (gs.getD 0 default).2 (.cells #[.int .i64 0,.int .i64 0] 57 (0,0))])::zR::zR::([]:List (List Gh → List Res))) (zR::zR::zR::zR::zR::zR::zR::zR::(fun gs=>[Blk (gs.getD 0 default).2 (.cells #[.int .i64 ok,.int .i64 oe] 57 (0,0))])::zR::zR::([]:List (List Gh → List Res))) (by kernel_rfl) rfl (hold_lt (n:=87) (by decide)) H.out rfl (by decide) (hold_nil (fs:=[9]) trivial rfl ?nil3_4) ?gd3_4 ?step3_4 (fun t=>(decide (8 ≤ t) && decide (t ≤ 9)) || (decide (19 ≤ t) && decide (t ≤ 26))) (by decide) ?done3_4 (fun I h0 st dn=>run_wpB mixed I h0 st dn)
     case nil3_4 =>
      intro s gs hs
      simp only [List.mem_cons,List.not_mem_nil,or_false] at hs
      subst hs; rfl
     case gd3_4 =>
      repeat (refine StepAll.cons (by first | exact trivial | exact fun g=>rfl) ?_)
      exact trivial
     case step3_4 =>
      refine .cons (pR 0 rfl fun _=>⟨rfl,rfl⟩) ?_
      refine .cons (pN 0 19 rfl fun _=>⟨rfl,rfl⟩) ?_
      refine .cons (pF 1 20 5 rfl rfl (fun b q w=>by simp [go_sem]) fun _=>⟨⟨_,_,rfl,rfl⟩,rfl⟩) ?_
      refine StepAll.cons ?_ ?_
      · refine HoldStepB.val (by decide) fun a wx γ hn hr hres hpre Ss hH K hK=>?_
        have e21:a.eval (.tmp 21) = .pointer (some ⟨p,5,none⟩):=hn 2 (by decide) 21 rfl
        exact hold_run (v:=.agg #[.int .i64 ok,.int .i64 oe]) (by clear hn hr hK; generalize a.eval = ρ at *; simp [execOp,e21,cell_of_heap (Hd.nthk 1 hH.rear rfl),go_sem]) rfl rfl hH hK
      refine .cons (pR 0 rfl fun _=>⟨rfl,rfl⟩) ?_
      refine .cons (pN 4 23 rfl fun _=>⟨rfl,rfl⟩) ?_
      refine .cons (pF 5 24 7 rfl rfl (fun b q w=>by simp [go_sem]) fun _=>⟨⟨_,_,rfl,rfl⟩,rfl⟩) ?_
      refine StepAll.cons ?_ ?_
      · refine HoldStepB.val (by decide) fun a wx γ hn hr hres hpre Ss hH K hK=>?_
        have e25:a.eval (.tmp 25) = .pointer (some ⟨p,7,none⟩):=hn 6 (by decide) 25 rfl
        exact hold_run (v:=.int .i64 sent) (by clear hn hr hK; generalize a.eval = ρ at *; simp [execOp,e25,cell_of_heap (Hd.nthk 1 hH.rear rfl),go_sem]) rfl rfl hH hK
      refine StepAll.cons ?_ ?_
      · refine HoldStepB.val (by decide) fun a wx γ hn hr hres hpre Ss hH K hK=>?_
        exact hold_new (obj:=.cells #[.int .i64 0,.int .i64 0] 57 (0,0)) (v:=.pointer (some ⟨wx.heap.size,0,none⟩)) (by clear hn hr hK; generalize a.eval = ρ at *; simp [execOp,go_sem]) rfl rfl hH hK
      refine StepAll.cons ?_ ?_
      · refine HoldStepB.fil 8 (by decide) fun a wx γ hn hr hres hpre Ss hH K hK=>?_
        have e8:a.eval (.tmp 8) = .pointer (some ⟨(γ 8).2,0,none⟩):=hn 8 (by decide) 8 rfl
        have e22:a.eval (.tmp 22) = .agg #[.int .i64 ok,.int .i64 oe]:=hn 3 (by decide) 22 rfl
        have hH2:Hd W wx (Blk (γ 8).2 (.cells #[.int .i64 0,.int .i64 0] 57 (0,0))::(Ss ++ (RSto b L m::Blk p (.cells #[.pointer (some ⟨b,0,none⟩),.int .i64 xh,.int .i64 xs,.int .i64 xr,.int .i64 xv,.int .i64 ok,.int .i64 oe,.int .i64 sent,.int .i64 rc.ik,.int .i64 rc.ie,.int .u64 rc.nx,.int .u64 rc.bt,.slice ad rc.es.length cap] 94 (0,0))::Rs))):=hH
        have hk:=hH2.blk
        have c0:=(cell_of_heap hk 0).trans (show _ = some (.int .i64 0) from rfl)
        have c1:=(cell_of_heap hk 1).trans (show _ = some (.int .i64 0) from rfl)
        have cf:=frozen_of_heap hk
        clear hk hH
        exact hold_filB (w':=((wx.setCell ⟨(γ 8).2,0,none⟩ (.int .i64 ok)).setCell ⟨(γ 8).2,1,none⟩ (.int .i64 oe))) (by clear hn hr hK hH2; generalize a.eval = ρ at *; simp [execOp,e8,e22,c0,c1,cf,go_sem]) rfl rfl ((hH2.set 0 (.int .i64 ok)).set 1 (.int .i64 oe)) hK
      refine .cons (pN 7 26 rfl fun _=>⟨rfl,rfl⟩) ?_
      exact trivial
     case done3_4 =>
      intro f w9 g9 hv h9
      have er8:f 8 = .pointer (some ⟨(g9 8).2,0,none⟩):=hv 8 8 rfl
      have er9:f 9 = .int .i64 sent:=hv 10 9 rfl
      have hd:Hd W w9 (Blk (g9 8).2 (.cells #[.int .i64 ok,.int .i64 oe] 57 (0,0))::RSto b L m::Blk p (.cells #[.pointer (some ⟨b,0,none⟩),.int .i64 xh,.int .i64 xs,.int .i64 xr,.int .i64 xv,.int .i64 ok,.int .i64 oe,.int .i64 sent,.int .i64 rc.ik,.int .i64 rc.ie,.int .u64 rc.nx,.int .u64 rc.bt,.slice ad rc.es.length cap] 94 (0,0))::Rs):=h9
      obtain ⟨⟨_,p8⟩,hG8⟩:∃ x,g9 8 = x:=⟨_,rfl⟩
      simp only [hG8] at hd er8 er9
      clear hv h9 hG8 
      clear g9
      simp only [patchG,Nat.reduceAdd,Nat.reduceLeDiff,decide_true,decide_false,Bool.and_true,Bool.and_false,Bool.or_true,Bool.or_false,cond_true,cond_false,er8,er9]
      clear er8 er9
      clear H
      have H:=hid ((((hd.front 2 rfl).front 1 rfl).front 2 rfl))
      clear hd
      go_wp2_with fail
      have cf29:∀ args w,(callFunc 29 args).run Try.prog w = .ok (.enter 29 args) w:=fun args w=>by kernel_rfl
      refine hold_coreB (P:=Try.prog) (W:=W) (Rs:=(Blk p8 (.cells #[.int .i64 ok,.int .i64 oe] 57 (0,0))::Blk p (.cells #[.pointer (some ⟨b,0,none⟩),.int .i64 xh,.int .i64 xs,.int .i64 xr,.int .i64 xv,.int .i64 ok,.int .i64 oe,.int .i64 sent,.int .i64 rc.ik,.int .i64 rc.ie,.int .u64 rc.nx,.int .u64 rc.bt,.slice ad rc.es.length cap] 94 (0,0))::Rs)) [[],[0],[1],[2],[],[3,4],[5],[6],[6],[],[7,9],[8]] [[],[],[],[],[],[],[],[],[],[9],[9],[]] ([some 30,some 31,some 32,some 33,some 34,some 35,some 29,some 36,some 37,some 10,none,some 11]:List (Option Nat)) ([none,none,none,none,none,none,none,none,none,some 10,none,none,some 5]:List (Option Nat)) ((fun _=>pt p 0)::(fun _=>pt p 0)::(fun _=>pt p 0)::(fun _=>pt b 0)::(fun _=>.agg #[.int .i64 ok,.int .i64 oe])::(fun _=>.tuple #[.agg #[.int .i64 dk,.int .i64 de],.int .i64 r2])::(fun _=>.tuple #[.agg #[.int .i64 dk,.int .i64 de],.int .i64 r2])::(fun _=>.agg #[.int .i64 dk,.int .i64 de])::(fun _=>.int .i64 r2)::(fun gs=>pt ((gs.getD 0 default).2) 0)::(fun _=>undef)::(fun _=>.int .i64 r2)::[]) (zR::zR::zR::zR::zR::zR::zR::zR::zR::(fun gs=>[Blk (gs.getD 0 default).2 (.cells #[.int .i64 0,.int .i64 0] 57 (0,0))])::zR::zR::(fun _=>[RSto b L m])::([]:List (List Gh → List Res))) (zR::zR::zR::zR::zR::zR::zR::zR::zR::(fun gs=>[Blk (gs.getD 0 default).2 (.cells #[.int .i64 dk,.int .i64 de] 57 (0,0))])::zR::zR::(fun _=>[RSto b Lx m])::([]:List (List Gh → List Res))) (by kernel_rfl) rfl (hold_lt (n:=87) (by decide)) H.out rfl (by decide) (hold_nil (fs:=[10,5]) trivial rfl ?nil5_4) ?gd5_4 ?step5_4 (fun t=>(decide (10 ≤ t) && decide (t ≤ 11)) || (decide (29 ≤ t) && decide (t ≤ 37))) (by decide) ?done5_4 (fun I h0 st dn=>run_wpB mixed I h0 st dn)
      case nil5_4 =>
       intro s gs hs
       simp only [List.mem_cons,List.not_mem_nil,or_false] at hs
       rcases hs with rfl | rfl <;> rfl
      case gd5_4 =>
       repeat (refine StepAll.cons (by first | exact trivial | exact fun g=>rfl) ?_)
       exact trivial
      case step5_4 =>
       refine .cons (pR 0 rfl fun _=>⟨rfl,rfl⟩) ?_
       refine .cons (pN 0 30 rfl fun _=>⟨rfl,rfl⟩) ?_
       refine .cons (pF 1 31 0 rfl rfl (fun b q w=>by simp [go_sem]) fun _=>⟨⟨_,_,rfl,rfl⟩,rfl⟩) ?_
       refine StepAll.cons ?_ ?_
       · refine HoldStepB.val (by decide) fun a wx γ hn hr hres hpre Ss hH K hK=>?_
         have e32:a.eval (.tmp 32) = .pointer (some ⟨p,0,none⟩):=hn 2 (by decide) 32 rfl
         exact hold_run (v:=.pointer (some ⟨b,0,none⟩)) (by clear hn hr hK; generalize a.eval = ρ at *; simp [execOp,e32,cell_of_heap (Hd.nthk 1 hH.rear rfl),go_sem]) rfl rfl hH hK
       refine StepAll.cons ?_ ?_
       · refine HoldStepB.val (by decide) fun a wx γ hn hr hres hpre Ss hH K hK=>?_
         have e8:a.eval (.tmp 8) = .pointer (some ⟨p8,0,none⟩):=(hr 8 (by decide)).trans rfl
         exact hold_run (v:=.agg #[.int .i64 ok,.int .i64 oe]) (by clear hn hr hK; generalize a.eval = ρ at *; simp [execOp,e8,cell_of_heap (Hd.nthk 0 hH.rear rfl),go_sem]) rfl rfl hH hK
       refine StepAll.cons ?_ ?_
       · refine HoldStepB.fil 12 (by decide) fun a wx γ hn hr hres hpre Ss hH K hK=>?_
         have e33:a.eval (.tmp 33) = .pointer (some ⟨b,0,none⟩):=hn 3 (by decide) 33 rfl
         have e34:a.eval (.tmp 34) = .agg #[.int .i64 ok,.int .i64 oe]:=hn 4 (by decide) 34 rfl
         have ef:a.eval (.func 29) = .func (.func 29) #[] #[]:=rfl
         refine hold_callB (b:=12) (f:=29) (args:=#[.pointer (some ⟨b,0,none⟩),.agg #[.int .i64 ok,.int .i64 oe]]) (by clear hn hr hK hH; generalize a.eval = ρ at *; simp [execOp,e33,e34,cf29,ef,go_sem]) ?_ hK
         exact (rnext15_calls ok oe HN.out hH).mono fun e2 w2 h=>⟨default,h.1,h.2⟩
       refine .cons (pN 5 35 rfl fun _=>⟨rfl,rfl⟩) ?_
       refine .cons (pN 6 29 rfl fun _=>⟨rfl,rfl⟩) ?_
       refine .cons (pN 6 29 rfl fun _=>⟨rfl,rfl⟩) ?_
       refine StepAll.cons ?_ ?_
       · refine HoldStepB.val (by decide) fun a wx γ hn hr hres hpre Ss hH K hK=>?_
         exact hold_new (obj:=.cells #[.int .i64 0,.int .i64 0] 57 (0,0)) (v:=.pointer (some ⟨wx.heap.size,0,none⟩)) (by clear hn hr hK; generalize a.eval = ρ at *; simp [execOp,go_sem]) rfl rfl hH hK
       refine StepAll.cons ?_ ?_
       · refine HoldStepB.fil 9 (by decide) fun a wx γ hn hr hres hpre Ss hH K hK=>?_
         have e10:a.eval (.tmp 10) = .pointer (some ⟨(γ 9).2,0,none⟩):=hn 9 (by decide) 10 rfl
         have e36:a.eval (.tmp 36) = .agg #[.int .i64 dk,.int .i64 de]:=hn 7 (by decide) 36 rfl
         have hH2:Hd W wx (Blk (γ 9).2 (.cells #[.int .i64 0,.int .i64 0] 57 (0,0))::(Ss ++ (Blk p8 (.cells #[.int .i64 ok,.int .i64 oe] 57 (0,0))::Blk p (.cells #[.pointer (some ⟨b,0,none⟩),.int .i64 xh,.int .i64 xs,.int .i64 xr,.int .i64 xv,.int .i64 ok,.int .i64 oe,.int .i64 sent,.int .i64 rc.ik,.int .i64 rc.ie,.int .u64 rc.nx,.int .u64 rc.bt,.slice ad rc.es.length cap] 94 (0,0))::Rs))):=hH
         have hk:=hH2.blk
         have c0:=(cell_of_heap hk 0).trans (show _ = some (.int .i64 0) from rfl)
         have c1:=(cell_of_heap hk 1).trans (show _ = some (.int .i64 0) from rfl)
         have cf:=frozen_of_heap hk
         clear hk hH
         exact hold_filB (w':=((wx.setCell ⟨(γ 9).2,0,none⟩ (.int .i64 dk)).setCell ⟨(γ 9).2,1,none⟩ (.int .i64 de))) (by clear hn hr hK hH2; generalize a.eval = ρ at *; simp [execOp,e10,e36,c0,c1,cf,go_sem]) rfl rfl ((hH2.set 0 (.int .i64 dk)).set 1 (.int .i64 de)) hK
       refine .cons (pN 8 37 rfl fun _=>⟨rfl,rfl⟩) ?_
       exact trivial
      case done5_4 =>
       intro f w9 g9 hv h9
       have er10:f 10 = .pointer (some ⟨(g9 9).2,0,none⟩):=hv 9 10 rfl
       have er11:f 11 = .int .i64 r2:=hv 11 11 rfl
       have hd:Hd W w9 (Blk (g9 9).2 (.cells #[.int .i64 dk,.int .i64 de] 57 (0,0))::RSto b Lx m::Blk p8 (.cells #[.int .i64 ok,.int .i64 oe] 57 (0,0))::Blk p (.cells #[.pointer (some ⟨b,0,none⟩),.int .i64 xh,.int .i64 xs,.int .i64 xr,.int .i64 xv,.int .i64 ok,.int .i64 oe,.int .i64 sent,.int .i64 rc.ik,.int .i64 rc.ie,.int .u64 rc.nx,.int .u64 rc.bt,.slice ad rc.es.length cap] 94 (0,0))::Rs):=h9
       obtain ⟨⟨_,p10⟩,hG9⟩:∃ x,g9 9 = x:=⟨_,rfl⟩
       simp only [hG9] at hd er10 er11
       clear hv h9 hG9 cf29
       clear g9
       simp only [patchG,Nat.reduceAdd,Nat.reduceLeDiff,decide_true,decide_false,Bool.and_true,Bool.and_false,Bool.or_true,Bool.or_false,cond_true,cond_false,er10,er11]
       clear er10 er11
       clear H HN
       have H:=hid hd
       clear hd
       have hk:=Hd.nthk 0 H.out rfl
       have c0:=(cell_of_heap hk 0).trans (show _ = some (.int .i64 dk) from rfl)
       have c1:=(cell_of_heap hk 1).trans (show _ = some (.int .i64 de) from rfl)
       have cs:=(Array.getElem?_eq_some_iff.1 hk).1
       clear hk
       have hk:=Hd.nthk 2 H.out rfl
       have q0:=(cell_of_heap hk 0).trans (show _ = some (.int .i64 ok) from rfl)
       have q1:=(cell_of_heap hk 1).trans (show _ = some (.int .i64 oe) from rfl)
       have qs:=(Array.getElem?_eq_some_iff.1 hk).1
       have qf:=frozen_of_heap hk
       clear hk
       have hne:=blks_ne (((((H.out.front 3 rfl).front 2 rfl).front 3 rfl).front 3 rfl))
       have hne2:¬ p8 = p10:=fun e=>hne e.symm
       go_wp2_with fail
       refine bodyPost_ret (v:=.tuple #[.int .i64 0,.int .i64 0,.int .i64 0,.int .i64 r2]) (by simp [results,Try.results38,go_sem]) rfl ⟨rfl,by first | rfl | trivial,?_⟩
       exact H.out.drop.un2
 · have d2:decide (256 ≤ sent) = false:=by simpa using hB
   rw [if_neg hB] at hq
   have zcv:IntKind.u64.wrap sent = sent:=IntWalk.u64_in _ (by omega)
   have z2:IntKind.i64.wrap (sent + 1) = sent + 1:=IntWalk.i64_in _ (by omega)
   clear hB
   obtain ⟨p1,p2,Ly,hp⟩:∃ p1 p2 Ly,put m L (keyT ok 1) = (p1,p2,Ly):=⟨_,_,_,rfl⟩
   unfold sealW at hq
   rw [hp] at hq
   dsimp only at hq
   have HP:=hid hp
   clear hp
   by_cases h3:p2 = 0
   · subst h3
     rw [if_pos rfl] at hq
     obtain ⟨c,er,Lz,ht⟩:∃ c er Lz,text5 m Ly p1 sent xh s = (c,er,Lz):=⟨_,_,_,rfl⟩
     rw [ht] at hq
     dsimp only at hq
     have HT:=hid ht
     clear ht
     by_cases h4:er = 0
     · subst h4
       rw [if_pos rfl] at hq
       simp only [Prod.mk.injEq] at hq
       obtain ⟨⟨rfl,rfl,rfl,rfl⟩,rfl,rfl⟩:=hq
       go_enter Try.func38,Try.ntmps38
       go_wp2_with fail
       refine hold_coreB (P:=Try.prog) (W:=W) (Rs:=(RSto b L m::Blk p (.cells #[.pointer (some ⟨b,0,none⟩),.int .i64 xh,.int .i64 xs,.int .i64 xr,.int .i64 xv,.int .i64 ok,.int .i64 oe,.int .i64 sent,.int .i64 rc.ik,.int .i64 rc.ie,.int .u64 rc.nx,.int .u64 rc.bt,.slice ad rc.es.length cap] 94 (0,0))::Rs)) [[],[0],[1],[2],[],[4],[5],[6],[],[3,8],[7]] [[],[],[],[],[],[],[],[],[8],[8],[]] ([some 19,some 20,some 21,some 22,some 23,some 24,some 25,some 26,some 8,none,some 9]:List (Option Nat)) ([none,none,none,none,none,none,none,none,some 9,none,none]:List (Option Nat)) ((fun _=>pt p 0)::(fun _=>pt p 0)::(fun _=>pt p 5)::(fun _=>.agg #[.int .i64 ok,.int .i64 oe])::(fun _=>pt p 0)::(fun _=>pt p 0)::(fun _=>pt p 7)::(fun _=>.int .i64 sent)::(fun gs=>pt ((gs.getD 0 default).2) 0)::(fun _=>undef)::(fun _=>.int .i64 sent)::[]) (zR::zR::zR::zR::zR::zR::zR::zR::(fun gs=>[Blk (gs.getD 0 default).2 (.cells #[.int .i64 0,.int .i64 0] 57 (0,0))])::zR::zR::([]:List (List Gh → List Res))) (zR::zR::zR::zR::zR::zR::zR::zR::(fun gs=>[Blk (gs.getD 0 default).2 (.cells #[.int .i64 ok,.int .i64 oe] 57 (0,0))])::zR::zR::([]:List (List Gh → List Res))) (by kernel_rfl) rfl (hold_lt (n:=87) (by decide)) H.out rfl (by decide) (hold_nil (fs:=[9]) trivial rfl ?nil3_5) ?gd3_5 ?step3_5 (fun t=>(decide (8 ≤ t) && decide (t ≤ 9)) || (decide (19 ≤ t) && decide (t ≤ 26))) (by decide) ?done3_5 (fun I h0 st dn=>run_wpB mixed I h0 st dn)
       case nil3_5 =>
        intro s gs hs
        simp only [List.mem_cons,List.not_mem_nil,or_false] at hs
        subst hs; rfl
       case gd3_5 =>
        repeat (refine StepAll.cons (by first | exact trivial | exact fun g=>rfl) ?_)
        exact trivial
       case step3_5 =>
        refine .cons (pR 0 rfl fun _=>⟨rfl,rfl⟩) ?_
        refine .cons (pN 0 19 rfl fun _=>⟨rfl,rfl⟩) ?_
        refine .cons (pF 1 20 5 rfl rfl (fun b q w=>by simp [go_sem]) fun _=>⟨⟨_,_,rfl,rfl⟩,rfl⟩) ?_
        refine StepAll.cons ?_ ?_
        · refine HoldStepB.val (by decide) fun a wx γ hn hr hres hpre Ss hH K hK=>?_
          have e21:a.eval (.tmp 21) = .pointer (some ⟨p,5,none⟩):=hn 2 (by decide) 21 rfl
          exact hold_run (v:=.agg #[.int .i64 ok,.int .i64 oe]) (by clear hn hr hK; generalize a.eval = ρ at *; simp [execOp,e21,cell_of_heap (Hd.nthk 1 hH.rear rfl),go_sem]) rfl rfl hH hK
        refine .cons (pR 0 rfl fun _=>⟨rfl,rfl⟩) ?_
        refine .cons (pN 4 23 rfl fun _=>⟨rfl,rfl⟩) ?_
        refine .cons (pF 5 24 7 rfl rfl (fun b q w=>by simp [go_sem]) fun _=>⟨⟨_,_,rfl,rfl⟩,rfl⟩) ?_
        refine StepAll.cons ?_ ?_
        · refine HoldStepB.val (by decide) fun a wx γ hn hr hres hpre Ss hH K hK=>?_
          have e25:a.eval (.tmp 25) = .pointer (some ⟨p,7,none⟩):=hn 6 (by decide) 25 rfl
          exact hold_run (v:=.int .i64 sent) (by clear hn hr hK; generalize a.eval = ρ at *; simp [execOp,e25,cell_of_heap (Hd.nthk 1 hH.rear rfl),go_sem]) rfl rfl hH hK
        refine StepAll.cons ?_ ?_
        · refine HoldStepB.val (by decide) fun a wx γ hn hr hres hpre Ss hH K hK=>?_
          exact hold_new (obj:=.cells #[.int .i64 0,.int .i64 0] 57 (0,0)) (v:=.pointer (some ⟨wx.heap.size,0,none⟩)) (by clear hn hr hK; generalize a.eval = ρ at *; simp [execOp,go_sem]) rfl rfl hH hK
        refine StepAll.cons ?_ ?_
        · refine HoldStepB.fil 8 (by decide) fun a wx γ hn hr hres hpre Ss hH K hK=>?_
          have e8:a.eval (.tmp 8) = .pointer (some ⟨(γ 8).2,0,none⟩):=hn 8 (by decide) 8 rfl
          have e22:a.eval (.tmp 22) = .agg #[.int .i64 ok,.int .i64 oe]:=hn 3 (by decide) 22 rfl
          have hH2:Hd W wx (Blk (γ 8).2 (.cells #[.int .i64 0,.int .i64 0] 57 (0,0))::(Ss ++ (RSto b L m::Blk p (.cells #[.pointer (some ⟨b,0,none⟩),.int .i64 xh,.int .i64 xs,.int .i64 xr,.int .i64 xv,.int .i64 ok,.int .i64 oe,.int .i64 sent,.int .i64 rc.ik,.int .i64 rc.ie,.int .u64 rc.nx,.int .u64 rc.bt,.slice ad rc.es.length cap] 94 (0,0))::Rs))):=hH
          have hk:=hH2.blk
          have c0:=(cell_of_heap hk 0).trans (show _ = some (.int .i64 0) from rfl)
          have c1:=(cell_of_heap hk 1).trans (show _ = some (.int .i64 0) from rfl)
          have cf:=frozen_of_heap hk
          clear hk hH
          exact hold_filB (w':=((wx.setCell ⟨(γ 8).2,0,none⟩ (.int .i64 ok)).setCell ⟨(γ 8).2,1,none⟩ (.int .i64 oe))) (by clear hn hr hK hH2; generalize a.eval = ρ at *; simp [execOp,e8,e22,c0,c1,cf,go_sem]) rfl rfl ((hH2.set 0 (.int .i64 ok)).set 1 (.int .i64 oe)) hK
        refine .cons (pN 7 26 rfl fun _=>⟨rfl,rfl⟩) ?_
        exact trivial
       case done3_5 =>
        intro f w9 g9 hv h9
        have er8:f 8 = .pointer (some ⟨(g9 8).2,0,none⟩):=hv 8 8 rfl
        have er9:f 9 = .int .i64 sent:=hv 10 9 rfl
        have hd:Hd W w9 (Blk (g9 8).2 (.cells #[.int .i64 ok,.int .i64 oe] 57 (0,0))::RSto b L m::Blk p (.cells #[.pointer (some ⟨b,0,none⟩),.int .i64 xh,.int .i64 xs,.int .i64 xr,.int .i64 xv,.int .i64 ok,.int .i64 oe,.int .i64 sent,.int .i64 rc.ik,.int .i64 rc.ie,.int .u64 rc.nx,.int .u64 rc.bt,.slice ad rc.es.length cap] 94 (0,0))::Rs):=h9
        obtain ⟨⟨_,p8⟩,hG8⟩:∃ x,g9 8 = x:=⟨_,rfl⟩
        simp only [hG8] at hd er8 er9
        clear hv h9 hG8 
        clear g9
        simp only [patchG,Nat.reduceAdd,Nat.reduceLeDiff,decide_true,decide_false,Bool.and_true,Bool.and_false,Bool.or_true,Bool.or_false,cond_true,cond_false,er8,er9]
        clear er8 er9
        clear H
        have H:=hid ((((hd.front 2 rfl).front 1 rfl).front 2 rfl))
        clear hd
        go_wp2_with fail
        have cf27:∀ args w,(callFunc 27 args).run Try.prog w = .ok (.enter 27 args) w:=fun args w=>by kernel_rfl
        refine hold_coreB (P:=Try.prog) (W:=W) (Rs:=(Blk p8 (.cells #[.int .i64 ok,.int .i64 oe] 57 (0,0))::Blk p (.cells #[.pointer (some ⟨b,0,none⟩),.int .i64 xh,.int .i64 xs,.int .i64 xr,.int .i64 xv,.int .i64 ok,.int .i64 oe,.int .i64 sent,.int .i64 rc.ik,.int .i64 rc.ie,.int .u64 rc.nx,.int .u64 rc.bt,.slice ad rc.es.length cap] 94 (0,0))::Rs)) [[],[0],[1],[2],[],[3,4],[5],[6],[6],[7],[8]] [[],[],[],[],[],[],[],[],[],[],[]] ([some 43,some 44,some 45,some 46,some 47,some 48,some 42,some 49,some 50,some 12,some 13]:List (Option Nat)) ([none,none,none,none,none,none,none,none,none,none,none,some 5]:List (Option Nat)) ((fun _=>pt p 0)::(fun _=>pt p 0)::(fun _=>pt p 0)::(fun _=>pt b 0)::(fun _=>.agg #[.int .i64 ok,.int .i64 oe])::(fun _=>.tuple #[.int .i64 p1,.int .i64 0])::(fun _=>.tuple #[.int .i64 p1,.int .i64 0])::(fun _=>.int .i64 p1)::(fun _=>.int .i64 0)::(fun _=>.int .i64 p1)::(fun _=>.int .i64 0)::[]) (zR::zR::zR::zR::zR::zR::zR::zR::zR::zR::zR::(fun _=>[RSto b L m])::([]:List (List Gh → List Res))) (zR::zR::zR::zR::zR::zR::zR::zR::zR::zR::zR::(fun _=>[RSto b Ly m])::([]:List (List Gh → List Res))) (by kernel_rfl) rfl (hold_lt (n:=87) (by decide)) H.out rfl (by decide) (hold_nil (fs:=[5]) trivial rfl ?nil10_4) ?gd10_4 ?step10_4 (fun t=>(decide (12 ≤ t) && decide (t ≤ 13)) || (decide (42 ≤ t) && decide (t ≤ 50))) (by decide) ?done10_4 (fun I h0 st dn=>run_wpB mixed I h0 st dn)
        case nil10_4 =>
         intro s gs hs
         simp only [List.mem_cons,List.not_mem_nil,or_false] at hs
         subst hs; rfl
        case gd10_4 =>
         repeat (refine StepAll.cons (by first | exact trivial | exact fun g=>rfl) ?_)
         exact trivial
        case step10_4 =>
         refine .cons (pR 0 rfl fun _=>⟨rfl,rfl⟩) ?_
         refine .cons (pN 0 43 rfl fun _=>⟨rfl,rfl⟩) ?_
         refine .cons (pF 1 44 0 rfl rfl (fun b q w=>by simp [go_sem]) fun _=>⟨⟨_,_,rfl,rfl⟩,rfl⟩) ?_
         refine StepAll.cons ?_ ?_
         · refine HoldStepB.val (by decide) fun a wx γ hn hr hres hpre Ss hH K hK=>?_
           have e45:a.eval (.tmp 45) = .pointer (some ⟨p,0,none⟩):=hn 2 (by decide) 45 rfl
           exact hold_run (v:=.pointer (some ⟨b,0,none⟩)) (by clear hn hr hK; generalize a.eval = ρ at *; simp [execOp,e45,cell_of_heap (Hd.nthk 1 hH.rear rfl),go_sem]) rfl rfl hH hK
         refine StepAll.cons ?_ ?_
         · refine HoldStepB.val (by decide) fun a wx γ hn hr hres hpre Ss hH K hK=>?_
           have e8:a.eval (.tmp 8) = .pointer (some ⟨p8,0,none⟩):=(hr 8 (by decide)).trans rfl
           exact hold_run (v:=.agg #[.int .i64 ok,.int .i64 oe]) (by clear hn hr hK; generalize a.eval = ρ at *; simp [execOp,e8,cell_of_heap (Hd.nthk 0 hH.rear rfl),go_sem]) rfl rfl hH hK
         refine StepAll.cons ?_ ?_
         · refine HoldStepB.fil 11 (by decide) fun a wx γ hn hr hres hpre Ss hH K hK=>?_
           have e46:a.eval (.tmp 46) = .pointer (some ⟨b,0,none⟩):=hn 3 (by decide) 46 rfl
           have e47:a.eval (.tmp 47) = .agg #[.int .i64 ok,.int .i64 oe]:=hn 4 (by decide) 47 rfl
           have ef:a.eval (.func 27) = .func (.func 27) #[] #[]:=rfl
           refine hold_callB (b:=11) (f:=27) (args:=#[.pointer (some ⟨b,0,none⟩),.agg #[.int .i64 ok,.int .i64 oe]]) (by clear hn hr hK hH; generalize a.eval = ρ at *; simp [execOp,e46,e47,cf27,ef,go_sem]) ?_ hK
           exact (rseal15_calls ok oe HP.out hH).mono fun e2 w2 h=>⟨default,h.1,h.2⟩
         refine .cons (pN 5 48 rfl fun _=>⟨rfl,rfl⟩) ?_
         refine .cons (pN 6 42 rfl fun _=>⟨rfl,rfl⟩) ?_
         refine .cons (pN 6 42 rfl fun _=>⟨rfl,rfl⟩) ?_
         refine .cons (pN 7 49 rfl fun _=>⟨rfl,rfl⟩) ?_
         refine .cons (pN 8 50 rfl fun _=>⟨rfl,rfl⟩) ?_
         exact trivial
        case done10_4 =>
         intro f w9 g9 hv h9
         have er12:f 12 = .int .i64 p1:=hv 9 12 rfl
         have er13:f 13 = .int .i64 0:=hv 10 13 rfl
         have hd:Hd W w9 (RSto b Ly m::Blk p8 (.cells #[.int .i64 ok,.int .i64 oe] 57 (0,0))::Blk p (.cells #[.pointer (some ⟨b,0,none⟩),.int .i64 xh,.int .i64 xs,.int .i64 xr,.int .i64 xv,.int .i64 ok,.int .i64 oe,.int .i64 sent,.int .i64 rc.ik,.int .i64 rc.ie,.int .u64 rc.nx,.int .u64 rc.bt,.slice ad rc.es.length cap] 94 (0,0))::Rs):=h9
         clear hv h9 cf27
         clear g9
         simp only [patchG,Nat.reduceAdd,Nat.reduceLeDiff,decide_true,decide_false,Bool.and_true,Bool.and_false,Bool.or_true,Bool.or_false,cond_true,cond_false,er12,er13]
         clear er12 er13
         clear H HP
         have H:=hid hd
         clear hd
         go_wp2_with fail
         have cf65:∀ args w,(callFunc 65 args).run Try.prog w = .ok (.enter 65 args) w:=fun args w=>by kernel_rfl
         refine hold_coreB (P:=Try.prog) (W:=W) (Rs:=(Blk p8 (.cells #[.int .i64 ok,.int .i64 oe] 57 (0,0))::Blk p (.cells #[.pointer (some ⟨b,0,none⟩),.int .i64 xh,.int .i64 xs,.int .i64 xr,.int .i64 xv,.int .i64 ok,.int .i64 oe,.int .i64 sent,.int .i64 rc.ik,.int .i64 rc.ie,.int .u64 rc.nx,.int .u64 rc.bt,.slice ad rc.es.length cap] 94 (0,0))::Rs)) [[],[0],[1],[2],[],[],[5],[],[7],[8],[9],[10],[],[3,4,6,11,12],[13],[14],[14],[15],[16]] [[],[],[],[],[],[],[],[],[],[],[],[],[],[],[],[],[],[],[]] ([some 55,some 56,some 57,some 58,some 59,some 60,some 61,some 62,some 63,some 64,some 65,some 66,some 67,some 68,some 54,some 69,some 70,some 14,some 15]:List (Option Nat)) ([none,none,none,none,none,none,none,none,none,none,none,none,none,none,none,none,none,none,none,some 13]:List (Option Nat)) ((fun _=>pt p 0)::(fun _=>pt p 0)::(fun _=>pt p 0)::(fun _=>pt b 0)::(fun _=>.int .i64 p1)::(fun _=>.int .i64 sent)::(fun _=>.int .u64 sent)::(fun _=>pt p 0)::(fun _=>pt p 0)::(fun _=>pt p 1)::(fun _=>pt p 1)::(fun _=>.int .i64 xh)::(fun _=>.string s)::(fun _=>.tuple #[.int .i64 c,.int .i64 0])::(fun _=>.tuple #[.int .i64 c,.int .i64 0])::(fun _=>.int .i64 c)::(fun _=>.int .i64 0)::(fun _=>.int .i64 c)::(fun _=>.int .i64 0)::[]) (zR::zR::zR::zR::zR::zR::zR::zR::zR::zR::zR::zR::zR::zR::zR::zR::zR::zR::zR::(fun _=>[RSto b Ly m])::([]:List (List Gh → List Res))) (zR::zR::zR::zR::zR::zR::zR::zR::zR::zR::zR::zR::zR::zR::zR::zR::zR::zR::zR::(fun _=>[RSto b Lz m])::([]:List (List Gh → List Res))) (by kernel_rfl) rfl (hold_lt (n:=87) (by decide)) H.out rfl (by decide) (hold_nil (fs:=[13]) trivial rfl ?nil13_4) ?gd13_4 ?step13_4 (fun t=>(decide (14 ≤ t) && decide (t ≤ 15)) || (decide (54 ≤ t) && decide (t ≤ 70))) (by decide) ?done13_4 (fun I h0 st dn=>run_wpB mixed I h0 st dn)
         case nil13_4 =>
          intro s gs hs
          simp only [List.mem_cons,List.not_mem_nil,or_false] at hs
          subst hs; rfl
         case gd13_4 =>
          repeat (refine StepAll.cons (by first | exact trivial | exact fun g=>rfl) ?_)
          exact trivial
         case step13_4 =>
          refine .cons (pR 0 rfl fun _=>⟨rfl,rfl⟩) ?_
          refine .cons (pN 0 55 rfl fun _=>⟨rfl,rfl⟩) ?_
          refine .cons (pF 1 56 0 rfl rfl (fun b q w=>by simp [go_sem]) fun _=>⟨⟨_,_,rfl,rfl⟩,rfl⟩) ?_
          refine StepAll.cons ?_ ?_
          · refine HoldStepB.val (by decide) fun a wx γ hn hr hres hpre Ss hH K hK=>?_
            have e57:a.eval (.tmp 57) = .pointer (some ⟨p,0,none⟩):=hn 2 (by decide) 57 rfl
            exact hold_run (v:=.pointer (some ⟨b,0,none⟩)) (by clear hn hr hK; generalize a.eval = ρ at *; simp [execOp,e57,cell_of_heap (Hd.nthk 1 hH.rear rfl),go_sem]) rfl rfl hH hK
          refine .cons (pR 12 rfl fun _=>⟨rfl,rfl⟩) ?_
          refine .cons (pR 9 rfl fun _=>⟨rfl,rfl⟩) ?_
          refine StepAll.cons ?_ ?_
          · refine HoldStepB.val (by decide) fun a wx γ hn hr hres hpre Ss hH K hK=>?_
            have e60:a.eval (.tmp 60) = .int .i64 sent:=hn 5 (by decide) 60 rfl
            exact hold_run (v:=.int .u64 sent) (by clear hn hr hK; generalize a.eval = ρ at *; simp [execOp,e60,zcv,go_sem]) rfl rfl hH hK
          refine .cons (pR 0 rfl fun _=>⟨rfl,rfl⟩) ?_
          refine .cons (pN 7 62 rfl fun _=>⟨rfl,rfl⟩) ?_
          refine .cons (pF 8 63 1 rfl rfl (fun b q w=>by simp [go_sem]) fun _=>⟨⟨_,_,rfl,rfl⟩,rfl⟩) ?_
          refine .cons (pF 9 64 0 rfl rfl (fun b q w=>by simp [go_sem]) fun _=>⟨⟨_,_,rfl,rfl⟩,rfl⟩) ?_
          refine StepAll.cons ?_ ?_
          · refine HoldStepB.val (by decide) fun a wx γ hn hr hres hpre Ss hH K hK=>?_
            have e65:a.eval (.tmp 65) = .pointer (some ⟨p,1,none⟩):=hn 10 (by decide) 65 rfl
            exact hold_run (v:=.int .i64 xh) (by clear hn hr hK; generalize a.eval = ρ at *; simp [execOp,e65,cell_of_heap (Hd.nthk 1 hH.rear rfl),go_sem]) rfl rfl hH hK
          refine .cons (pR 1 rfl fun _=>⟨rfl,rfl⟩) ?_
          refine StepAll.cons ?_ ?_
          · refine HoldStepB.fil 19 (by decide) fun a wx γ hn hr hres hpre Ss hH K hK=>?_
            have e58:a.eval (.tmp 58) = .pointer (some ⟨b,0,none⟩):=hn 3 (by decide) 58 rfl
            have e59:a.eval (.tmp 59) = .int .i64 p1:=hn 4 (by decide) 59 rfl
            have e61:a.eval (.tmp 61) = .int .u64 sent:=hn 6 (by decide) 61 rfl
            have e66:a.eval (.tmp 66) = .int .i64 xh:=hn 11 (by decide) 66 rfl
            have e67:a.eval (.tmp 67) = .string s:=hn 12 (by decide) 67 rfl
            have ef:a.eval (.func 65) = .func (.func 65) #[] #[]:=rfl
            refine hold_callB (b:=19) (f:=65) (args:=#[.pointer (some ⟨b,0,none⟩),.int .i64 p1,.int .u64 sent,.int .i64 xh,.string s]) (by clear hn hr hK hH; generalize a.eval = ρ at *; simp [execOp,e58,e59,e61,e66,e67,cf65,ef,go_sem]) ?_ hK
            refine (rtext_calls p1 (sent) xh s HSZ.out hH).mono fun e2 w2 h=>?_
            rw [HT.out] at h
            exact ⟨default,h.1,h.2⟩
          refine .cons (pN 13 68 rfl fun _=>⟨rfl,rfl⟩) ?_
          refine .cons (pN 14 54 rfl fun _=>⟨rfl,rfl⟩) ?_
          refine .cons (pN 14 54 rfl fun _=>⟨rfl,rfl⟩) ?_
          refine .cons (pN 15 69 rfl fun _=>⟨rfl,rfl⟩) ?_
          refine .cons (pN 16 70 rfl fun _=>⟨rfl,rfl⟩) ?_
          exact trivial
         case done13_4 =>
          intro f w9 g9 hv h9
          have er14:f 14 = .int .i64 c:=hv 17 14 rfl
          have er15:f 15 = .int .i64 0:=hv 18 15 rfl
          have hd:Hd W w9 (RSto b Lz m::Blk p8 (.cells #[.int .i64 ok,.int .i64 oe] 57 (0,0))::Blk p (.cells #[.pointer (some ⟨b,0,none⟩),.int .i64 xh,.int .i64 xs,.int .i64 xr,.int .i64 xv,.int .i64 ok,.int .i64 oe,.int .i64 sent,.int .i64 rc.ik,.int .i64 rc.ie,.int .u64 rc.nx,.int .u64 rc.bt,.slice ad rc.es.length cap] 94 (0,0))::Rs):=h9
          clear hv h9 cf65
          clear g9
          simp only [patchG,Nat.reduceAdd,Nat.reduceLeDiff,decide_true,decide_false,Bool.and_true,Bool.and_false,Bool.or_true,Bool.or_false,cond_true,cond_false,er14,er15]
          clear er14 er15
          clear H HT
          have H:=hid hd
          clear hd
          have hk:=Hd.nthk 1 H.out rfl
          have c0:=(cell_of_heap hk 0).trans (show _ = some (.int .i64 ok) from rfl)
          have c1:=(cell_of_heap hk 1).trans (show _ = some (.int .i64 oe) from rfl)
          have cs:=(Array.getElem?_eq_some_iff.1 hk).1
          have cf:=frozen_of_heap hk
          clear hk
          have hk:=Hd.nthk 2 H.out rfl
          obtain ⟨g0,g1,g2,g3,g4,g5,g6,g7,g8,g9,g10,g11,g12⟩:=cells13 hk
          have gs:=(Array.getElem?_eq_some_iff.1 hk).1
          have gf:=frozen_of_heap hk
          clear hk
          have hne:=blks_ne H.out.drop
          have hne2:¬ p = p8:=fun e=>hne e.symm
          go_wp2_with fail
          refine bodyPost_ret (v:=.tuple #[.int .i64 oe,.int .i64 sent,.int .i64 c,.int .i64 0]) (by simp [results,Try.results38,go_sem]) rfl ⟨rfl,by first | rfl | trivial,?_⟩
          exact ((((((((H.out.front 1 rfl).front 2 rfl).set 5 (.int .i64 ok)).set 6 (.int .i64 oe)).set 7 (.int .i64 (sent + 1))).front 2 rfl).front 2 rfl)).drop
     · rw [if_neg h4] at hq
       simp only [Prod.mk.injEq] at hq
       obtain ⟨⟨rfl,rfl,rfl,rfl⟩,rfl,rfl⟩:=hq
       have g1:(er != 0) = true:=by rw [bne_iff_ne]; exact h4
       have g2:decide (er = 0) = false:=by simpa using h4
       clear h4
       go_enter Try.func38,Try.ntmps38
       go_wp2_with fail
       refine hold_coreB (P:=Try.prog) (W:=W) (Rs:=(RSto b L m::Blk p (.cells #[.pointer (some ⟨b,0,none⟩),.int .i64 xh,.int .i64 xs,.int .i64 xr,.int .i64 xv,.int .i64 ok,.int .i64 oe,.int .i64 sent,.int .i64 rc.ik,.int .i64 rc.ie,.int .u64 rc.nx,.int .u64 rc.bt,.slice ad rc.es.length cap] 94 (0,0))::Rs)) [[],[0],[1],[2],[],[4],[5],[6],[],[3,8],[7]] [[],[],[],[],[],[],[],[],[8],[8],[]] ([some 19,some 20,some 21,some 22,some 23,some 24,some 25,some 26,some 8,none,some 9]:List (Option Nat)) ([none,none,none,none,none,none,none,none,some 9,none,none]:List (Option Nat)) ((fun _=>pt p 0)::(fun _=>pt p 0)::(fun _=>pt p 5)::(fun _=>.agg #[.int .i64 ok,.int .i64 oe])::(fun _=>pt p 0)::(fun _=>pt p 0)::(fun _=>pt p 7)::(fun _=>.int .i64 sent)::(fun gs=>pt ((gs.getD 0 default).2) 0)::(fun _=>undef)::(fun _=>.int .i64 sent)::[]) (zR::zR::zR::zR::zR::zR::zR::zR::(fun gs=>[Blk (gs.getD 0 default).2 (.cells #[.int .i64 0,.int .i64 0] 57 (0,0))])::zR::zR::([]:List (List Gh → List Res))) (zR::zR::zR::zR::zR::zR::zR::zR::(fun gs=>[Blk (gs.getD 0 default).2 (.cells #[.int .i64 ok,.int .i64 oe] 57 (0,0))])::zR::zR::([]:List (List Gh → List Res))) (by kernel_rfl) rfl (hold_lt (n:=87) (by decide)) H.out rfl (by decide) (hold_nil (fs:=[9]) trivial rfl ?nil3_6) ?gd3_6 ?step3_6 (fun t=>(decide (8 ≤ t) && decide (t ≤ 9)) || (decide (19 ≤ t) && decide (t ≤ 26))) (by decide) ?done3_6 (fun I h0 st dn=>run_wpB mixed I h0 st dn)
       case nil3_6 =>
        intro s gs hs
        simp only [List.mem_cons,List.not_mem_nil,or_false] at hs
        subst hs; rfl
       case gd3_6 =>
        repeat (refine StepAll.cons (by first | exact trivial | exact fun g=>rfl) ?_)
        exact trivial
       case step3_6 =>
        refine .cons (pR 0 rfl fun _=>⟨rfl,rfl⟩) ?_
        refine .cons (pN 0 19 rfl fun _=>⟨rfl,rfl⟩) ?_
        refine .cons (pF 1 20 5 rfl rfl (fun b q w=>by simp [go_sem]) fun _=>⟨⟨_,_,rfl,rfl⟩,rfl⟩) ?_
        refine StepAll.cons ?_ ?_
        · refine HoldStepB.val (by decide) fun a wx γ hn hr hres hpre Ss hH K hK=>?_
          have e21:a.eval (.tmp 21) = .pointer (some ⟨p,5,none⟩):=hn 2 (by decide) 21 rfl
          exact hold_run (v:=.agg #[.int .i64 ok,.int .i64 oe]) (by clear hn hr hK; generalize a.eval = ρ at *; simp [execOp,e21,cell_of_heap (Hd.nthk 1 hH.rear rfl),go_sem]) rfl rfl hH hK
        refine .cons (pR 0 rfl fun _=>⟨rfl,rfl⟩) ?_
        refine .cons (pN 4 23 rfl fun _=>⟨rfl,rfl⟩) ?_
        refine .cons (pF 5 24 7 rfl rfl (fun b q w=>by simp [go_sem]) fun _=>⟨⟨_,_,rfl,rfl⟩,rfl⟩) ?_
        refine StepAll.cons ?_ ?_
        · refine HoldStepB.val (by decide) fun a wx γ hn hr hres hpre Ss hH K hK=>?_
          have e25:a.eval (.tmp 25) = .pointer (some ⟨p,7,none⟩):=hn 6 (by decide) 25 rfl
          exact hold_run (v:=.int .i64 sent) (by clear hn hr hK; generalize a.eval = ρ at *; simp [execOp,e25,cell_of_heap (Hd.nthk 1 hH.rear rfl),go_sem]) rfl rfl hH hK
        refine StepAll.cons ?_ ?_
        · refine HoldStepB.val (by decide) fun a wx γ hn hr hres hpre Ss hH K hK=>?_
          exact hold_new (obj:=.cells #[.int .i64 0,.int .i64 0] 57 (0,0)) (v:=.pointer (some ⟨wx.heap.size,0,none⟩)) (by clear hn hr hK; generalize a.eval = ρ at *; simp [execOp,go_sem]) rfl rfl hH hK
        refine StepAll.cons ?_ ?_
        · refine HoldStepB.fil 8 (by decide) fun a wx γ hn hr hres hpre Ss hH K hK=>?_
          have e8:a.eval (.tmp 8) = .pointer (some ⟨(γ 8).2,0,none⟩):=hn 8 (by decide) 8 rfl
          have e22:a.eval (.tmp 22) = .agg #[.int .i64 ok,.int .i64 oe]:=hn 3 (by decide) 22 rfl
          have hH2:Hd W wx (Blk (γ 8).2 (.cells #[.int .i64 0,.int .i64 0] 57 (0,0))::(Ss ++ (RSto b L m::Blk p (.cells #[.pointer (some ⟨b,0,none⟩),.int .i64 xh,.int .i64 xs,.int .i64 xr,.int .i64 xv,.int .i64 ok,.int .i64 oe,.int .i64 sent,.int .i64 rc.ik,.int .i64 rc.ie,.int .u64 rc.nx,.int .u64 rc.bt,.slice ad rc.es.length cap] 94 (0,0))::Rs))):=hH
          have hk:=hH2.blk
          have c0:=(cell_of_heap hk 0).trans (show _ = some (.int .i64 0) from rfl)
          have c1:=(cell_of_heap hk 1).trans (show _ = some (.int .i64 0) from rfl)
          have cf:=frozen_of_heap hk
          clear hk hH
          exact hold_filB (w':=((wx.setCell ⟨(γ 8).2,0,none⟩ (.int .i64 ok)).setCell ⟨(γ 8).2,1,none⟩ (.int .i64 oe))) (by clear hn hr hK hH2; generalize a.eval = ρ at *; simp [execOp,e8,e22,c0,c1,cf,go_sem]) rfl rfl ((hH2.set 0 (.int .i64 ok)).set 1 (.int .i64 oe)) hK
        refine .cons (pN 7 26 rfl fun _=>⟨rfl,rfl⟩) ?_
        exact trivial
       case done3_6 =>
        intro f w9 g9 hv h9
        have er8:f 8 = .pointer (some ⟨(g9 8).2,0,none⟩):=hv 8 8 rfl
        have er9:f 9 = .int .i64 sent:=hv 10 9 rfl
        have hd:Hd W w9 (Blk (g9 8).2 (.cells #[.int .i64 ok,.int .i64 oe] 57 (0,0))::RSto b L m::Blk p (.cells #[.pointer (some ⟨b,0,none⟩),.int .i64 xh,.int .i64 xs,.int .i64 xr,.int .i64 xv,.int .i64 ok,.int .i64 oe,.int .i64 sent,.int .i64 rc.ik,.int .i64 rc.ie,.int .u64 rc.nx,.int .u64 rc.bt,.slice ad rc.es.length cap] 94 (0,0))::Rs):=h9
        obtain ⟨⟨_,p8⟩,hG8⟩:∃ x,g9 8 = x:=⟨_,rfl⟩
        simp only [hG8] at hd er8 er9
        clear hv h9 hG8 
        clear g9
        simp only [patchG,Nat.reduceAdd,Nat.reduceLeDiff,decide_true,decide_false,Bool.and_true,Bool.and_false,Bool.or_true,Bool.or_false,cond_true,cond_false,er8,er9]
        clear er8 er9
        clear H
        have H:=hid ((((hd.front 2 rfl).front 1 rfl).front 2 rfl))
        clear hd
        go_wp2_with fail
        have cf27:∀ args w,(callFunc 27 args).run Try.prog w = .ok (.enter 27 args) w:=fun args w=>by kernel_rfl
        refine hold_coreB (P:=Try.prog) (W:=W) (Rs:=(Blk p8 (.cells #[.int .i64 ok,.int .i64 oe] 57 (0,0))::Blk p (.cells #[.pointer (some ⟨b,0,none⟩),.int .i64 xh,.int .i64 xs,.int .i64 xr,.int .i64 xv,.int .i64 ok,.int .i64 oe,.int .i64 sent,.int .i64 rc.ik,.int .i64 rc.ie,.int .u64 rc.nx,.int .u64 rc.bt,.slice ad rc.es.length cap] 94 (0,0))::Rs)) [[],[0],[1],[2],[],[3,4],[5],[6],[6],[7],[8]] [[],[],[],[],[],[],[],[],[],[],[]] ([some 43,some 44,some 45,some 46,some 47,some 48,some 42,some 49,some 50,some 12,some 13]:List (Option Nat)) ([none,none,none,none,none,none,none,none,none,none,none,some 5]:List (Option Nat)) ((fun _=>pt p 0)::(fun _=>pt p 0)::(fun _=>pt p 0)::(fun _=>pt b 0)::(fun _=>.agg #[.int .i64 ok,.int .i64 oe])::(fun _=>.tuple #[.int .i64 p1,.int .i64 0])::(fun _=>.tuple #[.int .i64 p1,.int .i64 0])::(fun _=>.int .i64 p1)::(fun _=>.int .i64 0)::(fun _=>.int .i64 p1)::(fun _=>.int .i64 0)::[]) (zR::zR::zR::zR::zR::zR::zR::zR::zR::zR::zR::(fun _=>[RSto b L m])::([]:List (List Gh → List Res))) (zR::zR::zR::zR::zR::zR::zR::zR::zR::zR::zR::(fun _=>[RSto b Ly m])::([]:List (List Gh → List Res))) (by kernel_rfl) rfl (hold_lt (n:=87) (by decide)) H.out rfl (by decide) (hold_nil (fs:=[5]) trivial rfl ?nil10_5) ?gd10_5 ?step10_5 (fun t=>(decide (12 ≤ t) && decide (t ≤ 13)) || (decide (42 ≤ t) && decide (t ≤ 50))) (by decide) ?done10_5 (fun I h0 st dn=>run_wpB mixed I h0 st dn)
        case nil10_5 =>
         intro s gs hs
         simp only [List.mem_cons,List.not_mem_nil,or_false] at hs
         subst hs; rfl
        case gd10_5 =>
         repeat (refine StepAll.cons (by first | exact trivial | exact fun g=>rfl) ?_)
         exact trivial
        case step10_5 =>
         refine .cons (pR 0 rfl fun _=>⟨rfl,rfl⟩) ?_
         refine .cons (pN 0 43 rfl fun _=>⟨rfl,rfl⟩) ?_
         refine .cons (pF 1 44 0 rfl rfl (fun b q w=>by simp [go_sem]) fun _=>⟨⟨_,_,rfl,rfl⟩,rfl⟩) ?_
         refine StepAll.cons ?_ ?_
         · refine HoldStepB.val (by decide) fun a wx γ hn hr hres hpre Ss hH K hK=>?_
           have e45:a.eval (.tmp 45) = .pointer (some ⟨p,0,none⟩):=hn 2 (by decide) 45 rfl
           exact hold_run (v:=.pointer (some ⟨b,0,none⟩)) (by clear hn hr hK; generalize a.eval = ρ at *; simp [execOp,e45,cell_of_heap (Hd.nthk 1 hH.rear rfl),go_sem]) rfl rfl hH hK
         refine StepAll.cons ?_ ?_
         · refine HoldStepB.val (by decide) fun a wx γ hn hr hres hpre Ss hH K hK=>?_
           have e8:a.eval (.tmp 8) = .pointer (some ⟨p8,0,none⟩):=(hr 8 (by decide)).trans rfl
           exact hold_run (v:=.agg #[.int .i64 ok,.int .i64 oe]) (by clear hn hr hK; generalize a.eval = ρ at *; simp [execOp,e8,cell_of_heap (Hd.nthk 0 hH.rear rfl),go_sem]) rfl rfl hH hK
         refine StepAll.cons ?_ ?_
         · refine HoldStepB.fil 11 (by decide) fun a wx γ hn hr hres hpre Ss hH K hK=>?_
           have e46:a.eval (.tmp 46) = .pointer (some ⟨b,0,none⟩):=hn 3 (by decide) 46 rfl
           have e47:a.eval (.tmp 47) = .agg #[.int .i64 ok,.int .i64 oe]:=hn 4 (by decide) 47 rfl
           have ef:a.eval (.func 27) = .func (.func 27) #[] #[]:=rfl
           refine hold_callB (b:=11) (f:=27) (args:=#[.pointer (some ⟨b,0,none⟩),.agg #[.int .i64 ok,.int .i64 oe]]) (by clear hn hr hK hH; generalize a.eval = ρ at *; simp [execOp,e46,e47,cf27,ef,go_sem]) ?_ hK
           exact (rseal15_calls ok oe HP.out hH).mono fun e2 w2 h=>⟨default,h.1,h.2⟩
         refine .cons (pN 5 48 rfl fun _=>⟨rfl,rfl⟩) ?_
         refine .cons (pN 6 42 rfl fun _=>⟨rfl,rfl⟩) ?_
         refine .cons (pN 6 42 rfl fun _=>⟨rfl,rfl⟩) ?_
         refine .cons (pN 7 49 rfl fun _=>⟨rfl,rfl⟩) ?_
         refine .cons (pN 8 50 rfl fun _=>⟨rfl,rfl⟩) ?_
         exact trivial
        case done10_5 =>
         intro f w9 g9 hv h9
         have er12:f 12 = .int .i64 p1:=hv 9 12 rfl
         have er13:f 13 = .int .i64 0:=hv 10 13 rfl
         have hd:Hd W w9 (RSto b Ly m::Blk p8 (.cells #[.int .i64 ok,.int .i64 oe] 57 (0,0))::Blk p (.cells #[.pointer (some ⟨b,0,none⟩),.int .i64 xh,.int .i64 xs,.int .i64 xr,.int .i64 xv,.int .i64 ok,.int .i64 oe,.int .i64 sent,.int .i64 rc.ik,.int .i64 rc.ie,.int .u64 rc.nx,.int .u64 rc.bt,.slice ad rc.es.length cap] 94 (0,0))::Rs):=h9
         clear hv h9 cf27
         clear g9
         simp only [patchG,Nat.reduceAdd,Nat.reduceLeDiff,decide_true,decide_false,Bool.and_true,Bool.and_false,Bool.or_true,Bool.or_false,cond_true,cond_false,er12,er13]
         clear er12 er13
         clear H HP
         have H:=hid hd
         clear hd
         go_wp2_with fail
         have cf65:∀ args w,(callFunc 65 args).run Try.prog w = .ok (.enter 65 args) w:=fun args w=>by kernel_rfl
         refine hold_coreB (P:=Try.prog) (W:=W) (Rs:=(Blk p8 (.cells #[.int .i64 ok,.int .i64 oe] 57 (0,0))::Blk p (.cells #[.pointer (some ⟨b,0,none⟩),.int .i64 xh,.int .i64 xs,.int .i64 xr,.int .i64 xv,.int .i64 ok,.int .i64 oe,.int .i64 sent,.int .i64 rc.ik,.int .i64 rc.ie,.int .u64 rc.nx,.int .u64 rc.bt,.slice ad rc.es.length cap] 94 (0,0))::Rs)) [[],[0],[1],[2],[],[],[5],[],[7],[8],[9],[10],[],[3,4,6,11,12],[13],[14],[14],[15],[16]] [[],[],[],[],[],[],[],[],[],[],[],[],[],[],[],[],[],[],[]] ([some 55,some 56,some 57,some 58,some 59,some 60,some 61,some 62,some 63,some 64,some 65,some 66,some 67,some 68,some 54,some 69,some 70,some 14,some 15]:List (Option Nat)) ([none,none,none,none,none,none,none,none,none,none,none,none,none,none,none,none,none,none,none,some 13]:List (Option Nat)) ((fun _=>pt p 0)::(fun _=>pt p 0)::(fun _=>pt p 0)::(fun _=>pt b 0)::(fun _=>.int .i64 p1)::(fun _=>.int .i64 sent)::(fun _=>.int .u64 sent)::(fun _=>pt p 0)::(fun _=>pt p 0)::(fun _=>pt p 1)::(fun _=>pt p 1)::(fun _=>.int .i64 xh)::(fun _=>.string s)::(fun _=>.tuple #[.int .i64 c,.int .i64 er])::(fun _=>.tuple #[.int .i64 c,.int .i64 er])::(fun _=>.int .i64 c)::(fun _=>.int .i64 er)::(fun _=>.int .i64 c)::(fun _=>.int .i64 er)::[]) (zR::zR::zR::zR::zR::zR::zR::zR::zR::zR::zR::zR::zR::zR::zR::zR::zR::zR::zR::(fun _=>[RSto b Ly m])::([]:List (List Gh → List Res))) (zR::zR::zR::zR::zR::zR::zR::zR::zR::zR::zR::zR::zR::zR::zR::zR::zR::zR::zR::(fun _=>[RSto b Lz m])::([]:List (List Gh → List Res))) (by kernel_rfl) rfl (hold_lt (n:=87) (by decide)) H.out rfl (by decide) (hold_nil (fs:=[13]) trivial rfl ?nil13_5) ?gd13_5 ?step13_5 (fun t=>(decide (14 ≤ t) && decide (t ≤ 15)) || (decide (54 ≤ t) && decide (t ≤ 70))) (by decide) ?done13_5 (fun I h0 st dn=>run_wpB mixed I h0 st dn)
         case nil13_5 =>
          intro s gs hs
          simp only [List.mem_cons,List.not_mem_nil,or_false] at hs
          subst hs; rfl
         case gd13_5 =>
          repeat (refine StepAll.cons (by first | exact trivial | exact fun g=>rfl) ?_)
          exact trivial
         case step13_5 =>
          refine .cons (pR 0 rfl fun _=>⟨rfl,rfl⟩) ?_
          refine .cons (pN 0 55 rfl fun _=>⟨rfl,rfl⟩) ?_
          refine .cons (pF 1 56 0 rfl rfl (fun b q w=>by simp [go_sem]) fun _=>⟨⟨_,_,rfl,rfl⟩,rfl⟩) ?_
          refine StepAll.cons ?_ ?_
          · refine HoldStepB.val (by decide) fun a wx γ hn hr hres hpre Ss hH K hK=>?_
            have e57:a.eval (.tmp 57) = .pointer (some ⟨p,0,none⟩):=hn 2 (by decide) 57 rfl
            exact hold_run (v:=.pointer (some ⟨b,0,none⟩)) (by clear hn hr hK; generalize a.eval = ρ at *; simp [execOp,e57,cell_of_heap (Hd.nthk 1 hH.rear rfl),go_sem]) rfl rfl hH hK
          refine .cons (pR 12 rfl fun _=>⟨rfl,rfl⟩) ?_
          refine .cons (pR 9 rfl fun _=>⟨rfl,rfl⟩) ?_
          refine StepAll.cons ?_ ?_
          · refine HoldStepB.val (by decide) fun a wx γ hn hr hres hpre Ss hH K hK=>?_
            have e60:a.eval (.tmp 60) = .int .i64 sent:=hn 5 (by decide) 60 rfl
            exact hold_run (v:=.int .u64 sent) (by clear hn hr hK; generalize a.eval = ρ at *; simp [execOp,e60,zcv,go_sem]) rfl rfl hH hK
          refine .cons (pR 0 rfl fun _=>⟨rfl,rfl⟩) ?_
          refine .cons (pN 7 62 rfl fun _=>⟨rfl,rfl⟩) ?_
          refine .cons (pF 8 63 1 rfl rfl (fun b q w=>by simp [go_sem]) fun _=>⟨⟨_,_,rfl,rfl⟩,rfl⟩) ?_
          refine .cons (pF 9 64 0 rfl rfl (fun b q w=>by simp [go_sem]) fun _=>⟨⟨_,_,rfl,rfl⟩,rfl⟩) ?_
          refine StepAll.cons ?_ ?_
          · refine HoldStepB.val (by decide) fun a wx γ hn hr hres hpre Ss hH K hK=>?_
            have e65:a.eval (.tmp 65) = .pointer (some ⟨p,1,none⟩):=hn 10 (by decide) 65 rfl
            exact hold_run (v:=.int .i64 xh) (by clear hn hr hK; generalize a.eval = ρ at *; simp [execOp,e65,cell_of_heap (Hd.nthk 1 hH.rear rfl),go_sem]) rfl rfl hH hK
          refine .cons (pR 1 rfl fun _=>⟨rfl,rfl⟩) ?_
          refine StepAll.cons ?_ ?_
          · refine HoldStepB.fil 19 (by decide) fun a wx γ hn hr hres hpre Ss hH K hK=>?_
            have e58:a.eval (.tmp 58) = .pointer (some ⟨b,0,none⟩):=hn 3 (by decide) 58 rfl
            have e59:a.eval (.tmp 59) = .int .i64 p1:=hn 4 (by decide) 59 rfl
            have e61:a.eval (.tmp 61) = .int .u64 sent:=hn 6 (by decide) 61 rfl
            have e66:a.eval (.tmp 66) = .int .i64 xh:=hn 11 (by decide) 66 rfl
            have e67:a.eval (.tmp 67) = .string s:=hn 12 (by decide) 67 rfl
            have ef:a.eval (.func 65) = .func (.func 65) #[] #[]:=rfl
            refine hold_callB (b:=19) (f:=65) (args:=#[.pointer (some ⟨b,0,none⟩),.int .i64 p1,.int .u64 sent,.int .i64 xh,.string s]) (by clear hn hr hK hH; generalize a.eval = ρ at *; simp [execOp,e58,e59,e61,e66,e67,cf65,ef,go_sem]) ?_ hK
            refine (rtext_calls p1 (sent) xh s HSZ.out hH).mono fun e2 w2 h=>?_
            rw [HT.out] at h
            exact ⟨default,h.1,h.2⟩
          refine .cons (pN 13 68 rfl fun _=>⟨rfl,rfl⟩) ?_
          refine .cons (pN 14 54 rfl fun _=>⟨rfl,rfl⟩) ?_
          refine .cons (pN 14 54 rfl fun _=>⟨rfl,rfl⟩) ?_
          refine .cons (pN 15 69 rfl fun _=>⟨rfl,rfl⟩) ?_
          refine .cons (pN 16 70 rfl fun _=>⟨rfl,rfl⟩) ?_
          exact trivial
         case done13_5 =>
          intro f w9 g9 hv h9
          have er14:f 14 = .int .i64 c:=hv 17 14 rfl
          have er15:f 15 = .int .i64 er:=hv 18 15 rfl
          have hd:Hd W w9 (RSto b Lz m::Blk p8 (.cells #[.int .i64 ok,.int .i64 oe] 57 (0,0))::Blk p (.cells #[.pointer (some ⟨b,0,none⟩),.int .i64 xh,.int .i64 xs,.int .i64 xr,.int .i64 xv,.int .i64 ok,.int .i64 oe,.int .i64 sent,.int .i64 rc.ik,.int .i64 rc.ie,.int .u64 rc.nx,.int .u64 rc.bt,.slice ad rc.es.length cap] 94 (0,0))::Rs):=h9
          clear hv h9 cf65
          clear g9
          simp only [patchG,Nat.reduceAdd,Nat.reduceLeDiff,decide_true,decide_false,Bool.and_true,Bool.and_false,Bool.or_true,Bool.or_false,cond_true,cond_false,er14,er15]
          clear er14 er15
          clear H HT
          have H:=hid hd
          clear hd
          go_wp2_with fail
          refine bodyPost_ret (v:=.tuple #[.int .i64 0,.int .i64 0,.int .i64 0,.int .i64 er]) (by simp [results,Try.results38,go_sem]) rfl ⟨rfl,by first | rfl | trivial,?_⟩
          exact H.out.un2
   · rw [if_neg h3] at hq
     dsimp only at hq
     rw [if_neg h3] at hq
     simp only [Prod.mk.injEq] at hq
     obtain ⟨⟨rfl,rfl,rfl,rfl⟩,rfl,rfl⟩:=hq
     have g1:(p2 != 0) = true:=by rw [bne_iff_ne]; exact h3
     have g2:decide (p2 = 0) = false:=by simpa using h3
     clear h3
     go_enter Try.func38,Try.ntmps38
     go_wp2_with fail
     refine hold_coreB (P:=Try.prog) (W:=W) (Rs:=(RSto b L m::Blk p (.cells #[.pointer (some ⟨b,0,none⟩),.int .i64 xh,.int .i64 xs,.int .i64 xr,.int .i64 xv,.int .i64 ok,.int .i64 oe,.int .i64 sent,.int .i64 rc.ik,.int .i64 rc.ie,.int .u64 rc.nx,.int .u64 rc.bt,.slice ad rc.es.length cap] 94 (0,0))::Rs)) [[],[0],[1],[2],[],[4],[5],[6],[],[3,8],[7]] [[],[],[],[],[],[],[],[],[8],[8],[]] ([some 19,some 20,some 21,some 22,some 23,some 24,some 25,some 26,some 8,none,some 9]:List (Option Nat)) ([none,none,none,none,none,none,none,none,some 9,none,none]:List (Option Nat)) ((fun _=>pt p 0)::(fun _=>pt p 0)::(fun _=>pt p 5)::(fun _=>.agg #[.int .i64 ok,.int .i64 oe])::(fun _=>pt p 0)::(fun _=>pt p 0)::(fun _=>pt p 7)::(fun _=>.int .i64 sent)::(fun gs=>pt ((gs.getD 0 default).2) 0)::(fun _=>undef)::(fun _=>.int .i64 sent)::[]) (zR::zR::zR::zR::zR::zR::zR::zR::(fun gs=>[Blk (gs.getD 0 default).2 (.cells #[.int .i64 0,.int .i64 0] 57 (0,0))])::zR::zR::([]:List (List Gh → List Res))) (zR::zR::zR::zR::zR::zR::zR::zR::(fun gs=>[Blk (gs.getD 0 default).2 (.cells #[.int .i64 ok,.int .i64 oe] 57 (0,0))])::zR::zR::([]:List (List Gh → List Res))) (by kernel_rfl) rfl (hold_lt (n:=87) (by decide)) H.out rfl (by decide) (hold_nil (fs:=[9]) trivial rfl ?nil3_7) ?gd3_7 ?step3_7 (fun t=>(decide (8 ≤ t) && decide (t ≤ 9)) || (decide (19 ≤ t) && decide (t ≤ 26))) (by decide) ?done3_7 (fun I h0 st dn=>run_wpB mixed I h0 st dn)
     case nil3_7 =>
      intro s gs hs
      simp only [List.mem_cons,List.not_mem_nil,or_false] at hs
      subst hs; rfl
     case gd3_7 =>
      repeat (refine StepAll.cons (by first | exact trivial | exact fun g=>rfl) ?_)
      exact trivial
     case step3_7 =>
      refine .cons (pR 0 rfl fun _=>⟨rfl,rfl⟩) ?_
      refine .cons (pN 0 19 rfl fun _=>⟨rfl,rfl⟩) ?_
      refine .cons (pF 1 20 5 rfl rfl (fun b q w=>by simp [go_sem]) fun _=>⟨⟨_,_,rfl,rfl⟩,rfl⟩) ?_
      refine StepAll.cons ?_ ?_
      · refine HoldStepB.val (by decide) fun a wx γ hn hr hres hpre Ss hH K hK=>?_
        have e21:a.eval (.tmp 21) = .pointer (some ⟨p,5,none⟩):=hn 2 (by decide) 21 rfl
        exact hold_run (v:=.agg #[.int .i64 ok,.int .i64 oe]) (by clear hn hr hK; generalize a.eval = ρ at *; simp [execOp,e21,cell_of_heap (Hd.nthk 1 hH.rear rfl),go_sem]) rfl rfl hH hK
      refine .cons (pR 0 rfl fun _=>⟨rfl,rfl⟩) ?_
      refine .cons (pN 4 23 rfl fun _=>⟨rfl,rfl⟩) ?_
      refine .cons (pF 5 24 7 rfl rfl (fun b q w=>by simp [go_sem]) fun _=>⟨⟨_,_,rfl,rfl⟩,rfl⟩) ?_
      refine StepAll.cons ?_ ?_
      · refine HoldStepB.val (by decide) fun a wx γ hn hr hres hpre Ss hH K hK=>?_
        have e25:a.eval (.tmp 25) = .pointer (some ⟨p,7,none⟩):=hn 6 (by decide) 25 rfl
        exact hold_run (v:=.int .i64 sent) (by clear hn hr hK; generalize a.eval = ρ at *; simp [execOp,e25,cell_of_heap (Hd.nthk 1 hH.rear rfl),go_sem]) rfl rfl hH hK
      refine StepAll.cons ?_ ?_
      · refine HoldStepB.val (by decide) fun a wx γ hn hr hres hpre Ss hH K hK=>?_
        exact hold_new (obj:=.cells #[.int .i64 0,.int .i64 0] 57 (0,0)) (v:=.pointer (some ⟨wx.heap.size,0,none⟩)) (by clear hn hr hK; generalize a.eval = ρ at *; simp [execOp,go_sem]) rfl rfl hH hK
      refine StepAll.cons ?_ ?_
      · refine HoldStepB.fil 8 (by decide) fun a wx γ hn hr hres hpre Ss hH K hK=>?_
        have e8:a.eval (.tmp 8) = .pointer (some ⟨(γ 8).2,0,none⟩):=hn 8 (by decide) 8 rfl
        have e22:a.eval (.tmp 22) = .agg #[.int .i64 ok,.int .i64 oe]:=hn 3 (by decide) 22 rfl
        have hH2:Hd W wx (Blk (γ 8).2 (.cells #[.int .i64 0,.int .i64 0] 57 (0,0))::(Ss ++ (RSto b L m::Blk p (.cells #[.pointer (some ⟨b,0,none⟩),.int .i64 xh,.int .i64 xs,.int .i64 xr,.int .i64 xv,.int .i64 ok,.int .i64 oe,.int .i64 sent,.int .i64 rc.ik,.int .i64 rc.ie,.int .u64 rc.nx,.int .u64 rc.bt,.slice ad rc.es.length cap] 94 (0,0))::Rs))):=hH
        have hk:=hH2.blk
        have c0:=(cell_of_heap hk 0).trans (show _ = some (.int .i64 0) from rfl)
        have c1:=(cell_of_heap hk 1).trans (show _ = some (.int .i64 0) from rfl)
        have cf:=frozen_of_heap hk
        clear hk hH
        exact hold_filB (w':=((wx.setCell ⟨(γ 8).2,0,none⟩ (.int .i64 ok)).setCell ⟨(γ 8).2,1,none⟩ (.int .i64 oe))) (by clear hn hr hK hH2; generalize a.eval = ρ at *; simp [execOp,e8,e22,c0,c1,cf,go_sem]) rfl rfl ((hH2.set 0 (.int .i64 ok)).set 1 (.int .i64 oe)) hK
      refine .cons (pN 7 26 rfl fun _=>⟨rfl,rfl⟩) ?_
      exact trivial
     case done3_7 =>
      intro f w9 g9 hv h9
      have er8:f 8 = .pointer (some ⟨(g9 8).2,0,none⟩):=hv 8 8 rfl
      have er9:f 9 = .int .i64 sent:=hv 10 9 rfl
      have hd:Hd W w9 (Blk (g9 8).2 (.cells #[.int .i64 ok,.int .i64 oe] 57 (0,0))::RSto b L m::Blk p (.cells #[.pointer (some ⟨b,0,none⟩),.int .i64 xh,.int .i64 xs,.int .i64 xr,.int .i64 xv,.int .i64 ok,.int .i64 oe,.int .i64 sent,.int .i64 rc.ik,.int .i64 rc.ie,.int .u64 rc.nx,.int .u64 rc.bt,.slice ad rc.es.length cap] 94 (0,0))::Rs):=h9
      obtain ⟨⟨_,p8⟩,hG8⟩:∃ x,g9 8 = x:=⟨_,rfl⟩
      simp only [hG8] at hd er8 er9
      clear hv h9 hG8 
      clear g9
      simp only [patchG,Nat.reduceAdd,Nat.reduceLeDiff,decide_true,decide_false,Bool.and_true,Bool.and_false,Bool.or_true,Bool.or_false,cond_true,cond_false,er8,er9]
      clear er8 er9
      clear H
      have H:=hid ((((hd.front 2 rfl).front 1 rfl).front 2 rfl))
      clear hd
      go_wp2_with fail
      have cf27:∀ args w,(callFunc 27 args).run Try.prog w = .ok (.enter 27 args) w:=fun args w=>by kernel_rfl
      refine hold_coreB (P:=Try.prog) (W:=W) (Rs:=(Blk p8 (.cells #[.int .i64 ok,.int .i64 oe] 57 (0,0))::Blk p (.cells #[.pointer (some ⟨b,0,none⟩),.int .i64 xh,.int .i64 xs,.int .i64 xr,.int .i64 xv,.int .i64 ok,.int .i64 oe,.int .i64 sent,.int .i64 rc.ik,.int .i64 rc.ie,.int .u64 rc.nx,.int .u64 rc.bt,.slice ad rc.es.length cap] 94 (0,0))::Rs)) [[],[0],[1],[2],[],[3,4],[5],[6],[6],[7],[8]] [[],[],[],[],[],[],[],[],[],[],[]] ([some 43,some 44,some 45,some 46,some 47,some 48,some 42,some 49,some 50,some 12,some 13]:List (Option Nat)) ([none,none,none,none,none,none,none,none,none,none,none,some 5]:List (Option Nat)) ((fun _=>pt p 0)::(fun _=>pt p 0)::(fun _=>pt p 0)::(fun _=>pt b 0)::(fun _=>.agg #[.int .i64 ok,.int .i64 oe])::(fun _=>.tuple #[.int .i64 p1,.int .i64 p2])::(fun _=>.tuple #[.int .i64 p1,.int .i64 p2])::(fun _=>.int .i64 p1)::(fun _=>.int .i64 p2)::(fun _=>.int .i64 p1)::(fun _=>.int .i64 p2)::[]) (zR::zR::zR::zR::zR::zR::zR::zR::zR::zR::zR::(fun _=>[RSto b L m])::([]:List (List Gh → List Res))) (zR::zR::zR::zR::zR::zR::zR::zR::zR::zR::zR::(fun _=>[RSto b Ly m])::([]:List (List Gh → List Res))) (by kernel_rfl) rfl (hold_lt (n:=87) (by decide)) H.out rfl (by decide) (hold_nil (fs:=[5]) trivial rfl ?nil10_6) ?gd10_6 ?step10_6 (fun t=>(decide (12 ≤ t) && decide (t ≤ 13)) || (decide (42 ≤ t) && decide (t ≤ 50))) (by decide) ?done10_6 (fun I h0 st dn=>run_wpB mixed I h0 st dn)
      case nil10_6 =>
       intro s gs hs
       simp only [List.mem_cons,List.not_mem_nil,or_false] at hs
       subst hs; rfl
      case gd10_6 =>
       repeat (refine StepAll.cons (by first | exact trivial | exact fun g=>rfl) ?_)
       exact trivial
      case step10_6 =>
       refine .cons (pR 0 rfl fun _=>⟨rfl,rfl⟩) ?_
       refine .cons (pN 0 43 rfl fun _=>⟨rfl,rfl⟩) ?_
       refine .cons (pF 1 44 0 rfl rfl (fun b q w=>by simp [go_sem]) fun _=>⟨⟨_,_,rfl,rfl⟩,rfl⟩) ?_
       refine StepAll.cons ?_ ?_
       · refine HoldStepB.val (by decide) fun a wx γ hn hr hres hpre Ss hH K hK=>?_
         have e45:a.eval (.tmp 45) = .pointer (some ⟨p,0,none⟩):=hn 2 (by decide) 45 rfl
         exact hold_run (v:=.pointer (some ⟨b,0,none⟩)) (by clear hn hr hK; generalize a.eval = ρ at *; simp [execOp,e45,cell_of_heap (Hd.nthk 1 hH.rear rfl),go_sem]) rfl rfl hH hK
       refine StepAll.cons ?_ ?_
       · refine HoldStepB.val (by decide) fun a wx γ hn hr hres hpre Ss hH K hK=>?_
         have e8:a.eval (.tmp 8) = .pointer (some ⟨p8,0,none⟩):=(hr 8 (by decide)).trans rfl
         exact hold_run (v:=.agg #[.int .i64 ok,.int .i64 oe]) (by clear hn hr hK; generalize a.eval = ρ at *; simp [execOp,e8,cell_of_heap (Hd.nthk 0 hH.rear rfl),go_sem]) rfl rfl hH hK
       refine StepAll.cons ?_ ?_
       · refine HoldStepB.fil 11 (by decide) fun a wx γ hn hr hres hpre Ss hH K hK=>?_
         have e46:a.eval (.tmp 46) = .pointer (some ⟨b,0,none⟩):=hn 3 (by decide) 46 rfl
         have e47:a.eval (.tmp 47) = .agg #[.int .i64 ok,.int .i64 oe]:=hn 4 (by decide) 47 rfl
         have ef:a.eval (.func 27) = .func (.func 27) #[] #[]:=rfl
         refine hold_callB (b:=11) (f:=27) (args:=#[.pointer (some ⟨b,0,none⟩),.agg #[.int .i64 ok,.int .i64 oe]]) (by clear hn hr hK hH; generalize a.eval = ρ at *; simp [execOp,e46,e47,cf27,ef,go_sem]) ?_ hK
         exact (rseal15_calls ok oe HP.out hH).mono fun e2 w2 h=>⟨default,h.1,h.2⟩
       refine .cons (pN 5 48 rfl fun _=>⟨rfl,rfl⟩) ?_
       refine .cons (pN 6 42 rfl fun _=>⟨rfl,rfl⟩) ?_
       refine .cons (pN 6 42 rfl fun _=>⟨rfl,rfl⟩) ?_
       refine .cons (pN 7 49 rfl fun _=>⟨rfl,rfl⟩) ?_
       refine .cons (pN 8 50 rfl fun _=>⟨rfl,rfl⟩) ?_
       exact trivial
      case done10_6 =>
       intro f w9 g9 hv h9
       have er12:f 12 = .int .i64 p1:=hv 9 12 rfl
       have er13:f 13 = .int .i64 p2:=hv 10 13 rfl
       have hd:Hd W w9 (RSto b Ly m::Blk p8 (.cells #[.int .i64 ok,.int .i64 oe] 57 (0,0))::Blk p (.cells #[.pointer (some ⟨b,0,none⟩),.int .i64 xh,.int .i64 xs,.int .i64 xr,.int .i64 xv,.int .i64 ok,.int .i64 oe,.int .i64 sent,.int .i64 rc.ik,.int .i64 rc.ie,.int .u64 rc.nx,.int .u64 rc.bt,.slice ad rc.es.length cap] 94 (0,0))::Rs):=h9
       clear hv h9 cf27
       clear g9
       simp only [patchG,Nat.reduceAdd,Nat.reduceLeDiff,decide_true,decide_false,Bool.and_true,Bool.and_false,Bool.or_true,Bool.or_false,cond_true,cond_false,er12,er13]
       clear er12 er13
       clear H HP
       have H:=hid hd
       clear hd
       go_wp2_with fail
       refine bodyPost_ret (v:=.tuple #[.int .i64 0,.int .i64 0,.int .i64 0,.int .i64 p2]) (by simp [results,Try.results38,go_sem]) rfl ⟨rfl,by first | rfl | trivial,?_⟩
       exact H.out.un2
end
end Go.Proofs.Ytpcfmafokkffgaa
