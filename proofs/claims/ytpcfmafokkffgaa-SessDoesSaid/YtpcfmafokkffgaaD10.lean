/-
  Walks and laws that the proof stands on, one behind another: SessF SessG SessH. For every input.
-/
import Derived.Test.YtpcfmafokkffgaaD7
import Derived.Test.YtpcfmafokkffgaaD9
import Derived.Test.YtpcfmafokkffgaaD8
namespace Go.Proofs.Ytpcfmafokkffgaa
open Go.RowKit

section
variable {W w:World} {Rs:List Res} {b p:Nat} {L L2:List T} {m:Int}

set_option maxRecDepth 100000 in
set_option maxHeartbeats 16000000 in
theorem open19_later {ok oe sent ik ie nx bt xh xs xr xv e n c:Int} {es:List En} {x':Se} {s:ByteArray} {er:Int} {ad:Option Addr} {cap:Nat} (hx:SeOk ⟨ok,oe,sent,⟨ik,ie,nx,bt,es⟩,xh,xs,xr,xv⟩) (be : -9223372036854775808 ≤ e) (be':e ≤ 9223372036854775807) (_bn : -9223372036854775808 ≤ n) (_bn':n ≤ 9223372036854775807) (hok:getB L c = true ∧ 0 ≤ e ∧ 0 ≤ n ∧ n < 256) (hie:ie < e) (hq:open19 m L ⟨ok,oe,sent,⟨ik,ie,nx,bt,es⟩,xh,xs,xr,xv⟩ e n c = ((s,er),x',L2)) (h:Hd W w (Sto b L m::Blk p (seO b ⟨ok,oe,sent,⟨ik,ie,nx,bt,es⟩,xh,xs,xr,xv⟩ (.slice ad es.length cap))::CaR (.slice ad es.length cap) es::Rs)) :
 Calls Try.prog 41 #[.pointer (some ⟨p,0,none⟩),.int .i64 e,.int .i64 n,.int .i64 c] w fun e' w'=>∃ ad' cap',e' = .returned (.tuple #[.string s,.int .i64 er]) ∧ Hd W w' (Sto b L2 m::Blk p (seO b x' (.slice ad' x'.rc.es.length cap'))::CaR (.slice ad' x'.rc.es.length cap') x'.rc.es::Rs):=by
 have mixed:Try.prog.follows .mixedOrders = true:=by kernel_rfl
 have H:Hid (Hd W w (Sto b L m::Blk p (.cells #[.int .i64 ok,.int .i64 oe,.int .i64 sent,.int .i64 ik,.int .i64 ie,.int .u64 nx,.int .u64 bt,.slice ad es.length cap,.pointer (some ⟨b,0,none⟩),.int .i64 xh,.int .i64 xs,.int .i64 xr,.int .i64 xv] 148 (0,0))::CaR (.slice ad es.length cap) es::Rs)):=hid h
 have HX:=hid hx
 clear h hx
 obtain ⟨⟨tk,ts,tn,ta,tb,tc⟩,htt⟩:∃ t,getT L c = t:=⟨_,rfl⟩
 have HTT:=hid htt
 clear htt
 obtain ⟨hg,h0e,h0n,h1n⟩:=hok
 unfold open19 at hq
 rw [if_pos ⟨hg,h0e,h0n,h1n⟩] at hq
 dsimp only at hq
 have HGB:=hid hg
 have d1:decide (e < 0) = false:=by simp; omega
 have d2:decide (n < 0) = false:=by simp; omega
 have d3:decide (256 ≤ n) = false:=by simp; omega
 have zcv:IntKind.u64.wrap n = n:=IntWalk.u64_in _ (by omega)
 have h255:n ≤ 255:=by omega
 clear hg h1n
 unfold recv19 at hq
 dsimp only at hq
 rw [if_neg (show ¬ e = ie by omega),if_pos hie] at hq
 obtain ⟨⟨⟨ik',ie',nx',bt',es'⟩,key,er1,Lx⟩,hr⟩:∃ t,later19 m L ⟨ik,ie,nx,bt,es⟩ e n = t:=⟨_,rfl⟩
 rw [hr] at hq
 dsimp only at hq
 have HR:=hid hr
 have HIE:=hid hie
 have e1:(e == ie) = false:=by simp; omega
 have e2:decide (ie < e) = true:=by simpa using hie
 clear hr hie
 by_cases ht0:(to15 m L ik ie e).2.2.1 = 0
 · have HT0:=hid ht0
   clear ht0
   by_cases h1:er1 = 0
   · subst h1
     rw [if_pos rfl] at hq
     obtain ⟨⟨txt,er2⟩,hrd⟩:∃ t,read5 Lx key n xh c = t:=⟨_,rfl⟩
     rw [hrd] at hq
     dsimp only at hq
     have HRD:=hid hrd
     clear hrd
     by_cases h2:er2 = 0
     · subst h2
       rw [if_pos rfl] at hq
       simp only [Prod.mk.injEq] at hq
       obtain ⟨⟨rfl,rfl⟩,rfl,rfl⟩:=hq
       dsimp only
       go_enter Try.func41,Try.ntmps41
       have hk:=Hd.nthk 1 H.out rfl
       obtain ⟨g0,g1,g2,g3,g4,g5,g6,g7,g8,g9,g10,g11,g12⟩:=cells13 hk
       have gs:=(Array.getElem?_eq_some_iff.1 hk).1
       clear hk
       go_wp2_with fail
       refine (get_c c H.out).mono ?_
       rw [HTT.out,HGB.out]
       simp only [T.val]
       rintro e2 w1 ⟨rfl,h1⟩
       clear H g0 g1 g2 g3 g4 g5 g6 g7 g8 g9 g10 g11 g12 gs HTT HGB
       have H:=hid (h1.al (o:=.cells #[.int .i64 tk,.string ts,.int .u64 tn,.int .i64 ta,.int .i64 tb,.int .i64 tc] 47 (0,0)))
       clear h1
       have hk:=Hd.nthk 1 H.out rfl
       obtain ⟨g0,g1,g2,g3,g4,g5,g6,g7,g8,g9,g10,g11,g12⟩:=cells13 hk
       have gs:=(Array.getElem?_eq_some_iff.1 hk).1
       clear hk
       go_wp2_with fail
       have HB:=hid (H.out.bxk (w1.heap.size + 1) (by simp) (o:=.cells #[.int .i64 ik,.int .i64 ie,.int .u64 nx,.int .u64 bt,.slice ad es.length cap] 146 (0,0)))
       clear H g0 g1 g2 g3 g4 g5 g6 g7 g8 g9 g10 g11 g12 gs
       have H:=HB
       clear HB
       have hk:=Hd.nthk 1 H.out rfl
       have c0:=(cell_of_heap hk 0).trans (show _ = some (.int .i64 ik) from rfl)
       have c1:=(cell_of_heap hk 1).trans (show _ = some (.int .i64 ie) from rfl)
       have c2:=(cell_of_heap hk 2).trans (show _ = some (.int .u64 nx) from rfl)
       have c3:=(cell_of_heap hk 3).trans (show _ = some (.int .u64 bt) from rfl)
       have c4:=(cell_of_heap hk 4).trans (show _ = some (.slice ad es.length cap) from rfl)
       have cs:=(Array.getElem?_eq_some_iff.1 hk).1
       clear hk
       go_wp2_with fail
       clear c0 c1 c2 c3 c4 cs
       have cf67:∀ args w,(callFunc 67 args).run Try.prog w = .ok (.enter 67 args) w:=fun args w=>by kernel_rfl
       refine hold_coreB (P:=Try.prog) (W:=W) (Rs:=(Blk p (.cells #[.int .i64 ok,.int .i64 oe,.int .i64 sent,.int .i64 ik,.int .i64 ie,.int .u64 nx,.int .u64 bt,.slice ad es.length cap,.pointer (some ⟨b,0,none⟩),.int .i64 xh,.int .i64 xs,.int .i64 xr,.int .i64 xv] 148 (0,0))::Rs)) [[],[],[1],[2],[3],[],[],[0,4,5,6],[7],[8],[8],[8],[0,9],[10],[11]] [[],[],[],[],[],[],[],[7],[7],[7],[],[],[7],[],[]] ([some 75,some 76,some 77,some 78,some 79,some 80,some 81,some 82,some 74,some 83,some 84,some 85,none,some 13,some 14]:List (Option Nat)) ([none,none,none,none,none,none,none,none,none,none,none,none,none,none,none,some 7,some 12]:List (Option Nat)) ((fun _=>.agg #[.int .i64 ik,.int .i64 ie,.int .u64 nx,.int .u64 bt,.slice ad es.length cap])::(fun _=>pt p 0)::(fun _=>pt p 0)::(fun _=>pt p 8)::(fun _=>pt b 0)::(fun _=>.int .i64 e)::(fun _=>.int .i64 n)::(fun gs=>.tuple #[.agg #[.int .i64 ik',.int .i64 ie',.int .u64 nx',.int .u64 bt',.slice (gs.getD 0 default).1 es'.length (gs.getD 0 default).2],.int .i64 key,.int .i64 0])::(fun gs=>.tuple #[.agg #[.int .i64 ik',.int .i64 ie',.int .u64 nx',.int .u64 bt',.slice (gs.getD 0 default).1 es'.length (gs.getD 0 default).2],.int .i64 key,.int .i64 0])::(fun gs=>.agg #[.int .i64 ik',.int .i64 ie',.int .u64 nx',.int .u64 bt',.slice (gs.getD 0 default).1 es'.length (gs.getD 0 default).2])::(fun _=>.int .i64 key)::(fun _=>.int .i64 0)::(fun _=>undef)::(fun _=>.int .i64 key)::(fun _=>.int .i64 0)::[]) (zR::zR::zR::zR::zR::zR::zR::zR::zR::zR::zR::zR::zR::zR::zR::(fun _=>[Sto b L m,CaR (.slice ad es.length cap) es])::(fun _=>[Blk (w1.heap.size + 1) (.cells #[.int .i64 ik,.int .i64 ie,.int .u64 nx,.int .u64 bt,.slice ad es.length cap] 146 (0,0))])::([]:List (List Gh → List Res))) (zR::zR::zR::zR::zR::zR::zR::zR::zR::zR::zR::zR::zR::zR::zR::(fun gs=>[Sto b Lx m,CaR (.slice (gs.getD 0 default).1 es'.length (gs.getD 0 default).2) es',CaR (.slice ad es.length cap) es])::(fun gs=>[Blk (w1.heap.size + 1) (.cells #[.int .i64 ik',.int .i64 ie',.int .u64 nx',.int .u64 bt',.slice (gs.getD 0 default).1 es'.length (gs.getD 0 default).2] 146 (0,0))])::([]:List (List Gh → List Res))) (by kernel_rfl) rfl (hold_lt (n:=114) (by decide)) ((((H.out.front 2 rfl).front 2 rfl).front 3 rfl).front 3 rfl) rfl (by decide) (hold_nil (fs:=[7,12]) trivial rfl ?nil9_9) ?gd9_9 ?step9_9 (fun t=>(decide (13 ≤ t) && decide (t ≤ 14)) || (decide (74 ≤ t) && decide (t ≤ 85))) (by decide) ?done9_9 (fun I h0 st dn=>run_wpB mixed I h0 st dn)
       case nil9_9 =>
        intro s gs hs
        simp only [List.mem_cons,List.not_mem_nil,or_false] at hs
        rcases hs with rfl | rfl <;> rfl
       case gd9_9 =>
        repeat (refine StepAll.cons (by first | exact trivial | exact fun g=>rfl) ?_)
        exact trivial
       case step9_9 =>
        refine StepAll.cons ?_ ?_
        · refine HoldStepB.val (by decide) fun a wx γ hn hr hres hpre Ss hH K hK=>?_
          have e12:a.eval (.tmp 12) = .pointer (some ⟨(w1.heap.size + 1),0,none⟩):=(hr 12 (by decide)).trans rfl
          obtain ⟨Zs,hB⟩:=hpre 16 12 rfl (by decide) (by decide)
          have hk:=(show Hd W wx (Blk (w1.heap.size + 1) (.cells #[.int .i64 ik,.int .i64 ie,.int .u64 nx,.int .u64 bt,.slice ad es.length cap] 146 (0,0))::Zs) from hB).blk
          have c0:=(cell_of_heap hk 0).trans (show _ = some (.int .i64 ik) from rfl)
          have c1:=(cell_of_heap hk 1).trans (show _ = some (.int .i64 ie) from rfl)
          have c2:=(cell_of_heap hk 2).trans (show _ = some (.int .u64 nx) from rfl)
          have c3:=(cell_of_heap hk 3).trans (show _ = some (.int .u64 bt) from rfl)
          have c4:=(cell_of_heap hk 4).trans (show _ = some (.slice ad es.length cap) from rfl)
          clear hk
          exact hold_run (v:=.agg #[.int .i64 ik,.int .i64 ie,.int .u64 nx,.int .u64 bt,.slice ad es.length cap]) (by clear hn hr hK; generalize a.eval = ρ at *; simp [execOp,e12,c0,c1,c2,c3,c4,go_sem]) rfl rfl hH hK
        refine .cons (pR 0 rfl fun _=>⟨rfl,rfl⟩) ?_
        refine .cons (by first | exact pN 1 76 rfl fun _=>⟨rfl,rfl⟩ | exact pF 1 76 0 rfl rfl (fun b q w=>by simp [go_sem]) fun _=>⟨⟨_,_,rfl,rfl⟩,rfl⟩) ?_
        refine .cons (pF 2 77 8 rfl rfl (fun b q w=>by simp [go_sem]) fun _=>⟨⟨_,_,rfl,rfl⟩,rfl⟩) ?_
        refine StepAll.cons ?_ ?_
        · refine HoldStepB.val (by decide) fun a wx γ hn hr hres hpre Ss hH K hK=>?_
          have e78:a.eval (.tmp 78) = .pointer (some ⟨p,8,none⟩):=hn 3 (by decide) 78 rfl
          exact hold_run (v:=.pointer (some ⟨b,0,none⟩)) (by clear hn hr hK; generalize a.eval = ρ at *; simp [execOp,e78,cell_of_heap (Hd.nthk 0 hH.rear rfl),go_sem]) rfl rfl hH hK
        refine .cons (pR 1 rfl fun _=>⟨rfl,rfl⟩) ?_
        refine .cons (pR 2 rfl fun _=>⟨rfl,rfl⟩) ?_
        refine StepAll.cons ?_ ?_
        · refine HoldStepB.fil 15 (by decide) fun a wx γ hn hr hres hpre Ss hH K hK=>?_
          have e75:a.eval (.tmp 75) = .agg #[.int .i64 ik,.int .i64 ie,.int .u64 nx,.int .u64 bt,.slice ad es.length cap]:=hn 0 (by decide) 75 rfl
          have e79:a.eval (.tmp 79) = .pointer (some ⟨b,0,none⟩):=hn 4 (by decide) 79 rfl
          have e80:a.eval (.tmp 80) = .int .i64 e:=hn 5 (by decide) 80 rfl
          have e81:a.eval (.tmp 81) = .int .i64 n:=hn 6 (by decide) 81 rfl
          have ef:a.eval (.func 67) = .func (.func 67) #[] #[]:=rfl
          refine hold_callB (b:=15) (f:=67) (args:=#[.agg #[.int .i64 ik,.int .i64 ie,.int .u64 nx,.int .u64 bt,.slice ad es.length cap],.pointer (some ⟨b,0,none⟩),.int .i64 e,.int .i64 n]) (by clear hn hr hK hH; generalize a.eval = ρ at *; simp [execOp,e75,e79,e80,e81,cf67,ef,go_sem]) ?_ hK
          refine (later19_calls HX.out.rc HIE.out be be' h0n h255 HR.out hH).mono ?_
          rintro e2 w2 ⟨adN,capN,rfl,h1,_⟩
          exact ⟨(adN,capN),rfl,h1 HT0.out⟩
        refine .cons (pN 7 82 rfl fun _=>⟨rfl,rfl⟩) ?_
        refine .cons (pN 8 74 rfl fun _=>⟨rfl,rfl⟩) ?_
        refine .cons (pN 8 74 rfl fun _=>⟨rfl,rfl⟩) ?_
        refine .cons (pN 8 74 rfl fun _=>⟨rfl,rfl⟩) ?_
        refine StepAll.cons ?_ ?_
        · refine HoldStepB.fil 16 (by decide) fun a wx γ hn hr hres hpre Ss hH K hK=>?_
          have e12:a.eval (.tmp 12) = .pointer (some ⟨(w1.heap.size + 1),0,none⟩):=(hr 12 (by decide)).trans rfl
          have e83:a.eval (.tmp 83) = .agg #[.int .i64 ik',.int .i64 ie',.int .u64 nx',.int .u64 bt',.slice (γ 7).1 es'.length (γ 7).2]:=hn 9 (by decide) 83 rfl
          have hH2:Hd W wx (Blk (w1.heap.size + 1) (.cells #[.int .i64 ik,.int .i64 ie,.int .u64 nx,.int .u64 bt,.slice ad es.length cap] 146 (0,0))::(Ss ++ (Blk p (.cells #[.int .i64 ok,.int .i64 oe,.int .i64 sent,.int .i64 ik,.int .i64 ie,.int .u64 nx,.int .u64 bt,.slice ad es.length cap,.pointer (some ⟨b,0,none⟩),.int .i64 xh,.int .i64 xs,.int .i64 xr,.int .i64 xv] 148 (0,0))::Rs))):=hH
          have hk:=hH2.blk
          have c0:=(cell_of_heap hk 0).trans (show _ = some (.int .i64 ik) from rfl)
          have c1:=(cell_of_heap hk 1).trans (show _ = some (.int .i64 ie) from rfl)
          have c2:=(cell_of_heap hk 2).trans (show _ = some (.int .u64 nx) from rfl)
          have c3:=(cell_of_heap hk 3).trans (show _ = some (.int .u64 bt) from rfl)
          have c4:=(cell_of_heap hk 4).trans (show _ = some (.slice ad es.length cap) from rfl)
          have cf:=frozen_of_heap hk
          clear hk hH
          exact hold_filB (w':=(((((wx.setCell ⟨(w1.heap.size + 1),0,none⟩ (.int .i64 ik')).setCell ⟨(w1.heap.size + 1),1,none⟩ (.int .i64 ie')).setCell ⟨(w1.heap.size + 1),2,none⟩ (.int .u64 nx')).setCell ⟨(w1.heap.size + 1),3,none⟩ (.int .u64 bt')).setCell ⟨(w1.heap.size + 1),4,none⟩ (.slice (γ 7).1 es'.length (γ 7).2))) (by clear hn hr hK hH2; generalize a.eval = ρ at *; simp [execOp,e12,e83,c0,c1,c2,c3,c4,cf,go_sem]) rfl rfl (((((hH2.set 0 (.int .i64 ik')).set 1 (.int .i64 ie')).set 2 (.int .u64 nx')).set 3 (.int .u64 bt')).set 4 (.slice (γ 7).1 es'.length (γ 7).2)) hK
        refine .cons (pN 10 84 rfl fun _=>⟨rfl,rfl⟩) ?_
        refine .cons (pN 11 85 rfl fun _=>⟨rfl,rfl⟩) ?_
        exact trivial
       case done9_9 =>
        intro f w9 g9 hv h9
        have er13:f 13 = .int .i64 key:=hv 13 13 rfl
        have er14:f 14 = .int .i64 0:=hv 14 14 rfl
        have hd:Hd W w9 (Sto b Lx m::CaR (.slice (g9 7).1 es'.length (g9 7).2) es'::CaR (.slice ad es.length cap) es::Blk (w1.heap.size + 1) (.cells #[.int .i64 ik',.int .i64 ie',.int .u64 nx',.int .u64 bt',.slice (g9 7).1 es'.length (g9 7).2] 146 (0,0))::Blk p (.cells #[.int .i64 ok,.int .i64 oe,.int .i64 sent,.int .i64 ik,.int .i64 ie,.int .u64 nx,.int .u64 bt,.slice ad es.length cap,.pointer (some ⟨b,0,none⟩),.int .i64 xh,.int .i64 xs,.int .i64 xr,.int .i64 xv] 148 (0,0))::Rs):=h9
        obtain ⟨⟨adN,capN⟩,hG7⟩:∃ x,g9 7 = x:=⟨_,rfl⟩
        simp only [hG7] at hd er13 er14
        clear hv h9 hG7 cf67
        clear g9
        simp only [patchG,Nat.reduceAdd,Nat.reduceLeDiff,decide_true,decide_false,Bool.and_true,Bool.and_false,Bool.or_true,Bool.or_false,cond_true,cond_false,er13,er14]
        clear er13 er14
        clear H HR
        have H:=hid (((((hd.front 2 rfl).front 2 rfl).front 4 rfl).front 4 rfl).front 4 rfl)
        clear hd
        go_wp2_with fail
        have cf69:∀ args w,(callFunc 69 args).run Try.prog w = .ok (.enter 69 args) w:=fun args w=>by kernel_rfl
        refine hold_coreB (P:=Try.prog) (W:=W) (Rs:=(Blk (w1.heap.size + 1) (.cells #[.int .i64 ik',.int .i64 ie',.int .u64 nx',.int .u64 bt',.slice adN es'.length capN] 146 (0,0))::Blk p (.cells #[.int .i64 ok,.int .i64 oe,.int .i64 sent,.int .i64 ik,.int .i64 ie,.int .u64 nx,.int .u64 bt,.slice ad es.length cap,.pointer (some ⟨b,0,none⟩),.int .i64 xh,.int .i64 xs,.int .i64 xr,.int .i64 xv] 148 (0,0))::CaR (.slice adN es'.length capN) es'::CaR (.slice ad es.length cap) es::Rs)) [[],[0],[1],[2],[],[],[5],[],[7],[8],[9],[10],[],[3,4,6,11,12],[13],[14],[14],[15],[16]] [[],[],[],[],[],[],[],[],[],[],[],[],[],[],[],[],[],[],[]] ([some 90,some 91,some 92,some 93,some 94,some 95,some 96,some 97,some 98,some 99,some 100,some 101,some 102,some 103,some 89,some 104,some 105,some 15,some 14]:List (Option Nat)) ([none,none,none,none,none,none,none,none,none,none,none,none,none,none,none,none,none,none,none,some 13]:List (Option Nat)) ((fun _=>pt p 0)::(fun _=>pt p 0)::(fun _=>pt p 8)::(fun _=>pt b 0)::(fun _=>.int .i64 key)::(fun _=>.int .i64 n)::(fun _=>.int .u64 n)::(fun _=>pt p 0)::(fun _=>pt p 0)::(fun _=>pt p 9)::(fun _=>pt p 9)::(fun _=>.int .i64 xh)::(fun _=>.int .i64 c)::(fun _=>.tuple #[.string txt,.int .i64 0])::(fun _=>.tuple #[.string txt,.int .i64 0])::(fun _=>.string txt)::(fun _=>.int .i64 0)::(fun _=>.string txt)::(fun _=>.int .i64 0)::[]) (zR::zR::zR::zR::zR::zR::zR::zR::zR::zR::zR::zR::zR::zR::zR::zR::zR::zR::zR::(fun _=>[Sto b Lx m])::([]:List (List Gh → List Res))) (zR::zR::zR::zR::zR::zR::zR::zR::zR::zR::zR::zR::zR::zR::zR::zR::zR::zR::zR::(fun _=>[Sto b Lx m])::([]:List (List Gh → List Res))) (by kernel_rfl) rfl (hold_lt (n:=114) (by decide)) H.out rfl (by decide) (hold_nil (fs:=[13]) trivial rfl ?nil12_10) ?gd12_10 ?step12_10 (fun t=>(decide (14 ≤ t) && decide (t ≤ 15)) || (decide (89 ≤ t) && decide (t ≤ 105))) (by decide) ?done12_10 (fun I h0 st dn=>run_wpB mixed I h0 st dn)
        case nil12_10 =>
         intro s gs hs
         simp only [List.mem_cons,List.not_mem_nil,or_false] at hs
         subst hs; rfl
        case gd12_10 =>
         repeat (refine StepAll.cons (by first | exact trivial | exact fun g=>rfl) ?_)
         exact trivial
        case step12_10 =>
         refine .cons (pR 0 rfl fun _=>⟨rfl,rfl⟩) ?_
         refine .cons (by first | exact pN 0 90 rfl fun _=>⟨rfl,rfl⟩ | exact pF 0 90 0 rfl rfl (fun b q w=>by simp [go_sem]) fun _=>⟨⟨_,_,rfl,rfl⟩,rfl⟩) ?_
         refine .cons (pF 1 91 8 rfl rfl (fun b q w=>by simp [go_sem]) fun _=>⟨⟨_,_,rfl,rfl⟩,rfl⟩) ?_
         refine StepAll.cons ?_ ?_
         · refine HoldStepB.val (by decide) fun a wx γ hn hr hres hpre Ss hH K hK=>?_
           have e92:a.eval (.tmp 92) = .pointer (some ⟨p,8,none⟩):=hn 2 (by decide) 92 rfl
           exact hold_run (v:=.pointer (some ⟨b,0,none⟩)) (by clear hn hr hK; generalize a.eval = ρ at *; simp [execOp,e92,cell_of_heap (Hd.nthk 1 hH.rear rfl),go_sem]) rfl rfl hH hK
         refine .cons (pR 13 rfl fun _=>⟨rfl,rfl⟩) ?_
         refine .cons (pR 2 rfl fun _=>⟨rfl,rfl⟩) ?_
         refine StepAll.cons ?_ ?_
         · refine HoldStepB.val (by decide) fun a wx γ hn hr hres hpre Ss hH K hK=>?_
           have e95:a.eval (.tmp 95) = .int .i64 n:=hn 5 (by decide) 95 rfl
           exact hold_run (v:=.int .u64 n) (by clear hn hr hK; generalize a.eval = ρ at *; simp [execOp,e95,zcv,go_sem]) rfl rfl hH hK
         refine .cons (pR 0 rfl fun _=>⟨rfl,rfl⟩) ?_
         refine .cons (by first | exact pN 7 97 rfl fun _=>⟨rfl,rfl⟩ | exact pF 7 97 0 rfl rfl (fun b q w=>by simp [go_sem]) fun _=>⟨⟨_,_,rfl,rfl⟩,rfl⟩) ?_
         refine .cons (pF 8 98 9 rfl rfl (fun b q w=>by simp [go_sem]) fun _=>⟨⟨_,_,rfl,rfl⟩,rfl⟩) ?_
         refine .cons (by first | exact pN 9 99 rfl fun _=>⟨rfl,rfl⟩ | exact pF 9 99 0 rfl rfl (fun b q w=>by simp [go_sem]) fun _=>⟨⟨_,_,rfl,rfl⟩,rfl⟩) ?_
         refine StepAll.cons ?_ ?_
         · refine HoldStepB.val (by decide) fun a wx γ hn hr hres hpre Ss hH K hK=>?_
           have e100:a.eval (.tmp 100) = .pointer (some ⟨p,9,none⟩):=hn 10 (by decide) 100 rfl
           exact hold_run (v:=.int .i64 xh) (by clear hn hr hK; generalize a.eval = ρ at *; simp [execOp,e100,cell_of_heap (Hd.nthk 1 hH.rear rfl),go_sem]) rfl rfl hH hK
         refine .cons (pR 3 rfl fun _=>⟨rfl,rfl⟩) ?_
         refine StepAll.cons ?_ ?_
         · refine HoldStepB.fil 19 (by decide) fun a wx γ hn hr hres hpre Ss hH K hK=>?_
           have e93:a.eval (.tmp 93) = .pointer (some ⟨b,0,none⟩):=hn 3 (by decide) 93 rfl
           have e94:a.eval (.tmp 94) = .int .i64 key:=hn 4 (by decide) 94 rfl
           have e96:a.eval (.tmp 96) = .int .u64 n:=hn 6 (by decide) 96 rfl
           have e101:a.eval (.tmp 101) = .int .i64 xh:=hn 11 (by decide) 101 rfl
           have e102:a.eval (.tmp 102) = .int .i64 c:=hn 12 (by decide) 102 rfl
           have ef:a.eval (.func 69) = .func (.func 69) #[] #[]:=rfl
           refine hold_callB (b:=19) (f:=69) (args:=#[.pointer (some ⟨b,0,none⟩),.int .i64 key,.int .u64 n,.int .i64 xh,.int .i64 c]) (by clear hn hr hK hH; generalize a.eval = ρ at *; simp [execOp,e93,e94,e96,e101,e102,cf69,ef,go_sem]) ?_ hK
           refine (read_calls key n xh c hH).mono fun e2 w2 h=>?_
           rw [HRD.out] at h
           exact ⟨default,h.1,h.2⟩
         refine .cons (pN 13 103 rfl fun _=>⟨rfl,rfl⟩) ?_
         refine .cons (pN 14 89 rfl fun _=>⟨rfl,rfl⟩) ?_
         refine .cons (pN 14 89 rfl fun _=>⟨rfl,rfl⟩) ?_
         refine .cons (pN 15 104 rfl fun _=>⟨rfl,rfl⟩) ?_
         refine .cons (pN 16 105 rfl fun _=>⟨rfl,rfl⟩) ?_
         exact trivial
        case done12_10 =>
         intro f w9 g9 hv h9
         have er15:f 15 = .string txt:=hv 17 15 rfl
         have er14:f 14 = .int .i64 0:=hv 18 14 rfl
         have hd:Hd W w9 (Sto b Lx m::Blk (w1.heap.size + 1) (.cells #[.int .i64 ik',.int .i64 ie',.int .u64 nx',.int .u64 bt',.slice adN es'.length capN] 146 (0,0))::Blk p (.cells #[.int .i64 ok,.int .i64 oe,.int .i64 sent,.int .i64 ik,.int .i64 ie,.int .u64 nx,.int .u64 bt,.slice ad es.length cap,.pointer (some ⟨b,0,none⟩),.int .i64 xh,.int .i64 xs,.int .i64 xr,.int .i64 xv] 148 (0,0))::CaR (.slice adN es'.length capN) es'::CaR (.slice ad es.length cap) es::Rs):=h9
         clear hv h9 cf69
         clear g9
         simp only [patchG,Nat.reduceAdd,Nat.reduceLeDiff,decide_true,decide_false,Bool.and_true,Bool.and_false,Bool.or_true,Bool.or_false,cond_true,cond_false,er15,er14]
         clear er15 er14
         clear H HRD
         have H:=hid hd
         clear hd
         have hk:=Hd.nthk 1 H.out rfl
         have c0:=(cell_of_heap hk 0).trans (show _ = some (.int .i64 ik') from rfl)
         have c1:=(cell_of_heap hk 1).trans (show _ = some (.int .i64 ie') from rfl)
         have c2:=(cell_of_heap hk 2).trans (show _ = some (.int .u64 nx') from rfl)
         have c3:=(cell_of_heap hk 3).trans (show _ = some (.int .u64 bt') from rfl)
         have c4:=(cell_of_heap hk 4).trans (show _ = some (.slice adN es'.length capN) from rfl)
         have cs:=(Array.getElem?_eq_some_iff.1 hk).1
         clear hk
         have hk:=Hd.nthk 2 H.out rfl
         obtain ⟨g0,g1,g2,g3,g4,g5,g6,g7,g8,g9,g10,g11,g12⟩:=cells13 hk
         have gs:=(Array.getElem?_eq_some_iff.1 hk).1
         have gf:=frozen_of_heap hk
         clear hk
         go_wp2_with fail
         refine bodyPost_ret (v:=.tuple #[.string txt,.int .i64 0]) (by simp [results,Try.results41,go_sem]) rfl ⟨adN,capN,rfl,?_⟩
         exact (((((((((((((((H.out.front 4 rfl).front 4 rfl).front 3 rfl).front 3 rfl).front 4 rfl).set 3 (.int .i64 ik')).set 4 (.int .i64 ie')).set 5 (.int .u64 nx')).set 6 (.int .u64 bt')).set 7 (.slice adN es'.length capN)).front 3 rfl).front 1 rfl).front 2 rfl).front 4 rfl).front 4 rfl).drop.drop
     · rw [if_neg h2] at hq
       simp only [Prod.mk.injEq] at hq
       obtain ⟨⟨rfl,rfl⟩,rfl,rfl⟩:=hq
       have g1:(er2 != 0) = true:=by rw [bne_iff_ne]; exact h2
       have g2:decide (er2 = 0) = false:=by simpa using h2
       clear h2
       go_enter Try.func41,Try.ntmps41
       have hk:=Hd.nthk 1 H.out rfl
       obtain ⟨g0,g1,g2,g3,g4,g5,g6,g7,g8,g9,g10,g11,g12⟩:=cells13 hk
       have gs:=(Array.getElem?_eq_some_iff.1 hk).1
       clear hk
       go_wp2_with fail
       refine (get_c c H.out).mono ?_
       rw [HTT.out,HGB.out]
       simp only [T.val]
       rintro e2 w1 ⟨rfl,h1⟩
       clear H g0 g1 g2 g3 g4 g5 g6 g7 g8 g9 g10 g11 g12 gs HTT HGB
       have H:=hid (h1.al (o:=.cells #[.int .i64 tk,.string ts,.int .u64 tn,.int .i64 ta,.int .i64 tb,.int .i64 tc] 47 (0,0)))
       clear h1
       have hk:=Hd.nthk 1 H.out rfl
       obtain ⟨g0,g1,g2,g3,g4,g5,g6,g7,g8,g9,g10,g11,g12⟩:=cells13 hk
       have gs:=(Array.getElem?_eq_some_iff.1 hk).1
       clear hk
       go_wp2_with fail
       have HB:=hid (H.out.bxk (w1.heap.size + 1) (by simp) (o:=.cells #[.int .i64 ik,.int .i64 ie,.int .u64 nx,.int .u64 bt,.slice ad es.length cap] 146 (0,0)))
       clear H g0 g1 g2 g3 g4 g5 g6 g7 g8 g9 g10 g11 g12 gs
       have H:=HB
       clear HB
       have hk:=Hd.nthk 1 H.out rfl
       have c0:=(cell_of_heap hk 0).trans (show _ = some (.int .i64 ik) from rfl)
       have c1:=(cell_of_heap hk 1).trans (show _ = some (.int .i64 ie) from rfl)
       have c2:=(cell_of_heap hk 2).trans (show _ = some (.int .u64 nx) from rfl)
       have c3:=(cell_of_heap hk 3).trans (show _ = some (.int .u64 bt) from rfl)
       have c4:=(cell_of_heap hk 4).trans (show _ = some (.slice ad es.length cap) from rfl)
       have cs:=(Array.getElem?_eq_some_iff.1 hk).1
       clear hk
       go_wp2_with fail
       clear c0 c1 c2 c3 c4 cs
       have cf67:∀ args w,(callFunc 67 args).run Try.prog w = .ok (.enter 67 args) w:=fun args w=>by kernel_rfl
       refine hold_coreB (P:=Try.prog) (W:=W) (Rs:=(Blk p (.cells #[.int .i64 ok,.int .i64 oe,.int .i64 sent,.int .i64 ik,.int .i64 ie,.int .u64 nx,.int .u64 bt,.slice ad es.length cap,.pointer (some ⟨b,0,none⟩),.int .i64 xh,.int .i64 xs,.int .i64 xr,.int .i64 xv] 148 (0,0))::Rs)) [[],[],[1],[2],[3],[],[],[0,4,5,6],[7],[8],[8],[8],[0,9],[10],[11]] [[],[],[],[],[],[],[],[7],[7],[7],[],[],[7],[],[]] ([some 75,some 76,some 77,some 78,some 79,some 80,some 81,some 82,some 74,some 83,some 84,some 85,none,some 13,some 14]:List (Option Nat)) ([none,none,none,none,none,none,none,none,none,none,none,none,none,none,none,some 7,some 12]:List (Option Nat)) ((fun _=>.agg #[.int .i64 ik,.int .i64 ie,.int .u64 nx,.int .u64 bt,.slice ad es.length cap])::(fun _=>pt p 0)::(fun _=>pt p 0)::(fun _=>pt p 8)::(fun _=>pt b 0)::(fun _=>.int .i64 e)::(fun _=>.int .i64 n)::(fun gs=>.tuple #[.agg #[.int .i64 ik',.int .i64 ie',.int .u64 nx',.int .u64 bt',.slice (gs.getD 0 default).1 es'.length (gs.getD 0 default).2],.int .i64 key,.int .i64 0])::(fun gs=>.tuple #[.agg #[.int .i64 ik',.int .i64 ie',.int .u64 nx',.int .u64 bt',.slice (gs.getD 0 default).1 es'.length (gs.getD 0 default).2],.int .i64 key,.int .i64 0])::(fun gs=>.agg #[.int .i64 ik',.int .i64 ie',.int .u64 nx',.int .u64 bt',.slice (gs.getD 0 default).1 es'.length (gs.getD 0 default).2])::(fun _=>.int .i64 key)::(fun _=>.int .i64 0)::(fun _=>undef)::(fun _=>.int .i64 key)::(fun _=>.int .i64 0)::[]) (zR::zR::zR::zR::zR::zR::zR::zR::zR::zR::zR::zR::zR::zR::zR::(fun _=>[Sto b L m,CaR (.slice ad es.length cap) es])::(fun _=>[Blk (w1.heap.size + 1) (.cells #[.int .i64 ik,.int .i64 ie,.int .u64 nx,.int .u64 bt,.slice ad es.length cap] 146 (0,0))])::([]:List (List Gh → List Res))) (zR::zR::zR::zR::zR::zR::zR::zR::zR::zR::zR::zR::zR::zR::zR::(fun gs=>[Sto b Lx m,CaR (.slice (gs.getD 0 default).1 es'.length (gs.getD 0 default).2) es',CaR (.slice ad es.length cap) es])::(fun gs=>[Blk (w1.heap.size + 1) (.cells #[.int .i64 ik',.int .i64 ie',.int .u64 nx',.int .u64 bt',.slice (gs.getD 0 default).1 es'.length (gs.getD 0 default).2] 146 (0,0))])::([]:List (List Gh → List Res))) (by kernel_rfl) rfl (hold_lt (n:=114) (by decide)) ((((H.out.front 2 rfl).front 2 rfl).front 3 rfl).front 3 rfl) rfl (by decide) (hold_nil (fs:=[7,12]) trivial rfl ?nil9_11) ?gd9_11 ?step9_11 (fun t=>(decide (13 ≤ t) && decide (t ≤ 14)) || (decide (74 ≤ t) && decide (t ≤ 85))) (by decide) ?done9_11 (fun I h0 st dn=>run_wpB mixed I h0 st dn)
       case nil9_11 =>
        intro s gs hs
        simp only [List.mem_cons,List.not_mem_nil,or_false] at hs
        rcases hs with rfl | rfl <;> rfl
       case gd9_11 =>
        repeat (refine StepAll.cons (by first | exact trivial | exact fun g=>rfl) ?_)
        exact trivial
       case step9_11 =>
        refine StepAll.cons ?_ ?_
        · refine HoldStepB.val (by decide) fun a wx γ hn hr hres hpre Ss hH K hK=>?_
          have e12:a.eval (.tmp 12) = .pointer (some ⟨(w1.heap.size + 1),0,none⟩):=(hr 12 (by decide)).trans rfl
          obtain ⟨Zs,hB⟩:=hpre 16 12 rfl (by decide) (by decide)
          have hk:=(show Hd W wx (Blk (w1.heap.size + 1) (.cells #[.int .i64 ik,.int .i64 ie,.int .u64 nx,.int .u64 bt,.slice ad es.length cap] 146 (0,0))::Zs) from hB).blk
          have c0:=(cell_of_heap hk 0).trans (show _ = some (.int .i64 ik) from rfl)
          have c1:=(cell_of_heap hk 1).trans (show _ = some (.int .i64 ie) from rfl)
          have c2:=(cell_of_heap hk 2).trans (show _ = some (.int .u64 nx) from rfl)
          have c3:=(cell_of_heap hk 3).trans (show _ = some (.int .u64 bt) from rfl)
          have c4:=(cell_of_heap hk 4).trans (show _ = some (.slice ad es.length cap) from rfl)
          clear hk
          exact hold_run (v:=.agg #[.int .i64 ik,.int .i64 ie,.int .u64 nx,.int .u64 bt,.slice ad es.length cap]) (by clear hn hr hK; generalize a.eval = ρ at *; simp [execOp,e12,c0,c1,c2,c3,c4,go_sem]) rfl rfl hH hK
        refine .cons (pR 0 rfl fun _=>⟨rfl,rfl⟩) ?_
        refine .cons (by first | exact pN 1 76 rfl fun _=>⟨rfl,rfl⟩ | exact pF 1 76 0 rfl rfl (fun b q w=>by simp [go_sem]) fun _=>⟨⟨_,_,rfl,rfl⟩,rfl⟩) ?_
        refine .cons (pF 2 77 8 rfl rfl (fun b q w=>by simp [go_sem]) fun _=>⟨⟨_,_,rfl,rfl⟩,rfl⟩) ?_
        refine StepAll.cons ?_ ?_
        · refine HoldStepB.val (by decide) fun a wx γ hn hr hres hpre Ss hH K hK=>?_
          have e78:a.eval (.tmp 78) = .pointer (some ⟨p,8,none⟩):=hn 3 (by decide) 78 rfl
          exact hold_run (v:=.pointer (some ⟨b,0,none⟩)) (by clear hn hr hK; generalize a.eval = ρ at *; simp [execOp,e78,cell_of_heap (Hd.nthk 0 hH.rear rfl),go_sem]) rfl rfl hH hK
        refine .cons (pR 1 rfl fun _=>⟨rfl,rfl⟩) ?_
        refine .cons (pR 2 rfl fun _=>⟨rfl,rfl⟩) ?_
        refine StepAll.cons ?_ ?_
        · refine HoldStepB.fil 15 (by decide) fun a wx γ hn hr hres hpre Ss hH K hK=>?_
          have e75:a.eval (.tmp 75) = .agg #[.int .i64 ik,.int .i64 ie,.int .u64 nx,.int .u64 bt,.slice ad es.length cap]:=hn 0 (by decide) 75 rfl
          have e79:a.eval (.tmp 79) = .pointer (some ⟨b,0,none⟩):=hn 4 (by decide) 79 rfl
          have e80:a.eval (.tmp 80) = .int .i64 e:=hn 5 (by decide) 80 rfl
          have e81:a.eval (.tmp 81) = .int .i64 n:=hn 6 (by decide) 81 rfl
          have ef:a.eval (.func 67) = .func (.func 67) #[] #[]:=rfl
          refine hold_callB (b:=15) (f:=67) (args:=#[.agg #[.int .i64 ik,.int .i64 ie,.int .u64 nx,.int .u64 bt,.slice ad es.length cap],.pointer (some ⟨b,0,none⟩),.int .i64 e,.int .i64 n]) (by clear hn hr hK hH; generalize a.eval = ρ at *; simp [execOp,e75,e79,e80,e81,cf67,ef,go_sem]) ?_ hK
          refine (later19_calls HX.out.rc HIE.out be be' h0n h255 HR.out hH).mono ?_
          rintro e2 w2 ⟨adN,capN,rfl,h1,_⟩
          exact ⟨(adN,capN),rfl,h1 HT0.out⟩
        refine .cons (pN 7 82 rfl fun _=>⟨rfl,rfl⟩) ?_
        refine .cons (pN 8 74 rfl fun _=>⟨rfl,rfl⟩) ?_
        refine .cons (pN 8 74 rfl fun _=>⟨rfl,rfl⟩) ?_
        refine .cons (pN 8 74 rfl fun _=>⟨rfl,rfl⟩) ?_
        refine StepAll.cons ?_ ?_
        · refine HoldStepB.fil 16 (by decide) fun a wx γ hn hr hres hpre Ss hH K hK=>?_
          have e12:a.eval (.tmp 12) = .pointer (some ⟨(w1.heap.size + 1),0,none⟩):=(hr 12 (by decide)).trans rfl
          have e83:a.eval (.tmp 83) = .agg #[.int .i64 ik',.int .i64 ie',.int .u64 nx',.int .u64 bt',.slice (γ 7).1 es'.length (γ 7).2]:=hn 9 (by decide) 83 rfl
          have hH2:Hd W wx (Blk (w1.heap.size + 1) (.cells #[.int .i64 ik,.int .i64 ie,.int .u64 nx,.int .u64 bt,.slice ad es.length cap] 146 (0,0))::(Ss ++ (Blk p (.cells #[.int .i64 ok,.int .i64 oe,.int .i64 sent,.int .i64 ik,.int .i64 ie,.int .u64 nx,.int .u64 bt,.slice ad es.length cap,.pointer (some ⟨b,0,none⟩),.int .i64 xh,.int .i64 xs,.int .i64 xr,.int .i64 xv] 148 (0,0))::Rs))):=hH
          have hk:=hH2.blk
          have c0:=(cell_of_heap hk 0).trans (show _ = some (.int .i64 ik) from rfl)
          have c1:=(cell_of_heap hk 1).trans (show _ = some (.int .i64 ie) from rfl)
          have c2:=(cell_of_heap hk 2).trans (show _ = some (.int .u64 nx) from rfl)
          have c3:=(cell_of_heap hk 3).trans (show _ = some (.int .u64 bt) from rfl)
          have c4:=(cell_of_heap hk 4).trans (show _ = some (.slice ad es.length cap) from rfl)
          have cf:=frozen_of_heap hk
          clear hk hH
          exact hold_filB (w':=(((((wx.setCell ⟨(w1.heap.size + 1),0,none⟩ (.int .i64 ik')).setCell ⟨(w1.heap.size + 1),1,none⟩ (.int .i64 ie')).setCell ⟨(w1.heap.size + 1),2,none⟩ (.int .u64 nx')).setCell ⟨(w1.heap.size + 1),3,none⟩ (.int .u64 bt')).setCell ⟨(w1.heap.size + 1),4,none⟩ (.slice (γ 7).1 es'.length (γ 7).2))) (by clear hn hr hK hH2; generalize a.eval = ρ at *; simp [execOp,e12,e83,c0,c1,c2,c3,c4,cf,go_sem]) rfl rfl (((((hH2.set 0 (.int .i64 ik')).set 1 (.int .i64 ie')).set 2 (.int .u64 nx')).set 3 (.int .u64 bt')).set 4 (.slice (γ 7).1 es'.length (γ 7).2)) hK
        refine .cons (pN 10 84 rfl fun _=>⟨rfl,rfl⟩) ?_
        refine .cons (pN 11 85 rfl fun _=>⟨rfl,rfl⟩) ?_
        exact trivial
       case done9_11 =>
        intro f w9 g9 hv h9
        have er13:f 13 = .int .i64 key:=hv 13 13 rfl
        have er14:f 14 = .int .i64 0:=hv 14 14 rfl
        have hd:Hd W w9 (Sto b Lx m::CaR (.slice (g9 7).1 es'.length (g9 7).2) es'::CaR (.slice ad es.length cap) es::Blk (w1.heap.size + 1) (.cells #[.int .i64 ik',.int .i64 ie',.int .u64 nx',.int .u64 bt',.slice (g9 7).1 es'.length (g9 7).2] 146 (0,0))::Blk p (.cells #[.int .i64 ok,.int .i64 oe,.int .i64 sent,.int .i64 ik,.int .i64 ie,.int .u64 nx,.int .u64 bt,.slice ad es.length cap,.pointer (some ⟨b,0,none⟩),.int .i64 xh,.int .i64 xs,.int .i64 xr,.int .i64 xv] 148 (0,0))::Rs):=h9
        obtain ⟨⟨adN,capN⟩,hG7⟩:∃ x,g9 7 = x:=⟨_,rfl⟩
        simp only [hG7] at hd er13 er14
        clear hv h9 hG7 cf67
        clear g9
        simp only [patchG,Nat.reduceAdd,Nat.reduceLeDiff,decide_true,decide_false,Bool.and_true,Bool.and_false,Bool.or_true,Bool.or_false,cond_true,cond_false,er13,er14]
        clear er13 er14
        clear H HR
        have H:=hid (((((hd.front 2 rfl).front 2 rfl).front 4 rfl).front 4 rfl).front 4 rfl)
        clear hd
        go_wp2_with fail
        have cf69:∀ args w,(callFunc 69 args).run Try.prog w = .ok (.enter 69 args) w:=fun args w=>by kernel_rfl
        refine hold_coreB (P:=Try.prog) (W:=W) (Rs:=(Blk (w1.heap.size + 1) (.cells #[.int .i64 ik',.int .i64 ie',.int .u64 nx',.int .u64 bt',.slice adN es'.length capN] 146 (0,0))::Blk p (.cells #[.int .i64 ok,.int .i64 oe,.int .i64 sent,.int .i64 ik,.int .i64 ie,.int .u64 nx,.int .u64 bt,.slice ad es.length cap,.pointer (some ⟨b,0,none⟩),.int .i64 xh,.int .i64 xs,.int .i64 xr,.int .i64 xv] 148 (0,0))::CaR (.slice adN es'.length capN) es'::CaR (.slice ad es.length cap) es::Rs)) [[],[0],[1],[2],[],[],[5],[],[7],[8],[9],[10],[],[3,4,6,11,12],[13],[14],[14],[15],[16]] [[],[],[],[],[],[],[],[],[],[],[],[],[],[],[],[],[],[],[]] ([some 90,some 91,some 92,some 93,some 94,some 95,some 96,some 97,some 98,some 99,some 100,some 101,some 102,some 103,some 89,some 104,some 105,some 15,some 14]:List (Option Nat)) ([none,none,none,none,none,none,none,none,none,none,none,none,none,none,none,none,none,none,none,some 13]:List (Option Nat)) ((fun _=>pt p 0)::(fun _=>pt p 0)::(fun _=>pt p 8)::(fun _=>pt b 0)::(fun _=>.int .i64 key)::(fun _=>.int .i64 n)::(fun _=>.int .u64 n)::(fun _=>pt p 0)::(fun _=>pt p 0)::(fun _=>pt p 9)::(fun _=>pt p 9)::(fun _=>.int .i64 xh)::(fun _=>.int .i64 c)::(fun _=>.tuple #[.string txt,.int .i64 er2])::(fun _=>.tuple #[.string txt,.int .i64 er2])::(fun _=>.string txt)::(fun _=>.int .i64 er2)::(fun _=>.string txt)::(fun _=>.int .i64 er2)::[]) (zR::zR::zR::zR::zR::zR::zR::zR::zR::zR::zR::zR::zR::zR::zR::zR::zR::zR::zR::(fun _=>[Sto b Lx m])::([]:List (List Gh → List Res))) (zR::zR::zR::zR::zR::zR::zR::zR::zR::zR::zR::zR::zR::zR::zR::zR::zR::zR::zR::(fun _=>[Sto b Lx m])::([]:List (List Gh → List Res))) (by kernel_rfl) rfl (hold_lt (n:=114) (by decide)) H.out rfl (by decide) (hold_nil (fs:=[13]) trivial rfl ?nil12_12) ?gd12_12 ?step12_12 (fun t=>(decide (14 ≤ t) && decide (t ≤ 15)) || (decide (89 ≤ t) && decide (t ≤ 105))) (by decide) ?done12_12 (fun I h0 st dn=>run_wpB mixed I h0 st dn)
        case nil12_12 =>
         intro s gs hs
         simp only [List.mem_cons,List.not_mem_nil,or_false] at hs
         subst hs; rfl
        case gd12_12 =>
         repeat (refine StepAll.cons (by first | exact trivial | exact fun g=>rfl) ?_)
         exact trivial
        case step12_12 =>
         refine .cons (pR 0 rfl fun _=>⟨rfl,rfl⟩) ?_
         refine .cons (by first | exact pN 0 90 rfl fun _=>⟨rfl,rfl⟩ | exact pF 0 90 0 rfl rfl (fun b q w=>by simp [go_sem]) fun _=>⟨⟨_,_,rfl,rfl⟩,rfl⟩) ?_
         refine .cons (pF 1 91 8 rfl rfl (fun b q w=>by simp [go_sem]) fun _=>⟨⟨_,_,rfl,rfl⟩,rfl⟩) ?_
         refine StepAll.cons ?_ ?_
         · refine HoldStepB.val (by decide) fun a wx γ hn hr hres hpre Ss hH K hK=>?_
           have e92:a.eval (.tmp 92) = .pointer (some ⟨p,8,none⟩):=hn 2 (by decide) 92 rfl
           exact hold_run (v:=.pointer (some ⟨b,0,none⟩)) (by clear hn hr hK; generalize a.eval = ρ at *; simp [execOp,e92,cell_of_heap (Hd.nthk 1 hH.rear rfl),go_sem]) rfl rfl hH hK
         refine .cons (pR 13 rfl fun _=>⟨rfl,rfl⟩) ?_
         refine .cons (pR 2 rfl fun _=>⟨rfl,rfl⟩) ?_
         refine StepAll.cons ?_ ?_
         · refine HoldStepB.val (by decide) fun a wx γ hn hr hres hpre Ss hH K hK=>?_
           have e95:a.eval (.tmp 95) = .int .i64 n:=hn 5 (by decide) 95 rfl
           exact hold_run (v:=.int .u64 n) (by clear hn hr hK; generalize a.eval = ρ at *; simp [execOp,e95,zcv,go_sem]) rfl rfl hH hK
         refine .cons (pR 0 rfl fun _=>⟨rfl,rfl⟩) ?_
         refine .cons (by first | exact pN 7 97 rfl fun _=>⟨rfl,rfl⟩ | exact pF 7 97 0 rfl rfl (fun b q w=>by simp [go_sem]) fun _=>⟨⟨_,_,rfl,rfl⟩,rfl⟩) ?_
         refine .cons (pF 8 98 9 rfl rfl (fun b q w=>by simp [go_sem]) fun _=>⟨⟨_,_,rfl,rfl⟩,rfl⟩) ?_
         refine .cons (by first | exact pN 9 99 rfl fun _=>⟨rfl,rfl⟩ | exact pF 9 99 0 rfl rfl (fun b q w=>by simp [go_sem]) fun _=>⟨⟨_,_,rfl,rfl⟩,rfl⟩) ?_
         refine StepAll.cons ?_ ?_
         · refine HoldStepB.val (by decide) fun a wx γ hn hr hres hpre Ss hH K hK=>?_
           have e100:a.eval (.tmp 100) = .pointer (some ⟨p,9,none⟩):=hn 10 (by decide) 100 rfl
           exact hold_run (v:=.int .i64 xh) (by clear hn hr hK; generalize a.eval = ρ at *; simp [execOp,e100,cell_of_heap (Hd.nthk 1 hH.rear rfl),go_sem]) rfl rfl hH hK
         refine .cons (pR 3 rfl fun _=>⟨rfl,rfl⟩) ?_
         refine StepAll.cons ?_ ?_
         · refine HoldStepB.fil 19 (by decide) fun a wx γ hn hr hres hpre Ss hH K hK=>?_
           have e93:a.eval (.tmp 93) = .pointer (some ⟨b,0,none⟩):=hn 3 (by decide) 93 rfl
           have e94:a.eval (.tmp 94) = .int .i64 key:=hn 4 (by decide) 94 rfl
           have e96:a.eval (.tmp 96) = .int .u64 n:=hn 6 (by decide) 96 rfl
           have e101:a.eval (.tmp 101) = .int .i64 xh:=hn 11 (by decide) 101 rfl
           have e102:a.eval (.tmp 102) = .int .i64 c:=hn 12 (by decide) 102 rfl
           have ef:a.eval (.func 69) = .func (.func 69) #[] #[]:=rfl
           refine hold_callB (b:=19) (f:=69) (args:=#[.pointer (some ⟨b,0,none⟩),.int .i64 key,.int .u64 n,.int .i64 xh,.int .i64 c]) (by clear hn hr hK hH; generalize a.eval = ρ at *; simp [execOp,e93,e94,e96,e101,e102,cf69,ef,go_sem]) ?_ hK
           refine (read_calls key n xh c hH).mono fun e2 w2 h=>?_
           rw [HRD.out] at h
           exact ⟨default,h.1,h.2⟩
         refine .cons (pN 13 103 rfl fun _=>⟨rfl,rfl⟩) ?_
         refine .cons (pN 14 89 rfl fun _=>⟨rfl,rfl⟩) ?_
         refine .cons (pN 14 89 rfl fun _=>⟨rfl,rfl⟩) ?_
         refine .cons (pN 15 104 rfl fun _=>⟨rfl,rfl⟩) ?_
         refine .cons (pN 16 105 rfl fun _=>⟨rfl,rfl⟩) ?_
         exact trivial
        case done12_12 =>
         intro f w9 g9 hv h9
         have er15:f 15 = .string txt:=hv 17 15 rfl
         have er14:f 14 = .int .i64 er2:=hv 18 14 rfl
         have hd:Hd W w9 (Sto b Lx m::Blk (w1.heap.size + 1) (.cells #[.int .i64 ik',.int .i64 ie',.int .u64 nx',.int .u64 bt',.slice adN es'.length capN] 146 (0,0))::Blk p (.cells #[.int .i64 ok,.int .i64 oe,.int .i64 sent,.int .i64 ik,.int .i64 ie,.int .u64 nx,.int .u64 bt,.slice ad es.length cap,.pointer (some ⟨b,0,none⟩),.int .i64 xh,.int .i64 xs,.int .i64 xr,.int .i64 xv] 148 (0,0))::CaR (.slice adN es'.length capN) es'::CaR (.slice ad es.length cap) es::Rs):=h9
         clear hv h9 cf69
         clear g9
         simp only [patchG,Nat.reduceAdd,Nat.reduceLeDiff,decide_true,decide_false,Bool.and_true,Bool.and_false,Bool.or_true,Bool.or_false,cond_true,cond_false,er15,er14]
         clear er15 er14
         clear H HRD
         have H:=hid hd
         clear hd
         go_wp2_with fail
         refine bodyPost_ret (v:=.tuple #[.string ⟨#[]⟩,.int .i64 er2]) (by simp [results,Try.results41,go_sem]) rfl ⟨ad,cap,rfl,?_⟩
         exact (((((H.out.front 4 rfl).front 3 rfl).front 2 rfl).front 4 rfl).front 4 rfl).drop.drop
   · rw [if_neg h1] at hq
     simp only [Prod.mk.injEq] at hq
     obtain ⟨⟨rfl,rfl⟩,rfl,rfl⟩:=hq
     have g1:(er1 != 0) = true:=by rw [bne_iff_ne]; exact h1
     have g2:decide (er1 = 0) = false:=by simpa using h1
     skip
     clear h1
     go_enter Try.func41,Try.ntmps41
     have hk:=Hd.nthk 1 H.out rfl
     obtain ⟨g0,g1,g2,g3,g4,g5,g6,g7,g8,g9,g10,g11,g12⟩:=cells13 hk
     have gs:=(Array.getElem?_eq_some_iff.1 hk).1
     clear hk
     go_wp2_with fail
     refine (get_c c H.out).mono ?_
     rw [HTT.out,HGB.out]
     simp only [T.val]
     rintro e2 w1 ⟨rfl,h1⟩
     clear H g0 g1 g2 g3 g4 g5 g6 g7 g8 g9 g10 g11 g12 gs HTT HGB
     have H:=hid (h1.al (o:=.cells #[.int .i64 tk,.string ts,.int .u64 tn,.int .i64 ta,.int .i64 tb,.int .i64 tc] 47 (0,0)))
     clear h1
     have hk:=Hd.nthk 1 H.out rfl
     obtain ⟨g0,g1,g2,g3,g4,g5,g6,g7,g8,g9,g10,g11,g12⟩:=cells13 hk
     have gs:=(Array.getElem?_eq_some_iff.1 hk).1
     clear hk
     go_wp2_with fail
     have HB:=hid (H.out.bxk (w1.heap.size + 1) (by simp) (o:=.cells #[.int .i64 ik,.int .i64 ie,.int .u64 nx,.int .u64 bt,.slice ad es.length cap] 146 (0,0)))
     clear H g0 g1 g2 g3 g4 g5 g6 g7 g8 g9 g10 g11 g12 gs
     have H:=HB
     clear HB
     have hk:=Hd.nthk 1 H.out rfl
     have c0:=(cell_of_heap hk 0).trans (show _ = some (.int .i64 ik) from rfl)
     have c1:=(cell_of_heap hk 1).trans (show _ = some (.int .i64 ie) from rfl)
     have c2:=(cell_of_heap hk 2).trans (show _ = some (.int .u64 nx) from rfl)
     have c3:=(cell_of_heap hk 3).trans (show _ = some (.int .u64 bt) from rfl)
     have c4:=(cell_of_heap hk 4).trans (show _ = some (.slice ad es.length cap) from rfl)
     have cs:=(Array.getElem?_eq_some_iff.1 hk).1
     clear hk
     go_wp2_with fail
     clear c0 c1 c2 c3 c4 cs
     have cf67:∀ args w,(callFunc 67 args).run Try.prog w = .ok (.enter 67 args) w:=fun args w=>by kernel_rfl
     refine hold_coreB (P:=Try.prog) (W:=W) (Rs:=(Blk p (.cells #[.int .i64 ok,.int .i64 oe,.int .i64 sent,.int .i64 ik,.int .i64 ie,.int .u64 nx,.int .u64 bt,.slice ad es.length cap,.pointer (some ⟨b,0,none⟩),.int .i64 xh,.int .i64 xs,.int .i64 xr,.int .i64 xv] 148 (0,0))::Rs)) [[],[],[1],[2],[3],[],[],[0,4,5,6],[7],[8],[8],[8],[0,9],[10],[11]] [[],[],[],[],[],[],[],[7],[7],[7],[],[],[7],[],[]] ([some 75,some 76,some 77,some 78,some 79,some 80,some 81,some 82,some 74,some 83,some 84,some 85,none,some 13,some 14]:List (Option Nat)) ([none,none,none,none,none,none,none,none,none,none,none,none,none,none,none,some 7,some 12]:List (Option Nat)) ((fun _=>.agg #[.int .i64 ik,.int .i64 ie,.int .u64 nx,.int .u64 bt,.slice ad es.length cap])::(fun _=>pt p 0)::(fun _=>pt p 0)::(fun _=>pt p 8)::(fun _=>pt b 0)::(fun _=>.int .i64 e)::(fun _=>.int .i64 n)::(fun gs=>.tuple #[.agg #[.int .i64 ik',.int .i64 ie',.int .u64 nx',.int .u64 bt',.slice (gs.getD 0 default).1 es'.length (gs.getD 0 default).2],.int .i64 key,.int .i64 er1])::(fun gs=>.tuple #[.agg #[.int .i64 ik',.int .i64 ie',.int .u64 nx',.int .u64 bt',.slice (gs.getD 0 default).1 es'.length (gs.getD 0 default).2],.int .i64 key,.int .i64 er1])::(fun gs=>.agg #[.int .i64 ik',.int .i64 ie',.int .u64 nx',.int .u64 bt',.slice (gs.getD 0 default).1 es'.length (gs.getD 0 default).2])::(fun _=>.int .i64 key)::(fun _=>.int .i64 er1)::(fun _=>undef)::(fun _=>.int .i64 key)::(fun _=>.int .i64 er1)::[]) (zR::zR::zR::zR::zR::zR::zR::zR::zR::zR::zR::zR::zR::zR::zR::(fun _=>[Sto b L m,CaR (.slice ad es.length cap) es])::(fun _=>[Blk (w1.heap.size + 1) (.cells #[.int .i64 ik,.int .i64 ie,.int .u64 nx,.int .u64 bt,.slice ad es.length cap] 146 (0,0))])::([]:List (List Gh → List Res))) (zR::zR::zR::zR::zR::zR::zR::zR::zR::zR::zR::zR::zR::zR::zR::(fun gs=>[Sto b Lx m,CaR (.slice (gs.getD 0 default).1 es'.length (gs.getD 0 default).2) es',CaR (.slice ad es.length cap) es])::(fun gs=>[Blk (w1.heap.size + 1) (.cells #[.int .i64 ik',.int .i64 ie',.int .u64 nx',.int .u64 bt',.slice (gs.getD 0 default).1 es'.length (gs.getD 0 default).2] 146 (0,0))])::([]:List (List Gh → List Res))) (by kernel_rfl) rfl (hold_lt (n:=114) (by decide)) ((((H.out.front 2 rfl).front 2 rfl).front 3 rfl).front 3 rfl) rfl (by decide) (hold_nil (fs:=[7,12]) trivial rfl ?nil9_13) ?gd9_13 ?step9_13 (fun t=>(decide (13 ≤ t) && decide (t ≤ 14)) || (decide (74 ≤ t) && decide (t ≤ 85))) (by decide) ?done9_13 (fun I h0 st dn=>run_wpB mixed I h0 st dn)
     case nil9_13 =>
      intro s gs hs
      simp only [List.mem_cons,List.not_mem_nil,or_false] at hs
      rcases hs with rfl | rfl <;> rfl
     case gd9_13 =>
      repeat (refine StepAll.cons (by first | exact trivial | exact fun g=>rfl) ?_)
      exact trivial
     case step9_13 =>
      refine StepAll.cons ?_ ?_
      · refine HoldStepB.val (by decide) fun a wx γ hn hr hres hpre Ss hH K hK=>?_
        have e12:a.eval (.tmp 12) = .pointer (some ⟨(w1.heap.size + 1),0,none⟩):=(hr 12 (by decide)).trans rfl
        obtain ⟨Zs,hB⟩:=hpre 16 12 rfl (by decide) (by decide)
        have hk:=(show Hd W wx (Blk (w1.heap.size + 1) (.cells #[.int .i64 ik,.int .i64 ie,.int .u64 nx,.int .u64 bt,.slice ad es.length cap] 146 (0,0))::Zs) from hB).blk
        have c0:=(cell_of_heap hk 0).trans (show _ = some (.int .i64 ik) from rfl)
        have c1:=(cell_of_heap hk 1).trans (show _ = some (.int .i64 ie) from rfl)
        have c2:=(cell_of_heap hk 2).trans (show _ = some (.int .u64 nx) from rfl)
        have c3:=(cell_of_heap hk 3).trans (show _ = some (.int .u64 bt) from rfl)
        have c4:=(cell_of_heap hk 4).trans (show _ = some (.slice ad es.length cap) from rfl)
        clear hk
        exact hold_run (v:=.agg #[.int .i64 ik,.int .i64 ie,.int .u64 nx,.int .u64 bt,.slice ad es.length cap]) (by clear hn hr hK; generalize a.eval = ρ at *; simp [execOp,e12,c0,c1,c2,c3,c4,go_sem]) rfl rfl hH hK
      refine .cons (pR 0 rfl fun _=>⟨rfl,rfl⟩) ?_
      refine .cons (by first | exact pN 1 76 rfl fun _=>⟨rfl,rfl⟩ | exact pF 1 76 0 rfl rfl (fun b q w=>by simp [go_sem]) fun _=>⟨⟨_,_,rfl,rfl⟩,rfl⟩) ?_
      refine .cons (pF 2 77 8 rfl rfl (fun b q w=>by simp [go_sem]) fun _=>⟨⟨_,_,rfl,rfl⟩,rfl⟩) ?_
      refine StepAll.cons ?_ ?_
      · refine HoldStepB.val (by decide) fun a wx γ hn hr hres hpre Ss hH K hK=>?_
        have e78:a.eval (.tmp 78) = .pointer (some ⟨p,8,none⟩):=hn 3 (by decide) 78 rfl
        exact hold_run (v:=.pointer (some ⟨b,0,none⟩)) (by clear hn hr hK; generalize a.eval = ρ at *; simp [execOp,e78,cell_of_heap (Hd.nthk 0 hH.rear rfl),go_sem]) rfl rfl hH hK
      refine .cons (pR 1 rfl fun _=>⟨rfl,rfl⟩) ?_
      refine .cons (pR 2 rfl fun _=>⟨rfl,rfl⟩) ?_
      refine StepAll.cons ?_ ?_
      · refine HoldStepB.fil 15 (by decide) fun a wx γ hn hr hres hpre Ss hH K hK=>?_
        have e75:a.eval (.tmp 75) = .agg #[.int .i64 ik,.int .i64 ie,.int .u64 nx,.int .u64 bt,.slice ad es.length cap]:=hn 0 (by decide) 75 rfl
        have e79:a.eval (.tmp 79) = .pointer (some ⟨b,0,none⟩):=hn 4 (by decide) 79 rfl
        have e80:a.eval (.tmp 80) = .int .i64 e:=hn 5 (by decide) 80 rfl
        have e81:a.eval (.tmp 81) = .int .i64 n:=hn 6 (by decide) 81 rfl
        have ef:a.eval (.func 67) = .func (.func 67) #[] #[]:=rfl
        refine hold_callB (b:=15) (f:=67) (args:=#[.agg #[.int .i64 ik,.int .i64 ie,.int .u64 nx,.int .u64 bt,.slice ad es.length cap],.pointer (some ⟨b,0,none⟩),.int .i64 e,.int .i64 n]) (by clear hn hr hK hH; generalize a.eval = ρ at *; simp [execOp,e75,e79,e80,e81,cf67,ef,go_sem]) ?_ hK
        refine (later19_calls HX.out.rc HIE.out be be' h0n h255 HR.out hH).mono ?_
        rintro e2 w2 ⟨adN,capN,rfl,h1,_⟩
        exact ⟨(adN,capN),rfl,h1 HT0.out⟩
      refine .cons (pN 7 82 rfl fun _=>⟨rfl,rfl⟩) ?_
      refine .cons (pN 8 74 rfl fun _=>⟨rfl,rfl⟩) ?_
      refine .cons (pN 8 74 rfl fun _=>⟨rfl,rfl⟩) ?_
      refine .cons (pN 8 74 rfl fun _=>⟨rfl,rfl⟩) ?_
      refine StepAll.cons ?_ ?_
      · refine HoldStepB.fil 16 (by decide) fun a wx γ hn hr hres hpre Ss hH K hK=>?_
        have e12:a.eval (.tmp 12) = .pointer (some ⟨(w1.heap.size + 1),0,none⟩):=(hr 12 (by decide)).trans rfl
        have e83:a.eval (.tmp 83) = .agg #[.int .i64 ik',.int .i64 ie',.int .u64 nx',.int .u64 bt',.slice (γ 7).1 es'.length (γ 7).2]:=hn 9 (by decide) 83 rfl
        have hH2:Hd W wx (Blk (w1.heap.size + 1) (.cells #[.int .i64 ik,.int .i64 ie,.int .u64 nx,.int .u64 bt,.slice ad es.length cap] 146 (0,0))::(Ss ++ (Blk p (.cells #[.int .i64 ok,.int .i64 oe,.int .i64 sent,.int .i64 ik,.int .i64 ie,.int .u64 nx,.int .u64 bt,.slice ad es.length cap,.pointer (some ⟨b,0,none⟩),.int .i64 xh,.int .i64 xs,.int .i64 xr,.int .i64 xv] 148 (0,0))::Rs))):=hH
        have hk:=hH2.blk
        have c0:=(cell_of_heap hk 0).trans (show _ = some (.int .i64 ik) from rfl)
        have c1:=(cell_of_heap hk 1).trans (show _ = some (.int .i64 ie) from rfl)
        have c2:=(cell_of_heap hk 2).trans (show _ = some (.int .u64 nx) from rfl)
        have c3:=(cell_of_heap hk 3).trans (show _ = some (.int .u64 bt) from rfl)
        have c4:=(cell_of_heap hk 4).trans (show _ = some (.slice ad es.length cap) from rfl)
        have cf:=frozen_of_heap hk
        clear hk hH
        exact hold_filB (w':=(((((wx.setCell ⟨(w1.heap.size + 1),0,none⟩ (.int .i64 ik')).setCell ⟨(w1.heap.size + 1),1,none⟩ (.int .i64 ie')).setCell ⟨(w1.heap.size + 1),2,none⟩ (.int .u64 nx')).setCell ⟨(w1.heap.size + 1),3,none⟩ (.int .u64 bt')).setCell ⟨(w1.heap.size + 1),4,none⟩ (.slice (γ 7).1 es'.length (γ 7).2))) (by clear hn hr hK hH2; generalize a.eval = ρ at *; simp [execOp,e12,e83,c0,c1,c2,c3,c4,cf,go_sem]) rfl rfl (((((hH2.set 0 (.int .i64 ik')).set 1 (.int .i64 ie')).set 2 (.int .u64 nx')).set 3 (.int .u64 bt')).set 4 (.slice (γ 7).1 es'.length (γ 7).2)) hK
      refine .cons (pN 10 84 rfl fun _=>⟨rfl,rfl⟩) ?_
      refine .cons (pN 11 85 rfl fun _=>⟨rfl,rfl⟩) ?_
      exact trivial
     case done9_13 =>
      intro f w9 g9 hv h9
      have er13:f 13 = .int .i64 key:=hv 13 13 rfl
      have er14:f 14 = .int .i64 er1:=hv 14 14 rfl
      have hd:Hd W w9 (Sto b Lx m::CaR (.slice (g9 7).1 es'.length (g9 7).2) es'::CaR (.slice ad es.length cap) es::Blk (w1.heap.size + 1) (.cells #[.int .i64 ik',.int .i64 ie',.int .u64 nx',.int .u64 bt',.slice (g9 7).1 es'.length (g9 7).2] 146 (0,0))::Blk p (.cells #[.int .i64 ok,.int .i64 oe,.int .i64 sent,.int .i64 ik,.int .i64 ie,.int .u64 nx,.int .u64 bt,.slice ad es.length cap,.pointer (some ⟨b,0,none⟩),.int .i64 xh,.int .i64 xs,.int .i64 xr,.int .i64 xv] 148 (0,0))::Rs):=h9
      obtain ⟨⟨adN,capN⟩,hG7⟩:∃ x,g9 7 = x:=⟨_,rfl⟩
      simp only [hG7] at hd er13 er14
      clear hv h9 hG7 cf67
      clear g9
      simp only [patchG,Nat.reduceAdd,Nat.reduceLeDiff,decide_true,decide_false,Bool.and_true,Bool.and_false,Bool.or_true,Bool.or_false,cond_true,cond_false,er13,er14]
      clear er13 er14
      clear H HR
      have H:=hid (((((hd.front 2 rfl).front 2 rfl).front 4 rfl).front 4 rfl).front 4 rfl)
      clear hd
      go_wp2_with fail
      refine bodyPost_ret (v:=.tuple #[.string ⟨#[]⟩,.int .i64 er1]) (by simp [results,Try.results41,go_sem]) rfl ⟨ad,cap,rfl,?_⟩
      exact (((((H.out.front 4 rfl).front 3 rfl).front 2 rfl).front 4 rfl).front 4 rfl).drop.drop
 · have HT0:=hid ht0
   have h1:er1 ≠ 0:=by
    have hr:=HR.out
    unfold later19 at hr
    dsimp only at hr
    rw [if_neg ht0] at hr
    simp only [Prod.mk.injEq] at hr
    rw [← hr.2.2.1]; exact ht0
   clear ht0
   rw [if_neg h1] at hq
   simp only [Prod.mk.injEq] at hq
   obtain ⟨⟨rfl,rfl⟩,rfl,rfl⟩:=hq
   have g1:(er1 != 0) = true:=by rw [bne_iff_ne]; exact h1
   have g2:decide (er1 = 0) = false:=by simpa using h1
   clear h1
   go_enter Try.func41,Try.ntmps41
   have hk:=Hd.nthk 1 H.out rfl
   obtain ⟨g0,g1,g2,g3,g4,g5,g6,g7,g8,g9,g10,g11,g12⟩:=cells13 hk
   have gs:=(Array.getElem?_eq_some_iff.1 hk).1
   clear hk
   go_wp2_with fail
   refine (get_c c H.out).mono ?_
   rw [HTT.out,HGB.out]
   simp only [T.val]
   rintro e2 w1 ⟨rfl,h1⟩
   clear H g0 g1 g2 g3 g4 g5 g6 g7 g8 g9 g10 g11 g12 gs HTT HGB
   have H:=hid (h1.al (o:=.cells #[.int .i64 tk,.string ts,.int .u64 tn,.int .i64 ta,.int .i64 tb,.int .i64 tc] 47 (0,0)))
   clear h1
   have hk:=Hd.nthk 1 H.out rfl
   obtain ⟨g0,g1,g2,g3,g4,g5,g6,g7,g8,g9,g10,g11,g12⟩:=cells13 hk
   have gs:=(Array.getElem?_eq_some_iff.1 hk).1
   clear hk
   go_wp2_with fail
   have HB:=hid (H.out.bxk (w1.heap.size + 1) (by simp) (o:=.cells #[.int .i64 ik,.int .i64 ie,.int .u64 nx,.int .u64 bt,.slice ad es.length cap] 146 (0,0)))
   clear H g0 g1 g2 g3 g4 g5 g6 g7 g8 g9 g10 g11 g12 gs
   have H:=HB
   clear HB
   have hk:=Hd.nthk 1 H.out rfl
   have c0:=(cell_of_heap hk 0).trans (show _ = some (.int .i64 ik) from rfl)
   have c1:=(cell_of_heap hk 1).trans (show _ = some (.int .i64 ie) from rfl)
   have c2:=(cell_of_heap hk 2).trans (show _ = some (.int .u64 nx) from rfl)
   have c3:=(cell_of_heap hk 3).trans (show _ = some (.int .u64 bt) from rfl)
   have c4:=(cell_of_heap hk 4).trans (show _ = some (.slice ad es.length cap) from rfl)
   have cs:=(Array.getElem?_eq_some_iff.1 hk).1
   clear hk
   go_wp2_with fail
   clear c0 c1 c2 c3 c4 cs
   have cf67:∀ args w,(callFunc 67 args).run Try.prog w = .ok (.enter 67 args) w:=fun args w=>by kernel_rfl
   refine hold_coreB (P:=Try.prog) (W:=W) (Rs:=(Blk p (.cells #[.int .i64 ok,.int .i64 oe,.int .i64 sent,.int .i64 ik,.int .i64 ie,.int .u64 nx,.int .u64 bt,.slice ad es.length cap,.pointer (some ⟨b,0,none⟩),.int .i64 xh,.int .i64 xs,.int .i64 xr,.int .i64 xv] 148 (0,0))::Rs)) [[],[],[1],[2],[3],[],[],[0,4,5,6],[7],[8],[8],[8],[0,9],[10],[11]] [[],[],[],[],[],[],[],[],[],[],[],[],[],[],[]] ([some 75,some 76,some 77,some 78,some 79,some 80,some 81,some 82,some 74,some 83,some 84,some 85,none,some 13,some 14]:List (Option Nat)) ([none,none,none,none,none,none,none,none,none,none,none,none,none,none,none,some 7,some 12]:List (Option Nat)) ((fun _=>.agg #[.int .i64 ik,.int .i64 ie,.int .u64 nx,.int .u64 bt,.slice ad es.length cap])::(fun _=>pt p 0)::(fun _=>pt p 0)::(fun _=>pt p 8)::(fun _=>pt b 0)::(fun _=>.int .i64 e)::(fun _=>.int .i64 n)::(fun _=>.tuple #[.agg #[.int .i64 ik,.int .i64 ie,.int .u64 nx,.int .u64 bt,.slice ad es.length cap],.int .i64 key,.int .i64 er1])::(fun _=>.tuple #[.agg #[.int .i64 ik,.int .i64 ie,.int .u64 nx,.int .u64 bt,.slice ad es.length cap],.int .i64 key,.int .i64 er1])::(fun _=>.agg #[.int .i64 ik,.int .i64 ie,.int .u64 nx,.int .u64 bt,.slice ad es.length cap])::(fun _=>.int .i64 key)::(fun _=>.int .i64 er1)::(fun _=>undef)::(fun _=>.int .i64 key)::(fun _=>.int .i64 er1)::[]) (zR::zR::zR::zR::zR::zR::zR::zR::zR::zR::zR::zR::zR::zR::zR::(fun _=>[Sto b L m,CaR (.slice ad es.length cap) es])::(fun _=>[Blk (w1.heap.size + 1) (.cells #[.int .i64 ik,.int .i64 ie,.int .u64 nx,.int .u64 bt,.slice ad es.length cap] 146 (0,0))])::([]:List (List Gh → List Res))) (zR::zR::zR::zR::zR::zR::zR::zR::zR::zR::zR::zR::zR::zR::zR::(fun _=>[Sto b Lx m,CaR (.slice ad es.length cap) es])::(fun _=>[Blk (w1.heap.size + 1) (.cells #[.int .i64 ik,.int .i64 ie,.int .u64 nx,.int .u64 bt,.slice ad es.length cap] 146 (0,0))])::([]:List (List Gh → List Res))) (by kernel_rfl) rfl (hold_lt (n:=114) (by decide)) ((((H.out.front 2 rfl).front 2 rfl).front 3 rfl).front 3 rfl) rfl (by decide) (hold_nil (fs:=[7,12]) trivial rfl ?nil9_15) ?gd9_15 ?step9_15 (fun t=>(decide (13 ≤ t) && decide (t ≤ 14)) || (decide (74 ≤ t) && decide (t ≤ 85))) (by decide) ?done9_15 (fun I h0 st dn=>run_wpB mixed I h0 st dn)
   case nil9_15 =>
    intro s gs hs
    simp only [List.mem_cons,List.not_mem_nil,or_false] at hs
    rcases hs with rfl | rfl <;> rfl
   case gd9_15 =>
    repeat (refine StepAll.cons (by first | exact trivial | exact fun g=>rfl) ?_)
    exact trivial
   case step9_15 =>
    refine StepAll.cons ?_ ?_
    · refine HoldStepB.val (by decide) fun a wx γ hn hr hres hpre Ss hH K hK=>?_
      have e12:a.eval (.tmp 12) = .pointer (some ⟨(w1.heap.size + 1),0,none⟩):=(hr 12 (by decide)).trans rfl
      obtain ⟨Zs,hB⟩:=hpre 16 12 rfl (by decide) (by decide)
      have hk:=(show Hd W wx (Blk (w1.heap.size + 1) (.cells #[.int .i64 ik,.int .i64 ie,.int .u64 nx,.int .u64 bt,.slice ad es.length cap] 146 (0,0))::Zs) from hB).blk
      have c0:=(cell_of_heap hk 0).trans (show _ = some (.int .i64 ik) from rfl)
      have c1:=(cell_of_heap hk 1).trans (show _ = some (.int .i64 ie) from rfl)
      have c2:=(cell_of_heap hk 2).trans (show _ = some (.int .u64 nx) from rfl)
      have c3:=(cell_of_heap hk 3).trans (show _ = some (.int .u64 bt) from rfl)
      have c4:=(cell_of_heap hk 4).trans (show _ = some (.slice ad es.length cap) from rfl)
      clear hk
      exact hold_run (v:=.agg #[.int .i64 ik,.int .i64 ie,.int .u64 nx,.int .u64 bt,.slice ad es.length cap]) (by clear hn hr hK; generalize a.eval = ρ at *; simp [execOp,e12,c0,c1,c2,c3,c4,go_sem]) rfl rfl hH hK
    refine .cons (pR 0 rfl fun _=>⟨rfl,rfl⟩) ?_
    refine .cons (by first | exact pN 1 76 rfl fun _=>⟨rfl,rfl⟩ | exact pF 1 76 0 rfl rfl (fun b q w=>by simp [go_sem]) fun _=>⟨⟨_,_,rfl,rfl⟩,rfl⟩) ?_
    refine .cons (pF 2 77 8 rfl rfl (fun b q w=>by simp [go_sem]) fun _=>⟨⟨_,_,rfl,rfl⟩,rfl⟩) ?_
    refine StepAll.cons ?_ ?_
    · refine HoldStepB.val (by decide) fun a wx γ hn hr hres hpre Ss hH K hK=>?_
      have e78:a.eval (.tmp 78) = .pointer (some ⟨p,8,none⟩):=hn 3 (by decide) 78 rfl
      exact hold_run (v:=.pointer (some ⟨b,0,none⟩)) (by clear hn hr hK; generalize a.eval = ρ at *; simp [execOp,e78,cell_of_heap (Hd.nthk 0 hH.rear rfl),go_sem]) rfl rfl hH hK
    refine .cons (pR 1 rfl fun _=>⟨rfl,rfl⟩) ?_
    refine .cons (pR 2 rfl fun _=>⟨rfl,rfl⟩) ?_
    refine StepAll.cons ?_ ?_
    · refine HoldStepB.fil 15 (by decide) fun a wx γ hn hr hres hpre Ss hH K hK=>?_
      have e75:a.eval (.tmp 75) = .agg #[.int .i64 ik,.int .i64 ie,.int .u64 nx,.int .u64 bt,.slice ad es.length cap]:=hn 0 (by decide) 75 rfl
      have e79:a.eval (.tmp 79) = .pointer (some ⟨b,0,none⟩):=hn 4 (by decide) 79 rfl
      have e80:a.eval (.tmp 80) = .int .i64 e:=hn 5 (by decide) 80 rfl
      have e81:a.eval (.tmp 81) = .int .i64 n:=hn 6 (by decide) 81 rfl
      have ef:a.eval (.func 67) = .func (.func 67) #[] #[]:=rfl
      refine hold_callB (b:=15) (f:=67) (args:=#[.agg #[.int .i64 ik,.int .i64 ie,.int .u64 nx,.int .u64 bt,.slice ad es.length cap],.pointer (some ⟨b,0,none⟩),.int .i64 e,.int .i64 n]) (by clear hn hr hK hH; generalize a.eval = ρ at *; simp [execOp,e75,e79,e80,e81,cf67,ef,go_sem]) ?_ hK
      refine (later19_calls HX.out.rc HIE.out be be' h0n h255 HR.out hH).mono ?_
      rintro e2 w2 ⟨adN,capN,rfl,_,h1⟩
      obtain ⟨j1,j2,hyy,_,h9⟩:=h1 HT0.out
      clear h1
      replace j1:=j1.symm
      replace j2:=j2.symm
      subst j1 j2
      simp only [Rc.mk.injEq] at hyy
      obtain ⟨i1,i2,i3,i4,i5⟩:=hyy
      replace i1:=i1.symm
      replace i2:=i2.symm
      replace i3:=i3.symm
      replace i4:=i4.symm
      replace i5:=i5.symm
      subst i1 i2 i3 i4 i5
      exact ⟨default,rfl,h9⟩
    refine .cons (pN 7 82 rfl fun _=>⟨rfl,rfl⟩) ?_
    refine .cons (pN 8 74 rfl fun _=>⟨rfl,rfl⟩) ?_
    refine .cons (pN 8 74 rfl fun _=>⟨rfl,rfl⟩) ?_
    refine .cons (pN 8 74 rfl fun _=>⟨rfl,rfl⟩) ?_
    refine StepAll.cons ?_ ?_
    · refine HoldStepB.fil 16 (by decide) fun a wx γ hn hr hres hpre Ss hH K hK=>?_
      have e12:a.eval (.tmp 12) = .pointer (some ⟨(w1.heap.size + 1),0,none⟩):=(hr 12 (by decide)).trans rfl
      have e83:a.eval (.tmp 83) = .agg #[.int .i64 ik,.int .i64 ie,.int .u64 nx,.int .u64 bt,.slice ad es.length cap]:=hn 9 (by decide) 83 rfl
      have hH2:Hd W wx (Blk (w1.heap.size + 1) (.cells #[.int .i64 ik,.int .i64 ie,.int .u64 nx,.int .u64 bt,.slice ad es.length cap] 146 (0,0))::(Ss ++ (Blk p (.cells #[.int .i64 ok,.int .i64 oe,.int .i64 sent,.int .i64 ik,.int .i64 ie,.int .u64 nx,.int .u64 bt,.slice ad es.length cap,.pointer (some ⟨b,0,none⟩),.int .i64 xh,.int .i64 xs,.int .i64 xr,.int .i64 xv] 148 (0,0))::Rs))):=hH
      have hk:=hH2.blk
      have c0:=(cell_of_heap hk 0).trans (show _ = some (.int .i64 ik) from rfl)
      have c1:=(cell_of_heap hk 1).trans (show _ = some (.int .i64 ie) from rfl)
      have c2:=(cell_of_heap hk 2).trans (show _ = some (.int .u64 nx) from rfl)
      have c3:=(cell_of_heap hk 3).trans (show _ = some (.int .u64 bt) from rfl)
      have c4:=(cell_of_heap hk 4).trans (show _ = some (.slice ad es.length cap) from rfl)
      have cf:=frozen_of_heap hk
      clear hk hH
      exact hold_filB (w':=(((((wx.setCell ⟨(w1.heap.size + 1),0,none⟩ (.int .i64 ik)).setCell ⟨(w1.heap.size + 1),1,none⟩ (.int .i64 ie)).setCell ⟨(w1.heap.size + 1),2,none⟩ (.int .u64 nx)).setCell ⟨(w1.heap.size + 1),3,none⟩ (.int .u64 bt)).setCell ⟨(w1.heap.size + 1),4,none⟩ (.slice ad es.length cap))) (by clear hn hr hK hH2; generalize a.eval = ρ at *; simp [execOp,e12,e83,c0,c1,c2,c3,c4,cf,go_sem]) rfl rfl (((((hH2.set 0 (.int .i64 ik)).set 1 (.int .i64 ie)).set 2 (.int .u64 nx)).set 3 (.int .u64 bt)).set 4 (.slice ad es.length cap)) hK
    refine .cons (pN 10 84 rfl fun _=>⟨rfl,rfl⟩) ?_
    refine .cons (pN 11 85 rfl fun _=>⟨rfl,rfl⟩) ?_
    exact trivial
   case done9_15 =>
    intro f w9 g9 hv h9
    have er13:f 13 = .int .i64 key:=hv 13 13 rfl
    have er14:f 14 = .int .i64 er1:=hv 14 14 rfl
    have hd:Hd W w9 (Sto b Lx m::CaR (.slice ad es.length cap) es::Blk (w1.heap.size + 1) (.cells #[.int .i64 ik,.int .i64 ie,.int .u64 nx,.int .u64 bt,.slice ad es.length cap] 146 (0,0))::Blk p (.cells #[.int .i64 ok,.int .i64 oe,.int .i64 sent,.int .i64 ik,.int .i64 ie,.int .u64 nx,.int .u64 bt,.slice ad es.length cap,.pointer (some ⟨b,0,none⟩),.int .i64 xh,.int .i64 xs,.int .i64 xr,.int .i64 xv] 148 (0,0))::Rs):=h9
    clear hv h9 cf67
    clear g9
    simp only [patchG,Nat.reduceAdd,Nat.reduceLeDiff,decide_true,decide_false,Bool.and_true,Bool.and_false,Bool.or_true,Bool.or_false,cond_true,cond_false,er13,er14]
    clear er13 er14
    clear H HR
    have H:=hid ((((hd.front 1 rfl).front 3 rfl).front 3 rfl).front 3 rfl)
    clear hd
    go_wp2_with fail
    refine bodyPost_ret (v:=.tuple #[.string ⟨#[]⟩,.int .i64 er1]) (by simp [results,Try.results41,go_sem]) rfl ⟨ad,cap,rfl,?_⟩
    exact H.out.un2

theorem open19_calls {x x':Se} {e n c er:Int} {s:ByteArray} {ad:Option Addr} {cap:Nat} (hx:SeOk x) (be : -9223372036854775808 ≤ e) (be':e ≤ 9223372036854775807) (bn : -9223372036854775808 ≤ n) (bn':n ≤ 9223372036854775807) (hq:open19 m L x e n c = ((s,er),x',L2)) (h:Hd W w (Sto b L m::Blk p (seO b x (.slice ad x.rc.es.length cap))::CaR (.slice ad x.rc.es.length cap) x.rc.es::Rs)) :
 Calls Try.prog 41 #[.pointer (some ⟨p,0,none⟩),.int .i64 e,.int .i64 n,.int .i64 c] w fun e' w'=>∃ ad' cap',e' = .returned (.tuple #[.string s,.int .i64 er]) ∧ Hd W w' (Sto b L2 m::Blk p (seO b x' (.slice ad' x'.rc.es.length cap'))::CaR (.slice ad' x'.rc.es.length cap') x'.rc.es::Rs):=by
 obtain ⟨ok,oe,sent,⟨ik,ie,nx,bt,es⟩,xh,xs,xr,xv⟩:=x
 by_cases hok:getB L c = true ∧ 0 ≤ e ∧ 0 ≤ n ∧ n < 256
 · rcases Int.lt_trichotomy e ie with h1 | h1 | h1
   · exact open19_ago hx be be' bn bn' hok h1 hq h
   · exact open19_now hx be be' bn bn' hok h1 hq h
   · exact open19_later hx be be' bn bn' hok h1 hq h
 · exact open19_bad hx be be' bn bn' hok hq h
end
end Go.Proofs.Ytpcfmafokkffgaa
namespace Go.Proofs.Ytpcfmafokkffgaa
open Go.RowKit

/-- A side at its start. -/
def se0 (h s r v:Int):Se:=⟨s,0,0,⟨r,0,0,0,[]⟩,h,s,r,v⟩

section
variable {W w:World} {Rs:List Res} {b p:Nat} {L:List T} {m:Int}
set_option maxRecDepth 100000 in
set_option maxHeartbeats 8000000 in
theorem new19_calls (h s r v:Int) (hd:Hd W w (Sto b L m::Rs)) :
 Calls Try.prog 34 #[.pointer (some ⟨b,0,none⟩),.agg #[.int .i64 h,.int .i64 s,.int .i64 r,.int .i64 v]] w fun e' w' =>
  if getB L h = true ∧ getB L s = true ∧ getB L r = true then ∃ p,e' = .returned (.tuple #[.pointer (some ⟨p,0,none⟩),.int .i64 0]) ∧ Hd W w' (Sto b L m::Blk p (seO b (se0 h s r v) (.slice none 0 0))::Rs)
  else e' = .returned (.tuple #[.pointer none,.int .i64 1]) ∧ Hd W w' (Sto b L m::Rs):=by
 have H:=hid (hd.bxk w.heap.size rfl (o:=.cells #[.int .i64 h,.int .i64 s,.int .i64 r,.int .i64 v] 72 (0,0)))
 clear hd
 go_enter Try.func34,Try.ntmps34
 go_wp2_with fail
 go_loopw [17] (fun q wr=>∃ i:Nat,i ≤ 3 ∧ q = .int .i64 i ∧ Hid (∀ j x,[h,s,r][j]? = some x → j < i → getB L x = true) ∧ Hid (Hd W wr (Sto b L m::Blk w.heap.size (.cells #[.int .i64 h,.int .i64 s,.int .i64 r,.int .i64 v] 72 (0,0))::Rs))) (fun q _=>3 - (intOf q).toNat)
 case atStart=>exact ⟨0,by omega,rfl,hid fun j x _ hj=>by omega,H⟩
 case round =>
  clear H
  obtain ⟨i,hi,rfl,HB,H⟩:=hrel
  obtain ⟨wl,hwl⟩:∃ wl:World,wl = wr:=⟨_,rfl⟩
  rw [← hwl] at H ⊢
  clear hwl wr
  by_cases hlt:i < 3
  · have hd1:decide ((i:Int) < 3) = true:=by simp; omega
    have hd2:decide (i < 3) = true:=by simp; omega
    obtain ⟨x,hx⟩:∃ x,[h,s,r][i]? = some x:=⟨[h,s,r][i],List.getElem?_eq_getElem _⟩
    have hix:∀ w:World,(Instr.index 55 (.agg #[.int .i64 h,.int .i64 s,.int .i64 r]) (.int .i64 (i:Int))).run Try.prog w = .ok (.int .i64 x) w:=fun w=>by
     obtain ⟨i0,hi0,hz0,hs0,hy0⟩:=info_int
     match i,hx with
     | 0,hx=>simp at hx; subst hx; simp [Instr.index,asIntOf,run_underlying Try.underlying55,sizeOf,typeInfo,hi0,hs0,part,go_sem]
     | 1,hx=>simp at hx; subst hx; simp [Instr.index,asIntOf,run_underlying Try.underlying55,sizeOf,typeInfo,hi0,hs0,part,go_sem]
     | 2,hx=>simp at hx; subst hx; simp [Instr.index,asIntOf,run_underlying Try.underlying55,sizeOf,typeInfo,hi0,hs0,part,go_sem]
    have zi0:(0:Int) ≤ (i:Int):=by omega
    have zi1:(i:Int) < 3:=by omega
    have zt:((i:Int)).toNat = i:=by omega
    have HX:=hid hx
    have HLT:=hid hlt
    clear hx hlt
    go_wp2_with fail
    refine (get_c x H.out).mono ?_
    obtain ⟨⟨tk,ts,tn,ta,tb,tc⟩,htt⟩:∃ t,getT L x = t:=⟨_,rfl⟩
    rw [htt]
    simp only [T.val]
    clear htt
    cases hb:getB L x
    · have hno:¬ (getB L h = true ∧ getB L s = true ∧ getB L r = true):=fun hc=>by
       have h2:=HX.out
       have hl:=HLT.out
       match i,h2 with
       | 0,h2=>simp at h2; subst h2; rw [hc.1] at hb; cases hb
       | 1,h2=>simp at h2; subst h2; rw [hc.2.1] at hb; cases hb
       | 2,h2=>simp at h2; subst h2; rw [hc.2.2] at hb; cases hb
      have HNo:=hid hno
      clear hb hno
      rintro e2 w1 ⟨rfl,h1⟩
      clear H
      have H:=hid h1
      clear h1
      go_wp2_with fail
      first
       | rw [if_neg HNo.out]
       | skip
      refine bodyPost_ret (v:=.tuple #[.pointer none,.int .i64 1]) (by simp [results,Try.results34,go_sem]) rfl ⟨rfl,?_⟩
      exact H.out.un2.al
    · have HB2:Hid (∀ j y,[h,s,r][j]? = some y → j < i + 1 → getB L y = true):=hid fun j y hj hlt=>by
       by_cases e:j = i
       · subst e
         have:=HX.out
         rw [hj] at this
         simp only [Option.some.injEq] at this
         rw [this]; exact hb
       · exact HB.out j y hj (by omega)
      clear hb HX
      rintro e2 w1 ⟨rfl,h1⟩
      clear H HB
      have H:=hid (h1.al (o:=.cells #[.int .i64 tk,.string ts,.int .u64 tn,.int .i64 ta,.int .i64 tb,.int .i64 tc] 47 (0,0)))
      clear h1
      go_wp2_with fail
      go_roundw
      case rel=>exact ⟨i + 1,(by have:=HLT.out; omega),by go_num,HB2,H⟩
      case measure=>have:=HLT.out; simp [intOf]; omega
  · have hd1:decide ((i:Int) < 3) = false:=by simp; omega
    have hd2:decide (i < 3) = false:=by simp; omega
    have hyes:getB L h = true ∧ getB L s = true ∧ getB L r = true:=⟨HB.out 0 h rfl (by omega),HB.out 1 s rfl (by omega),HB.out 2 r rfl (by omega)⟩
    have HY:=hid hyes
    clear hyes HB hlt hi
    have hk:=Hd.nthk 1 H.out rfl
    have c0:=(cell_of_heap hk 0).trans (show _ = some (.int .i64 h) from rfl)
    have c1:=(cell_of_heap hk 1).trans (show _ = some (.int .i64 s) from rfl)
    have c2:=(cell_of_heap hk 2).trans (show _ = some (.int .i64 r) from rfl)
    have c3:=(cell_of_heap hk 3).trans (show _ = some (.int .i64 v) from rfl)
    have cs:=(Array.getElem?_eq_some_iff.1 hk).1
    clear hk
    go_wp2_with fail
    first
     | rw [if_pos HY.out]
     | skip
    refine bodyPost_ret (v:=.tuple #[.pointer (some ⟨wl.heap.size,0,none⟩),.int .i64 0]) (by simp [results,Try.results34,go_sem]) rfl ⟨_,rfl,?_⟩
    exact H.out.un2.bxk wl.heap.size rfl

set_option maxRecDepth 100000 in
set_option maxHeartbeats 8000000 in
theorem snow19_calls {x:Se} {ad:Option Addr} {cap:Nat} (hd:Hd W w (Blk p (seO b x (.slice ad x.rc.es.length cap))::Rs)) :
 Calls Try.prog 43 #[.pointer (some ⟨p,0,none⟩)] w fun e' w'=>e' = .returned (.tuple #[.int .i64 x.oe,.int .i64 x.sent,.int .i64 x.rc.ie]) ∧ Hd W w' (Blk p (seO b x (.slice ad x.rc.es.length cap))::Rs):=by
 have mixed:Try.prog.follows .mixedOrders = true:=by kernel_rfl
 obtain ⟨ok,oe,sent,⟨ik,ie,nx,bt,es⟩,xh,xs,xr,xv⟩:=x
 have H:Hid (Hd W w (Blk p (.cells #[.int .i64 ok,.int .i64 oe,.int .i64 sent,.int .i64 ik,.int .i64 ie,.int .u64 nx,.int .u64 bt,.slice ad es.length cap,.pointer (some ⟨b,0,none⟩),.int .i64 xh,.int .i64 xs,.int .i64 xr,.int .i64 xv] 148 (0,0))::Rs)):=hid hd
 clear hd
 go_enter Try.func43,Try.ntmps43
 go_wp2_with fail
 refine hold_coreB (P:=Try.prog) (W:=W) (Rs:=(Blk p (.cells #[.int .i64 ok,.int .i64 oe,.int .i64 sent,.int .i64 ik,.int .i64 ie,.int .u64 nx,.int .u64 bt,.slice ad es.length cap,.pointer (some ⟨b,0,none⟩),.int .i64 xh,.int .i64 xs,.int .i64 xr,.int .i64 xv] 148 (0,0))::Rs)) [[],[0],[1],[2],[3],[4],[],[6],[7],[8],[9],[],[11],[12],[13],[14],[15],[5],[10],[16]] [[],[],[],[],[],[],[],[],[],[],[],[],[],[],[],[],[],[],[],[]] ([some 5,some 6,some 7,some 8,some 9,some 10,some 11,some 12,some 13,some 14,some 15,some 16,some 17,some 18,some 19,some 20,some 21,some 2,some 3,some 4]:List (Option Nat)) ([none,none,none,none,none,none,none,none,none,none,none,none,none,none,none,none,none,none,none,none]:List (Option Nat)) ((fun _=>pt p 0)::(fun _=>pt p 0)::(fun _=>pt p 0)::(fun _=>pt p 0)::(fun _=>pt p 1)::(fun _=>.int .i64 oe)::(fun _=>pt p 0)::(fun _=>pt p 0)::(fun _=>pt p 0)::(fun _=>pt p 2)::(fun _=>.int .i64 sent)::(fun _=>pt p 0)::(fun _=>pt p 0)::(fun _=>pt p 3)::(fun _=>pt p 3)::(fun _=>pt p 4)::(fun _=>.int .i64 ie)::(fun _=>.int .i64 oe)::(fun _=>.int .i64 sent)::(fun _=>.int .i64 ie)::[]) (zR::zR::zR::zR::zR::zR::zR::zR::zR::zR::zR::zR::zR::zR::zR::zR::zR::zR::zR::zR::([]:List (List Gh → List Res))) (zR::zR::zR::zR::zR::zR::zR::zR::zR::zR::zR::zR::zR::zR::zR::zR::zR::zR::zR::zR::([]:List (List Gh → List Res))) (by kernel_rfl) rfl (hold_lt (n:=22) (by decide)) H.out rfl (by decide) (hold_nil (fs:=[]) trivial rfl ?nil1) ?gd1 ?step1 (fun t=>(decide (2 ≤ t) && decide (t ≤ 21))) (by decide) ?done1 (fun I h0 st dn=>run_wpB mixed I h0 st dn)
 case nil1 =>
  intro s gs hs
  cases hs
 case gd1 =>
  repeat (refine StepAll.cons (by first | exact trivial | exact fun g=>rfl) ?_)
  exact trivial
 case step1 =>
  refine .cons (pR 0 rfl fun _=>⟨rfl,rfl⟩) ?_
  refine .cons (by first | exact pN 0 5 rfl fun _=>⟨rfl,rfl⟩ | exact pF 0 5 0 rfl rfl (fun b q w=>by simp [go_sem]) fun _=>⟨⟨_,_,rfl,rfl⟩,rfl⟩) ?_
  refine .cons (by first | exact pN 1 6 rfl fun _=>⟨rfl,rfl⟩ | exact pF 1 6 0 rfl rfl (fun b q w=>by simp [go_sem]) fun _=>⟨⟨_,_,rfl,rfl⟩,rfl⟩) ?_
  refine .cons (by first | exact pN 2 7 rfl fun _=>⟨rfl,rfl⟩ | exact pF 2 7 0 rfl rfl (fun b q w=>by simp [go_sem]) fun _=>⟨⟨_,_,rfl,rfl⟩,rfl⟩) ?_
  refine .cons (pF 3 8 1 rfl rfl (fun b q w=>by simp [go_sem]) fun _=>⟨⟨_,_,rfl,rfl⟩,rfl⟩) ?_
  refine StepAll.cons ?_ ?_
  · refine HoldStepB.val (by decide) fun a wx γ hn hr hres hpre Ss hH K hK=>?_
    have e9:a.eval (.tmp 9) = .pointer (some ⟨p,1,none⟩):=hn 4 (by decide) 9 rfl
    exact hold_run (v:=.int .i64 oe) (by clear hn hr hK; generalize a.eval = ρ at *; simp [execOp,e9,cell_of_heap (Hd.nthk 0 hH.rear rfl),go_sem]) rfl rfl hH hK
  refine .cons (pR 0 rfl fun _=>⟨rfl,rfl⟩) ?_
  refine .cons (by first | exact pN 6 11 rfl fun _=>⟨rfl,rfl⟩ | exact pF 6 11 0 rfl rfl (fun b q w=>by simp [go_sem]) fun _=>⟨⟨_,_,rfl,rfl⟩,rfl⟩) ?_
  refine .cons (by first | exact pN 7 12 rfl fun _=>⟨rfl,rfl⟩ | exact pF 7 12 0 rfl rfl (fun b q w=>by simp [go_sem]) fun _=>⟨⟨_,_,rfl,rfl⟩,rfl⟩) ?_
  refine .cons (pF 8 13 2 rfl rfl (fun b q w=>by simp [go_sem]) fun _=>⟨⟨_,_,rfl,rfl⟩,rfl⟩) ?_
  refine StepAll.cons ?_ ?_
  · refine HoldStepB.val (by decide) fun a wx γ hn hr hres hpre Ss hH K hK=>?_
    have e14:a.eval (.tmp 14) = .pointer (some ⟨p,2,none⟩):=hn 9 (by decide) 14 rfl
    exact hold_run (v:=.int .i64 sent) (by clear hn hr hK; generalize a.eval = ρ at *; simp [execOp,e14,cell_of_heap (Hd.nthk 0 hH.rear rfl),go_sem]) rfl rfl hH hK
  refine .cons (pR 0 rfl fun _=>⟨rfl,rfl⟩) ?_
  refine .cons (by first | exact pN 11 16 rfl fun _=>⟨rfl,rfl⟩ | exact pF 11 16 0 rfl rfl (fun b q w=>by simp [go_sem]) fun _=>⟨⟨_,_,rfl,rfl⟩,rfl⟩) ?_
  refine .cons (pF 12 17 3 rfl rfl (fun b q w=>by simp [go_sem]) fun _=>⟨⟨_,_,rfl,rfl⟩,rfl⟩) ?_
  refine .cons (by first | exact pN 13 18 rfl fun _=>⟨rfl,rfl⟩ | exact pF 13 18 0 rfl rfl (fun b q w=>by simp [go_sem]) fun _=>⟨⟨_,_,rfl,rfl⟩,rfl⟩) ?_
  refine .cons (pF 14 19 1 rfl rfl (fun b q w=>by simp [go_sem]) fun _=>⟨⟨_,_,rfl,rfl⟩,rfl⟩) ?_
  refine StepAll.cons ?_ ?_
  · refine HoldStepB.val (by decide) fun a wx γ hn hr hres hpre Ss hH K hK=>?_
    have e20:a.eval (.tmp 20) = .pointer (some ⟨p,4,none⟩):=hn 15 (by decide) 20 rfl
    exact hold_run (v:=.int .i64 ie) (by clear hn hr hK; generalize a.eval = ρ at *; simp [execOp,e20,cell_of_heap (Hd.nthk 0 hH.rear rfl),go_sem]) rfl rfl hH hK
  refine .cons (pN 5 10 rfl fun _=>⟨rfl,rfl⟩) ?_
  refine .cons (pN 10 15 rfl fun _=>⟨rfl,rfl⟩) ?_
  refine .cons (pN 16 21 rfl fun _=>⟨rfl,rfl⟩) ?_
  exact trivial
 case done1 =>
  intro f w9 g9 hv h9
  have er2:f 2 = .int .i64 oe:=hv 17 2 rfl
  have er3:f 3 = .int .i64 sent:=hv 18 3 rfl
  have er4:f 4 = .int .i64 ie:=hv 19 4 rfl
  have hd:Hd W w9 (Blk p (.cells #[.int .i64 ok,.int .i64 oe,.int .i64 sent,.int .i64 ik,.int .i64 ie,.int .u64 nx,.int .u64 bt,.slice ad es.length cap,.pointer (some ⟨b,0,none⟩),.int .i64 xh,.int .i64 xs,.int .i64 xr,.int .i64 xv] 148 (0,0))::Rs):=h9
  clear hv h9 
  clear g9
  simp only [patchG,Nat.reduceAdd,Nat.reduceLeDiff,decide_true,decide_false,Bool.and_true,cond_true,cond_false,er2,er3,er4]
  clear er2 er3 er4
  clear H
  have H:=hid hd
  clear hd
  go_wp2_with fail
  refine bodyPost_ret (v:=.tuple #[.int .i64 oe,.int .i64 sent,.int .i64 ie]) (by simp [results,Try.results43,go_sem]) rfl ⟨rfl,?_⟩
  exact H.out

set_option maxRecDepth 100000 in
set_option maxHeartbeats 8000000 in
theorem of19_calls {x:Se} {v:Value} (hd:Hd W w (Blk p (seO b x v)::Rs)) :
 Calls Try.prog 46 #[.pointer (some ⟨p,0,none⟩)] w fun e' w'=>e' = .returned (.agg #[.int .i64 x.h,.int .i64 x.s,.int .i64 x.r,.int .i64 x.v]) ∧ Hd W w' (Blk p (seO b x v)::Rs):=by
 obtain ⟨ok,oe,sent,⟨ik,ie,nx,bt,es⟩,xh,xs,xr,xv⟩:=x
 have H:=hid (hd.bxk w.heap.size rfl (o:=.cells #[.int .i64 0,.int .i64 0,.int .i64 0,.int .i64 0] 72 (0,0)))
 obtain ⟨wo,hwo⟩:∃ wo,w.alloc (.cells #[.int .i64 0,.int .i64 0,.int .i64 0,.int .i64 0] 72 (0,0)) = wo:=⟨_,rfl⟩
 rw [hwo] at H
 clear hd
 have hk:=Hd.nthk 0 H.out rfl
 have c9:=(cell_of_heap hk 9).trans (show _ = some (.int .i64 xh) from rfl)
 have c10:=(cell_of_heap hk 10).trans (show _ = some (.int .i64 xs) from rfl)
 have c11:=(cell_of_heap hk 11).trans (show _ = some (.int .i64 xr) from rfl)
 have c12:=(cell_of_heap hk 12).trans (show _ = some (.int .i64 xv) from rfl)
 have cs:=(Array.getElem?_eq_some_iff.1 hk).1
 clear hk
 have hk:=Hd.nthk 1 H.out rfl
 obtain ⟨q0,q1,q2,q3⟩:=cells4 hk
 have qs:=(Array.getElem?_eq_some_iff.1 hk).1
 have qf:=frozen_of_heap hk
 clear hk
 go_enter Try.func46,Try.ntmps46
 go_wp2_with fail
 refine bodyPost_ret (v:=.agg #[.int .i64 xh,.int .i64 xs,.int .i64 xr,.int .i64 xv]) (by simp [results,Try.results46,go_sem,q0,q1,q2,q3]) rfl ⟨rfl,?_⟩
 exact (((((H.out.swap.set 0 (.int .i64 xh)).set 1 (.int .i64 xs)).set 2 (.int .i64 xr)).set 3 (.int .i64 xv))).drop
end
end Go.Proofs.Ytpcfmafokkffgaa
namespace Go.Proofs.Ytpcfmafokkffgaa
open Go.RowKit

def pl3:List T:=[nonT 0,nonT 1,nonT 2]
theorem pl3_put {i:Nat} (hi:i < 3):put 20000 (pl3.take i) ⟨2,⟨#[]⟩,(i:Int),0,0,0⟩ = ((i:Int) + 1,0,pl3.take (i + 1)):=by
 match i,hi with
 | 0,_=>decide +kernel
 | 1,_=>decide +kernel
 | 2,_=>decide +kernel

section
variable {W w:World} {Rs:List Res}
theorem new19_ok {b:Nat} {L:List T} {m h s r v:Int} (hy:getB L h = true ∧ getB L s = true ∧ getB L r = true) (hd:Hd W w (Sto b L m::Rs)) :
 Calls Try.prog 34 #[.pointer (some ⟨b,0,none⟩),.agg #[.int .i64 h,.int .i64 s,.int .i64 r,.int .i64 v]] w fun e' w'=>∃ p,e' = .returned (.tuple #[.pointer (some ⟨p,0,none⟩),.int .i64 0]) ∧ Hd W w' (Sto b L m::Blk p (seO b (se0 h s r v) (.slice none 0 0))::Rs) :=
 (new19_calls h s r v hd).mono fun e w' hh=>by
  split at hh
  · exact hh
  · exact absurd hy ‹_›
set_option maxRecDepth 100000 in
set_option maxHeartbeats 8000000 in
theorem pair_calls (hd:Hd W w Rs) :
 Calls Try.prog 48 #[] w fun e' w'=>∃ b pa pb,e' = .returned (.tuple #[.pointer (some ⟨b,0,none⟩),.pointer (some ⟨pa,0,none⟩),.pointer (some ⟨pb,0,none⟩)]) ∧
  Hd W w' (Sto b pl3 20000::Blk pa (seO b (se0 1 2 3 1) (.slice none 0 0))::Blk pb (seO b (se0 1 3 2 1) (.slice none 0 0))::Rs):=by
 have H:=hid hd
 clear hd
 go_enter Try.func48,Try.ntmps48
 go_wp2_with fail
 refine (new_calls H.out (by decide) (by decide)).mono ?_
 rintro e w1 ⟨b,rfl,h1⟩
 clear H
 have H:=hid h1
 clear h1
 go_wp2_with fail
 go_loopw [5] (fun q wr=>∃ i:Nat,i ≤ 3 ∧ q = .int .i64 i ∧ Hid (Hd W wr (Sto b (pl3.take i) 20000::Rs))) (fun q _=>3 - (intOf q).toNat)
 case atStart=>exact ⟨0,by omega,rfl,H⟩
 case round =>
  clear H
  obtain ⟨i,hi,rfl,H⟩:=hrel
  obtain ⟨wl,hwl⟩:∃ wl:World,wl = wr:=⟨_,rfl⟩
  rw [← hwl] at H ⊢
  clear hwl wr
  by_cases hlt:i < 3
  · have hd1:decide ((i:Int) < 3) = true:=by simp; omega
    have hd2:decide (i < 3) = true:=by simp; omega
    have z1:IntKind.u64.wrap (i:Int) = i:=IntWalk.u64_in _ (by omega)
    have HLT:=hid hlt
    clear hlt
    go_wp2_with fail
    refine (put_c 2 ⟨#[]⟩ (i:Int) 0 0 0 (hid (pl3_put HLT.out)) H.out).mono ?_
    rintro e w2 ⟨rfl,h1⟩
    clear H
    have H:=hid h1
    clear h1
    go_wp2_with fail
    go_roundw
    case rel=>exact ⟨i + 1,(by have:=HLT.out; omega),by go_num,H⟩
    case measure=>have:=HLT.out; simp [intOf]; omega
  · obtain rfl:i = 3:=by omega
    have hd1:decide (((3:Nat):Int) < 3) = false:=by decide
    have hd2:decide ((3:Int) < 3) = false:=by decide
    have hyes:getB pl3 1 = true ∧ getB pl3 2 = true ∧ getB pl3 3 = true:=by decide +kernel
    have hyes2:getB pl3 1 = true ∧ getB pl3 3 = true ∧ getB pl3 2 = true:=by decide +kernel
    have HY:=hid hyes
    have HY2:=hid hyes2
    replace H:Hid (Hd W wl (Sto b pl3 20000::Rs)):=hid H.out
    clear hyes hyes2 hlt hi
    go_wp2_with fail
    refine (new19_ok (h:=1) (s:=2) (r:=3) (v:=1) HY.out H.out).mono ?_
    rintro e w2 ⟨pa,rfl,h1⟩
    clear H
    have H:=hid h1
    clear h1
    go_wp2_with fail
    refine (new19_ok (h:=1) (s:=3) (r:=2) (v:=1) HY2.out H.out).mono ?_
    rintro e w3 ⟨pb,rfl,h1⟩
    clear H
    have H:=hid (h1.front 2 rfl)
    clear h1
    go_wp2_with fail
    refine bodyPost_ret (v:=.tuple #[.pointer (some ⟨b,0,none⟩),.pointer (some ⟨pa,0,none⟩),.pointer (some ⟨pb,0,none⟩)]) (by simp [results,Try.results48,go_sem]) rfl ⟨b,pa,pb,rfl,?_⟩
    exact H.out.front 1 rfl
end
end Go.Proofs.Ytpcfmafokkffgaa
