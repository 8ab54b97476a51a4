/-
  Walks and laws that the proof stands on, one behind another: SessE. For every input.
-/
import Derived.Test.YtpcfmafokkffgaaD7
import Derived.Test.YtpcfmafokkffgaaD8
namespace Go.Proofs.Ytpcfmafokkffgaa
open Go.RowKit

theorem now19_es {m:Int} {L L2:List T} {y y':Rc} {n key er:Int} (h:now19 m L y n = (y',key,er,L2)):y'.es = y.es:=by
 unfold now19 at h
 split at h <;> (simp only [Prod.mk.injEq] at h; obtain ⟨rfl,_⟩:=h; rfl)
section
variable {W w:World} {Rs:List Res} {b p:Nat} {L L2:List T} {m:Int}

set_option maxRecDepth 100000 in
set_option maxHeartbeats 16000000 in
theorem open19_bad {ok oe sent ik ie nx bt xh xs xr xv e n c:Int} {es:List En} {x':Se} {s:ByteArray} {er:Int} {ad:Option Addr} {cap:Nat} (hx:SeOk ⟨ok,oe,sent,⟨ik,ie,nx,bt,es⟩,xh,xs,xr,xv⟩) (_be : -9223372036854775808 ≤ e) (_be':e ≤ 9223372036854775807) (_bn : -9223372036854775808 ≤ n) (_bn':n ≤ 9223372036854775807) (hb:¬ (getB L c = true ∧ 0 ≤ e ∧ 0 ≤ n ∧ n < 256)) (hq:open19 m L ⟨ok,oe,sent,⟨ik,ie,nx,bt,es⟩,xh,xs,xr,xv⟩ e n c = ((s,er),x',L2)) (h:Hd W w (Sto b L m::Blk p (seO b ⟨ok,oe,sent,⟨ik,ie,nx,bt,es⟩,xh,xs,xr,xv⟩ (.slice ad es.length cap))::CaR (.slice ad es.length cap) es::Rs)) :
 Calls Try.prog 41 #[.pointer (some ⟨p,0,none⟩),.int .i64 e,.int .i64 n,.int .i64 c] w fun e' w'=>∃ ad' cap',e' = .returned (.tuple #[.string s,.int .i64 er]) ∧ Hd W w' (Sto b L2 m::Blk p (seO b x' (.slice ad' x'.rc.es.length cap'))::CaR (.slice ad' x'.rc.es.length cap') x'.rc.es::Rs):=by
 have mixed:Try.prog.follows .mixedOrders = true:=by kernel_rfl
 have H:Hid (Hd W w (Sto b L m::Blk p (.cells #[.int .i64 ok,.int .i64 oe,.int .i64 sent,.int .i64 ik,.int .i64 ie,.int .u64 nx,.int .u64 bt,.slice ad es.length cap,.pointer (some ⟨b,0,none⟩),.int .i64 xh,.int .i64 xs,.int .i64 xr,.int .i64 xv] 148 (0,0))::CaR (.slice ad es.length cap) es::Rs)):=hid h
 have HX:=hid hx
 clear h hx
 obtain ⟨⟨tk,ts,tn,ta,tb,tc⟩,htt⟩:∃ t,getT L c = t:=⟨_,rfl⟩
 have HTT:=hid htt
 clear htt
 unfold open19 at hq
 rw [if_neg hb] at hq
 simp only [Prod.mk.injEq] at hq
 obtain ⟨⟨rfl,rfl⟩,rfl,rfl⟩:=hq
 have hbb:getB L c = false ∨ (getB L c = true ∧ e < 0) ∨ (getB L c = true ∧ ¬ e < 0 ∧ n < 0) ∨ (getB L c = true ∧ ¬ e < 0 ∧ ¬ n < 0 ∧ 256 ≤ n):=by
  cases hg:getB L c
  · exact .inl rfl
  · refine .inr ?_
    rw [hg] at hb
    by_cases h1:e < 0
    · exact .inl ⟨rfl,h1⟩
    · by_cases h2:n < 0
      · exact .inr (.inl ⟨rfl,h1,h2⟩)
      · exact .inr (.inr ⟨rfl,h1,h2,by
         rcases Int.lt_or_le n 256 with h3 | h3
         · exact absurd ⟨rfl,by omega,by omega,h3⟩ hb
         · exact h3⟩)
 clear hb
 rcases hbb with hg | ⟨hg,h1⟩ | ⟨hg,h1,h2⟩ | ⟨hg,h1,h2,h3⟩
 · have HGB:=hid hg
   clear hg
   go_enter Try.func41,Try.ntmps41
   have hk:=Hd.nthk 1 H.out rfl
   obtain ⟨g0,g1,g2,g3,g4,g5,g6,g7,g8,g9,g10,g11,g12⟩:=cells13 hk
   have gs:=(Array.getElem?_eq_some_iff.1 hk).1
   clear hk
   go_wp2_with fail
   refine (get_c c H.out).mono ?_
   rw [HTT.out,HGB.out]
   simp only [T.val]
   rintro e2 w1 ⟨rfl,h1⟩
   clear H g0 g1 g2 g3 g4 g5 g6 g7 g8 g9 g10 g11 g12 gs HTT HGB
   have H:=hid (h1.al (o:=.cells #[.int .i64 tk,.string ts,.int .u64 tn,.int .i64 ta,.int .i64 tb,.int .i64 tc] 47 (0,0)))
   clear h1
   go_wp2_with fail
   refine bodyPost_ret (v:=.tuple #[.string ⟨#[]⟩,.int .i64 1]) (by simp [results,Try.results41,go_sem]) rfl ⟨ad,cap,rfl,?_⟩
   exact H.out
 · have HGB:=hid hg
   clear hg
   have d1:decide (e < 0) = true:=by simpa using h1
   clear h1
   go_enter Try.func41,Try.ntmps41
   have hk:=Hd.nthk 1 H.out rfl
   obtain ⟨g0,g1,g2,g3,g4,g5,g6,g7,g8,g9,g10,g11,g12⟩:=cells13 hk
   have gs:=(Array.getElem?_eq_some_iff.1 hk).1
   clear hk
   go_wp2_with fail
   refine (get_c c H.out).mono ?_
   rw [HTT.out,HGB.out]
   simp only [T.val]
   rintro e2 w1 ⟨rfl,h1⟩
   clear H g0 g1 g2 g3 g4 g5 g6 g7 g8 g9 g10 g11 g12 gs HTT HGB
   have H:=hid (h1.al (o:=.cells #[.int .i64 tk,.string ts,.int .u64 tn,.int .i64 ta,.int .i64 tb,.int .i64 tc] 47 (0,0)))
   clear h1
   go_wp2_with fail
   refine bodyPost_ret (v:=.tuple #[.string ⟨#[]⟩,.int .i64 1]) (by simp [results,Try.results41,go_sem]) rfl ⟨ad,cap,rfl,?_⟩
   exact H.out
 · have HGB:=hid hg
   clear hg
   have d1:decide (e < 0) = false:=by simpa using h1
   have d2:decide (n < 0) = true:=by simpa using h2
   clear h1 h2
   go_enter Try.func41,Try.ntmps41
   have hk:=Hd.nthk 1 H.out rfl
   obtain ⟨g0,g1,g2,g3,g4,g5,g6,g7,g8,g9,g10,g11,g12⟩:=cells13 hk
   have gs:=(Array.getElem?_eq_some_iff.1 hk).1
   clear hk
   go_wp2_with fail
   refine (get_c c H.out).mono ?_
   rw [HTT.out,HGB.out]
   simp only [T.val]
   rintro e2 w1 ⟨rfl,h1⟩
   clear H g0 g1 g2 g3 g4 g5 g6 g7 g8 g9 g10 g11 g12 gs HTT HGB
   have H:=hid (h1.al (o:=.cells #[.int .i64 tk,.string ts,.int .u64 tn,.int .i64 ta,.int .i64 tb,.int .i64 tc] 47 (0,0)))
   clear h1
   go_wp2_with fail
   refine bodyPost_ret (v:=.tuple #[.string ⟨#[]⟩,.int .i64 1]) (by simp [results,Try.results41,go_sem]) rfl ⟨ad,cap,rfl,?_⟩
   exact H.out
 · have HGB:=hid hg
   clear hg
   have d1:decide (e < 0) = false:=by simpa using h1
   have d2:decide (n < 0) = false:=by simpa using h2
   have d3:decide (256 ≤ n) = true:=by simpa using h3
   clear h1 h2 h3
   go_enter Try.func41,Try.ntmps41
   have hk:=Hd.nthk 1 H.out rfl
   obtain ⟨g0,g1,g2,g3,g4,g5,g6,g7,g8,g9,g10,g11,g12⟩:=cells13 hk
   have gs:=(Array.getElem?_eq_some_iff.1 hk).1
   clear hk
   go_wp2_with fail
   refine (get_c c H.out).mono ?_
   rw [HTT.out,HGB.out]
   simp only [T.val]
   rintro e2 w1 ⟨rfl,h1⟩
   clear H g0 g1 g2 g3 g4 g5 g6 g7 g8 g9 g10 g11 g12 gs HTT HGB
   have H:=hid (h1.al (o:=.cells #[.int .i64 tk,.string ts,.int .u64 tn,.int .i64 ta,.int .i64 tb,.int .i64 tc] 47 (0,0)))
   clear h1
   go_wp2_with fail
   refine bodyPost_ret (v:=.tuple #[.string ⟨#[]⟩,.int .i64 1]) (by simp [results,Try.results41,go_sem]) rfl ⟨ad,cap,rfl,?_⟩
   exact H.out

set_option maxRecDepth 100000 in
set_option maxHeartbeats 16000000 in
theorem open19_now {ok oe sent ik ie nx bt xh xs xr xv e n c:Int} {es:List En} {x':Se} {s:ByteArray} {er:Int} {ad:Option Addr} {cap:Nat} (hx:SeOk ⟨ok,oe,sent,⟨ik,ie,nx,bt,es⟩,xh,xs,xr,xv⟩) (_be : -9223372036854775808 ≤ e) (_be':e ≤ 9223372036854775807) (_bn : -9223372036854775808 ≤ n) (_bn':n ≤ 9223372036854775807) (hok:getB L c = true ∧ 0 ≤ e ∧ 0 ≤ n ∧ n < 256) (hie:e = ie) (hq:open19 m L ⟨ok,oe,sent,⟨ik,ie,nx,bt,es⟩,xh,xs,xr,xv⟩ e n c = ((s,er),x',L2)) (h:Hd W w (Sto b L m::Blk p (seO b ⟨ok,oe,sent,⟨ik,ie,nx,bt,es⟩,xh,xs,xr,xv⟩ (.slice ad es.length cap))::CaR (.slice ad es.length cap) es::Rs)) :
 Calls Try.prog 41 #[.pointer (some ⟨p,0,none⟩),.int .i64 e,.int .i64 n,.int .i64 c] w fun e' w'=>∃ ad' cap',e' = .returned (.tuple #[.string s,.int .i64 er]) ∧ Hd W w' (Sto b L2 m::Blk p (seO b x' (.slice ad' x'.rc.es.length cap'))::CaR (.slice ad' x'.rc.es.length cap') x'.rc.es::Rs):=by
 have mixed:Try.prog.follows .mixedOrders = true:=by kernel_rfl
 have H:Hid (Hd W w (Sto b L m::Blk p (.cells #[.int .i64 ok,.int .i64 oe,.int .i64 sent,.int .i64 ik,.int .i64 ie,.int .u64 nx,.int .u64 bt,.slice ad es.length cap,.pointer (some ⟨b,0,none⟩),.int .i64 xh,.int .i64 xs,.int .i64 xr,.int .i64 xv] 148 (0,0))::CaR (.slice ad es.length cap) es::Rs)):=hid h
 have HX:=hid hx
 clear h hx
 obtain ⟨⟨tk,ts,tn,ta,tb,tc⟩,htt⟩:∃ t,getT L c = t:=⟨_,rfl⟩
 have HTT:=hid htt
 clear htt
 obtain ⟨hg,h0e,h0n,h1n⟩:=hok
 unfold open19 at hq
 rw [if_pos ⟨hg,h0e,h0n,h1n⟩] at hq
 dsimp only at hq
 have HGB:=hid hg
 have d1:decide (e < 0) = false:=by simp; omega
 have d2:decide (n < 0) = false:=by simp; omega
 have d3:decide (256 ≤ n) = false:=by simp; omega
 have zcv:IntKind.u64.wrap n = n:=IntWalk.u64_in _ (by omega)
 have h255:n ≤ 255:=by omega
 clear hg h1n
 unfold recv19 at hq
 dsimp only at hq
 rw [if_pos hie] at hq
 obtain ⟨⟨⟨ik',ie',nx',bt',es'⟩,key,er1,Lx⟩,hr⟩:∃ t,now19 m L ⟨ik,ie,nx,bt,es⟩ n = t:=⟨_,rfl⟩
 rw [hr] at hq
 dsimp only at hq
 have hes:=now19_es hr
 dsimp only at hes
 subst hes
 have HR:=hid hr
 have e1:(e == ie) = true:=by simpa using hie
 clear hr hie
 by_cases h1:er1 = 0
 · subst h1
   rw [if_pos rfl] at hq
   obtain ⟨⟨txt,er2⟩,hrd⟩:∃ t,read5 Lx key n xh c = t:=⟨_,rfl⟩
   rw [hrd] at hq
   dsimp only at hq
   have HRD:=hid hrd
   clear hrd
   by_cases h2:er2 = 0
   · subst h2
     rw [if_pos rfl] at hq
     simp only [Prod.mk.injEq] at hq
     obtain ⟨⟨rfl,rfl⟩,rfl,rfl⟩:=hq
     dsimp only
     go_enter Try.func41,Try.ntmps41
     have hk:=Hd.nthk 1 H.out rfl
     obtain ⟨g0,g1,g2,g3,g4,g5,g6,g7,g8,g9,g10,g11,g12⟩:=cells13 hk
     have gs:=(Array.getElem?_eq_some_iff.1 hk).1
     clear hk
     go_wp2_with fail
     refine (get_c c H.out).mono ?_
     rw [HTT.out,HGB.out]
     simp only [T.val]
     rintro e2 w1 ⟨rfl,h1⟩
     clear H g0 g1 g2 g3 g4 g5 g6 g7 g8 g9 g10 g11 g12 gs HTT HGB
     have H:=hid (h1.al (o:=.cells #[.int .i64 tk,.string ts,.int .u64 tn,.int .i64 ta,.int .i64 tb,.int .i64 tc] 47 (0,0)))
     clear h1
     have hk:=Hd.nthk 1 H.out rfl
     obtain ⟨g0,g1,g2,g3,g4,g5,g6,g7,g8,g9,g10,g11,g12⟩:=cells13 hk
     have gs:=(Array.getElem?_eq_some_iff.1 hk).1
     clear hk
     go_wp2_with fail
     have HB:=hid (H.out.bxk (w1.heap.size + 1) (by simp) (o:=.cells #[.int .i64 ik,.int .i64 ie,.int .u64 nx,.int .u64 bt,.slice ad es'.length cap] 146 (0,0)))
     clear H g0 g1 g2 g3 g4 g5 g6 g7 g8 g9 g10 g11 g12 gs
     have H:=HB
     clear HB
     have e2:=hid e1
     clear e2
     have hk:=Hd.nthk 1 H.out rfl
     have c0:=(cell_of_heap hk 0).trans (show _ = some (.int .i64 ik) from rfl)
     have c1:=(cell_of_heap hk 1).trans (show _ = some (.int .i64 ie) from rfl)
     have c2:=(cell_of_heap hk 2).trans (show _ = some (.int .u64 nx) from rfl)
     have c3:=(cell_of_heap hk 3).trans (show _ = some (.int .u64 bt) from rfl)
     have c4:=(cell_of_heap hk 4).trans (show _ = some (.slice ad es'.length cap) from rfl)
     have cs:=(Array.getElem?_eq_some_iff.1 hk).1
     clear hk
     go_wp2_with fail
     clear c0 c1 c2 c3 c4 cs
     have cf66:∀ args w,(callFunc 66 args).run Try.prog w = .ok (.enter 66 args) w:=fun args w=>by kernel_rfl
     refine hold_coreB (P:=Try.prog) (W:=W) (Rs:=(Blk p (.cells #[.int .i64 ok,.int .i64 oe,.int .i64 sent,.int .i64 ik,.int .i64 ie,.int .u64 nx,.int .u64 bt,.slice ad es'.length cap,.pointer (some ⟨b,0,none⟩),.int .i64 xh,.int .i64 xs,.int .i64 xr,.int .i64 xv] 148 (0,0))::CaR (.slice ad es'.length cap) es'::Rs)) [[],[],[1],[2],[3],[],[0,4,5],[6],[7],[7],[7],[0,8],[9],[10]] [[],[],[],[],[],[],[],[],[],[],[],[],[],[]] ([some 58,some 59,some 60,some 61,some 62,some 63,some 64,some 57,some 65,some 66,some 67,none,some 13,some 14]:List (Option Nat)) ([none,none,none,none,none,none,none,none,none,none,none,none,none,none,some 6,some 11]:List (Option Nat)) ((fun _=>.agg #[.int .i64 ik,.int .i64 ie,.int .u64 nx,.int .u64 bt,.slice ad es'.length cap])::(fun _=>pt p 0)::(fun _=>pt p 0)::(fun _=>pt p 8)::(fun _=>pt b 0)::(fun _=>.int .i64 n)::(fun _=>.tuple #[.agg #[.int .i64 ik',.int .i64 ie',.int .u64 nx',.int .u64 bt',.slice ad es'.length cap],.int .i64 key,.int .i64 0])::(fun _=>.tuple #[.agg #[.int .i64 ik',.int .i64 ie',.int .u64 nx',.int .u64 bt',.slice ad es'.length cap],.int .i64 key,.int .i64 0])::(fun _=>.agg #[.int .i64 ik',.int .i64 ie',.int .u64 nx',.int .u64 bt',.slice ad es'.length cap])::(fun _=>.int .i64 key)::(fun _=>.int .i64 0)::(fun _=>undef)::(fun _=>.int .i64 key)::(fun _=>.int .i64 0)::[]) (zR::zR::zR::zR::zR::zR::zR::zR::zR::zR::zR::zR::zR::zR::(fun _=>[Sto b L m])::(fun _=>[Blk (w1.heap.size + 1) (.cells #[.int .i64 ik,.int .i64 ie,.int .u64 nx,.int .u64 bt,.slice ad es'.length cap] 146 (0,0))])::([]:List (List Gh → List Res))) (zR::zR::zR::zR::zR::zR::zR::zR::zR::zR::zR::zR::zR::zR::(fun _=>[Sto b Lx m])::(fun _=>[Blk (w1.heap.size + 1) (.cells #[.int .i64 ik',.int .i64 ie',.int .u64 nx',.int .u64 bt',.slice ad es'.length cap] 146 (0,0))])::([]:List (List Gh → List Res))) (by kernel_rfl) rfl (hold_lt (n:=114) (by decide)) H.out rfl (by decide) (hold_nil (fs:=[6,11]) trivial rfl ?nil7_1) ?gd7_1 ?step7_1 (fun t=>(decide (13 ≤ t) && decide (t ≤ 14)) || (decide (57 ≤ t) && decide (t ≤ 67))) (by decide) ?done7_1 (fun I h0 st dn=>run_wpB mixed I h0 st dn)
     case nil7_1 =>
      intro s gs hs
      simp only [List.mem_cons,List.not_mem_nil,or_false] at hs
      rcases hs with rfl | rfl <;> rfl
     case gd7_1 =>
      repeat (refine StepAll.cons (by first | exact trivial | exact fun g=>rfl) ?_)
      exact trivial
     case step7_1 =>
      refine StepAll.cons ?_ ?_
      · refine HoldStepB.val (by decide) fun a wx γ hn hr hres hpre Ss hH K hK=>?_
        have e12:a.eval (.tmp 12) = .pointer (some ⟨(w1.heap.size + 1),0,none⟩):=(hr 12 (by decide)).trans rfl
        obtain ⟨Zs,hB⟩:=hpre 15 11 rfl (by decide) (by decide)
        have hk:=(show Hd W wx (Blk (w1.heap.size + 1) (.cells #[.int .i64 ik,.int .i64 ie,.int .u64 nx,.int .u64 bt,.slice ad es'.length cap] 146 (0,0))::Zs) from hB).blk
        have c0:=(cell_of_heap hk 0).trans (show _ = some (.int .i64 ik) from rfl)
        have c1:=(cell_of_heap hk 1).trans (show _ = some (.int .i64 ie) from rfl)
        have c2:=(cell_of_heap hk 2).trans (show _ = some (.int .u64 nx) from rfl)
        have c3:=(cell_of_heap hk 3).trans (show _ = some (.int .u64 bt) from rfl)
        have c4:=(cell_of_heap hk 4).trans (show _ = some (.slice ad es'.length cap) from rfl)
        clear hk
        exact hold_run (v:=.agg #[.int .i64 ik,.int .i64 ie,.int .u64 nx,.int .u64 bt,.slice ad es'.length cap]) (by clear hn hr hK; generalize a.eval = ρ at *; simp [execOp,e12,c0,c1,c2,c3,c4,go_sem]) rfl rfl hH hK
      refine .cons (pR 0 rfl fun _=>⟨rfl,rfl⟩) ?_
      refine .cons (pN 1 59 rfl fun _=>⟨rfl,rfl⟩) ?_
      refine .cons (pF 2 60 8 rfl rfl (fun b q w=>by simp [go_sem]) fun _=>⟨⟨_,_,rfl,rfl⟩,rfl⟩) ?_
      refine StepAll.cons ?_ ?_
      · refine HoldStepB.val (by decide) fun a wx γ hn hr hres hpre Ss hH K hK=>?_
        have e61:a.eval (.tmp 61) = .pointer (some ⟨p,8,none⟩):=hn 3 (by decide) 61 rfl
        exact hold_run (v:=.pointer (some ⟨b,0,none⟩)) (by clear hn hr hK; generalize a.eval = ρ at *; simp [execOp,e61,cell_of_heap (Hd.nthk 0 hH.rear rfl),go_sem]) rfl rfl hH hK
      refine .cons (pR 2 rfl fun _=>⟨rfl,rfl⟩) ?_
      refine StepAll.cons ?_ ?_
      · refine HoldStepB.fil 14 (by decide) fun a wx γ hn hr hres hpre Ss hH K hK=>?_
        have e58:a.eval (.tmp 58) = .agg #[.int .i64 ik,.int .i64 ie,.int .u64 nx,.int .u64 bt,.slice ad es'.length cap]:=hn 0 (by decide) 58 rfl
        have e62:a.eval (.tmp 62) = .pointer (some ⟨b,0,none⟩):=hn 4 (by decide) 62 rfl
        have e63:a.eval (.tmp 63) = .int .i64 n:=hn 5 (by decide) 63 rfl
        have ef:a.eval (.func 66) = .func (.func 66) #[] #[]:=rfl
        refine hold_callB (b:=14) (f:=66) (args:=#[.agg #[.int .i64 ik,.int .i64 ie,.int .u64 nx,.int .u64 bt,.slice ad es'.length cap],.pointer (some ⟨b,0,none⟩),.int .i64 n]) (by clear hn hr hK hH; generalize a.eval = ρ at *; simp [execOp,e58,e62,e63,cf66,ef,go_sem]) ?_ hK
        exact (now19_calls HX.out.rc.w h0n h255 HR.out hH).mono fun e2 w2 h=>⟨default,h.1,h.2⟩
      refine .cons (pN 6 64 rfl fun _=>⟨rfl,rfl⟩) ?_
      refine .cons (pN 7 57 rfl fun _=>⟨rfl,rfl⟩) ?_
      refine .cons (pN 7 57 rfl fun _=>⟨rfl,rfl⟩) ?_
      refine .cons (pN 7 57 rfl fun _=>⟨rfl,rfl⟩) ?_
      refine StepAll.cons ?_ ?_
      · refine HoldStepB.fil 15 (by decide) fun a wx γ hn hr hres hpre Ss hH K hK=>?_
        have e12:a.eval (.tmp 12) = .pointer (some ⟨(w1.heap.size + 1),0,none⟩):=(hr 12 (by decide)).trans rfl
        have e65:a.eval (.tmp 65) = .agg #[.int .i64 ik',.int .i64 ie',.int .u64 nx',.int .u64 bt',.slice ad es'.length cap]:=hn 8 (by decide) 65 rfl
        have hH2:Hd W wx (Blk (w1.heap.size + 1) (.cells #[.int .i64 ik,.int .i64 ie,.int .u64 nx,.int .u64 bt,.slice ad es'.length cap] 146 (0,0))::(Ss ++ (Blk p (.cells #[.int .i64 ok,.int .i64 oe,.int .i64 sent,.int .i64 ik,.int .i64 ie,.int .u64 nx,.int .u64 bt,.slice ad es'.length cap,.pointer (some ⟨b,0,none⟩),.int .i64 xh,.int .i64 xs,.int .i64 xr,.int .i64 xv] 148 (0,0))::CaR (.slice ad es'.length cap) es'::Rs))):=hH
        have hk:=hH2.blk
        have c0:=(cell_of_heap hk 0).trans (show _ = some (.int .i64 ik) from rfl)
        have c1:=(cell_of_heap hk 1).trans (show _ = some (.int .i64 ie) from rfl)
        have c2:=(cell_of_heap hk 2).trans (show _ = some (.int .u64 nx) from rfl)
        have c3:=(cell_of_heap hk 3).trans (show _ = some (.int .u64 bt) from rfl)
        have c4:=(cell_of_heap hk 4).trans (show _ = some (.slice ad es'.length cap) from rfl)
        have cf:=frozen_of_heap hk
        clear hk hH
        exact hold_filB (w':=(((((wx.setCell ⟨(w1.heap.size + 1),0,none⟩ (.int .i64 ik')).setCell ⟨(w1.heap.size + 1),1,none⟩ (.int .i64 ie')).setCell ⟨(w1.heap.size + 1),2,none⟩ (.int .u64 nx')).setCell ⟨(w1.heap.size + 1),3,none⟩ (.int .u64 bt')).setCell ⟨(w1.heap.size + 1),4,none⟩ (.slice ad es'.length cap))) (by clear hn hr hK hH2; generalize a.eval = ρ at *; simp [execOp,e12,e65,c0,c1,c2,c3,c4,cf,go_sem]) rfl rfl (((((hH2.set 0 (.int .i64 ik')).set 1 (.int .i64 ie')).set 2 (.int .u64 nx')).set 3 (.int .u64 bt')).set 4 (.slice ad es'.length cap)) hK
      refine .cons (pN 9 66 rfl fun _=>⟨rfl,rfl⟩) ?_
      refine .cons (pN 10 67 rfl fun _=>⟨rfl,rfl⟩) ?_
      exact trivial
     case done7_1 =>
      intro f w9 g9 hv h9
      have er13:f 13 = .int .i64 key:=hv 12 13 rfl
      have er14:f 14 = .int .i64 0:=hv 13 14 rfl
      have hd:Hd W w9 (Sto b Lx m::Blk (w1.heap.size + 1) (.cells #[.int .i64 ik',.int .i64 ie',.int .u64 nx',.int .u64 bt',.slice ad es'.length cap] 146 (0,0))::Blk p (.cells #[.int .i64 ok,.int .i64 oe,.int .i64 sent,.int .i64 ik,.int .i64 ie,.int .u64 nx,.int .u64 bt,.slice ad es'.length cap,.pointer (some ⟨b,0,none⟩),.int .i64 xh,.int .i64 xs,.int .i64 xr,.int .i64 xv] 148 (0,0))::CaR (.slice ad es'.length cap) es'::Rs):=h9
      clear hv h9 cf66
      clear g9
      simp only [patchG,Nat.reduceAdd,Nat.reduceLeDiff,decide_true,decide_false,Bool.and_true,Bool.and_false,Bool.or_true,Bool.or_false,cond_true,cond_false,er13,er14]
      clear er13 er14
      clear H HR
      have H:=hid hd
      clear hd
      go_wp2_with fail
      have cf69:∀ args w,(callFunc 69 args).run Try.prog w = .ok (.enter 69 args) w:=fun args w=>by kernel_rfl
      refine hold_coreB (P:=Try.prog) (W:=W) (Rs:=(Blk (w1.heap.size + 1) (.cells #[.int .i64 ik',.int .i64 ie',.int .u64 nx',.int .u64 bt',.slice ad es'.length cap] 146 (0,0))::Blk p (.cells #[.int .i64 ok,.int .i64 oe,.int .i64 sent,.int .i64 ik,.int .i64 ie,.int .u64 nx,.int .u64 bt,.slice ad es'.length cap,.pointer (some ⟨b,0,none⟩),.int .i64 xh,.int .i64 xs,.int .i64 xr,.int .i64 xv] 148 (0,0))::CaR (.slice ad es'.length cap) es'::Rs)) [[],[0],[1],[2],[],[],[5],[],[7],[8],[9],[10],[],[3,4,6,11,12],[13],[14],[14],[15],[16]] [[],[],[],[],[],[],[],[],[],[],[],[],[],[],[],[],[],[],[]] ([some 90,some 91,some 92,some 93,some 94,some 95,some 96,some 97,some 98,some 99,some 100,some 101,some 102,some 103,some 89,some 104,some 105,some 15,some 14]:List (Option Nat)) ([none,none,none,none,none,none,none,none,none,none,none,none,none,none,none,none,none,none,none,some 13]:List (Option Nat)) ((fun _=>pt p 0)::(fun _=>pt p 0)::(fun _=>pt p 8)::(fun _=>pt b 0)::(fun _=>.int .i64 key)::(fun _=>.int .i64 n)::(fun _=>.int .u64 n)::(fun _=>pt p 0)::(fun _=>pt p 0)::(fun _=>pt p 9)::(fun _=>pt p 9)::(fun _=>.int .i64 xh)::(fun _=>.int .i64 c)::(fun _=>.tuple #[.string txt,.int .i64 0])::(fun _=>.tuple #[.string txt,.int .i64 0])::(fun _=>.string txt)::(fun _=>.int .i64 0)::(fun _=>.string txt)::(fun _=>.int .i64 0)::[]) (zR::zR::zR::zR::zR::zR::zR::zR::zR::zR::zR::zR::zR::zR::zR::zR::zR::zR::zR::(fun _=>[Sto b Lx m])::([]:List (List Gh → List Res))) (zR::zR::zR::zR::zR::zR::zR::zR::zR::zR::zR::zR::zR::zR::zR::zR::zR::zR::zR::(fun _=>[Sto b Lx m])::([]:List (List Gh → List Res))) (by kernel_rfl) rfl (hold_lt (n:=114) (by decide)) H.out rfl (by decide) (hold_nil (fs:=[13]) trivial rfl ?nil12_2) ?gd12_2 ?step12_2 (fun t=>(decide (14 ≤ t) && decide (t ≤ 15)) || (decide (89 ≤ t) && decide (t ≤ 105))) (by decide) ?done12_2 (fun I h0 st dn=>run_wpB mixed I h0 st dn)
      case nil12_2 =>
       intro s gs hs
       simp only [List.mem_cons,List.not_mem_nil,or_false] at hs
       subst hs; rfl
      case gd12_2 =>
       repeat (refine StepAll.cons (by first | exact trivial | exact fun g=>rfl) ?_)
       exact trivial
      case step12_2 =>
       refine .cons (pR 0 rfl fun _=>⟨rfl,rfl⟩) ?_
       refine .cons (pN 0 90 rfl fun _=>⟨rfl,rfl⟩) ?_
       refine .cons (pF 1 91 8 rfl rfl (fun b q w=>by simp [go_sem]) fun _=>⟨⟨_,_,rfl,rfl⟩,rfl⟩) ?_
       refine StepAll.cons ?_ ?_
       · refine HoldStepB.val (by decide) fun a wx γ hn hr hres hpre Ss hH K hK=>?_
         have e92:a.eval (.tmp 92) = .pointer (some ⟨p,8,none⟩):=hn 2 (by decide) 92 rfl
         exact hold_run (v:=.pointer (some ⟨b,0,none⟩)) (by clear hn hr hK; generalize a.eval = ρ at *; simp [execOp,e92,cell_of_heap (Hd.nthk 1 hH.rear rfl),go_sem]) rfl rfl hH hK
       refine .cons (pR 13 rfl fun _=>⟨rfl,rfl⟩) ?_
       refine .cons (pR 2 rfl fun _=>⟨rfl,rfl⟩) ?_
       refine StepAll.cons ?_ ?_
       · refine HoldStepB.val (by decide) fun a wx γ hn hr hres hpre Ss hH K hK=>?_
         have e95:a.eval (.tmp 95) = .int .i64 n:=hn 5 (by decide) 95 rfl
         exact hold_run (v:=.int .u64 n) (by clear hn hr hK; generalize a.eval = ρ at *; simp [execOp,e95,zcv,go_sem]) rfl rfl hH hK
       refine .cons (pR 0 rfl fun _=>⟨rfl,rfl⟩) ?_
       refine .cons (pN 7 97 rfl fun _=>⟨rfl,rfl⟩) ?_
       refine .cons (pF 8 98 9 rfl rfl (fun b q w=>by simp [go_sem]) fun _=>⟨⟨_,_,rfl,rfl⟩,rfl⟩) ?_
       refine .cons (pF 9 99 0 rfl rfl (fun b q w=>by simp [go_sem]) fun _=>⟨⟨_,_,rfl,rfl⟩,rfl⟩) ?_
       refine StepAll.cons ?_ ?_
       · refine HoldStepB.val (by decide) fun a wx γ hn hr hres hpre Ss hH K hK=>?_
         have e100:a.eval (.tmp 100) = .pointer (some ⟨p,9,none⟩):=hn 10 (by decide) 100 rfl
         exact hold_run (v:=.int .i64 xh) (by clear hn hr hK; generalize a.eval = ρ at *; simp [execOp,e100,cell_of_heap (Hd.nthk 1 hH.rear rfl),go_sem]) rfl rfl hH hK
       refine .cons (pR 3 rfl fun _=>⟨rfl,rfl⟩) ?_
       refine StepAll.cons ?_ ?_
       · refine HoldStepB.fil 19 (by decide) fun a wx γ hn hr hres hpre Ss hH K hK=>?_
         have e93:a.eval (.tmp 93) = .pointer (some ⟨b,0,none⟩):=hn 3 (by decide) 93 rfl
         have e94:a.eval (.tmp 94) = .int .i64 key:=hn 4 (by decide) 94 rfl
         have e96:a.eval (.tmp 96) = .int .u64 n:=hn 6 (by decide) 96 rfl
         have e101:a.eval (.tmp 101) = .int .i64 xh:=hn 11 (by decide) 101 rfl
         have e102:a.eval (.tmp 102) = .int .i64 c:=hn 12 (by decide) 102 rfl
         have ef:a.eval (.func 69) = .func (.func 69) #[] #[]:=rfl
         refine hold_callB (b:=19) (f:=69) (args:=#[.pointer (some ⟨b,0,none⟩),.int .i64 key,.int .u64 n,.int .i64 xh,.int .i64 c]) (by clear hn hr hK hH; generalize a.eval = ρ at *; simp [execOp,e93,e94,e96,e101,e102,cf69,ef,go_sem]) ?_ hK
         refine (read_calls key n xh c hH).mono fun e2 w2 h=>?_
         rw [HRD.out] at h
         exact ⟨default,h.1,h.2⟩
       refine .cons (pN 13 103 rfl fun _=>⟨rfl,rfl⟩) ?_
       refine .cons (pN 14 89 rfl fun _=>⟨rfl,rfl⟩) ?_
       refine .cons (pN 14 89 rfl fun _=>⟨rfl,rfl⟩) ?_
       refine .cons (pN 15 104 rfl fun _=>⟨rfl,rfl⟩) ?_
       refine .cons (pN 16 105 rfl fun _=>⟨rfl,rfl⟩) ?_
       exact trivial
      case done12_2 =>
       intro f w9 g9 hv h9
       have er15:f 15 = .string txt:=hv 17 15 rfl
       have er14:f 14 = .int .i64 0:=hv 18 14 rfl
       have hd:Hd W w9 (Sto b Lx m::Blk (w1.heap.size + 1) (.cells #[.int .i64 ik',.int .i64 ie',.int .u64 nx',.int .u64 bt',.slice ad es'.length cap] 146 (0,0))::Blk p (.cells #[.int .i64 ok,.int .i64 oe,.int .i64 sent,.int .i64 ik,.int .i64 ie,.int .u64 nx,.int .u64 bt,.slice ad es'.length cap,.pointer (some ⟨b,0,none⟩),.int .i64 xh,.int .i64 xs,.int .i64 xr,.int .i64 xv] 148 (0,0))::CaR (.slice ad es'.length cap) es'::Rs):=h9
       clear hv h9 cf69
       clear g9
       simp only [patchG,Nat.reduceAdd,Nat.reduceLeDiff,decide_true,decide_false,Bool.and_true,Bool.and_false,Bool.or_true,Bool.or_false,cond_true,cond_false,er15,er14]
       clear er15 er14
       clear H HRD
       have H:=hid hd
       clear hd
       have hk:=Hd.nthk 1 H.out rfl
       have c0:=(cell_of_heap hk 0).trans (show _ = some (.int .i64 ik') from rfl)
       have c1:=(cell_of_heap hk 1).trans (show _ = some (.int .i64 ie') from rfl)
       have c2:=(cell_of_heap hk 2).trans (show _ = some (.int .u64 nx') from rfl)
       have c3:=(cell_of_heap hk 3).trans (show _ = some (.int .u64 bt') from rfl)
       have c4:=(cell_of_heap hk 4).trans (show _ = some (.slice ad es'.length cap) from rfl)
       have cs:=(Array.getElem?_eq_some_iff.1 hk).1
       clear hk
       have hk:=Hd.nthk 2 H.out rfl
       obtain ⟨g0,g1,g2,g3,g4,g5,g6,g7,g8,g9,g10,g11,g12⟩:=cells13 hk
       have gs:=(Array.getElem?_eq_some_iff.1 hk).1
       have gf:=frozen_of_heap hk
       clear hk
       go_wp2_with fail
       refine bodyPost_ret (v:=.tuple #[.string txt,.int .i64 0]) (by simp [results,Try.results41,go_sem]) rfl ⟨ad,cap,rfl,?_⟩
       exact (((((((((((((H.out.front 3 rfl).front 2 rfl).front 2 rfl).front 3 rfl).set 3 (.int .i64 ik')).set 4 (.int .i64 ie')).set 5 (.int .u64 nx')).set 6 (.int .u64 bt')).set 7 (.slice ad es'.length cap)).front 3 rfl).front 1 rfl).front 2 rfl).front 3 rfl).drop
   · rw [if_neg h2] at hq
     simp only [Prod.mk.injEq] at hq
     obtain ⟨⟨rfl,rfl⟩,rfl,rfl⟩:=hq
     have g1:(er2 != 0) = true:=by rw [bne_iff_ne]; exact h2
     have g2:decide (er2 = 0) = false:=by simpa using h2
     clear h2
     go_enter Try.func41,Try.ntmps41
     have hk:=Hd.nthk 1 H.out rfl
     obtain ⟨g0,g1,g2,g3,g4,g5,g6,g7,g8,g9,g10,g11,g12⟩:=cells13 hk
     have gs:=(Array.getElem?_eq_some_iff.1 hk).1
     clear hk
     go_wp2_with fail
     refine (get_c c H.out).mono ?_
     rw [HTT.out,HGB.out]
     simp only [T.val]
     rintro e2 w1 ⟨rfl,h1⟩
     clear H g0 g1 g2 g3 g4 g5 g6 g7 g8 g9 g10 g11 g12 gs HTT HGB
     have H:=hid (h1.al (o:=.cells #[.int .i64 tk,.string ts,.int .u64 tn,.int .i64 ta,.int .i64 tb,.int .i64 tc] 47 (0,0)))
     clear h1
     have hk:=Hd.nthk 1 H.out rfl
     obtain ⟨g0,g1,g2,g3,g4,g5,g6,g7,g8,g9,g10,g11,g12⟩:=cells13 hk
     have gs:=(Array.getElem?_eq_some_iff.1 hk).1
     clear hk
     go_wp2_with fail
     have HB:=hid (H.out.bxk (w1.heap.size + 1) (by simp) (o:=.cells #[.int .i64 ik,.int .i64 ie,.int .u64 nx,.int .u64 bt,.slice ad es'.length cap] 146 (0,0)))
     clear H g0 g1 g2 g3 g4 g5 g6 g7 g8 g9 g10 g11 g12 gs
     have H:=HB
     clear HB
     have e2:=hid e1
     clear e2
     have hk:=Hd.nthk 1 H.out rfl
     have c0:=(cell_of_heap hk 0).trans (show _ = some (.int .i64 ik) from rfl)
     have c1:=(cell_of_heap hk 1).trans (show _ = some (.int .i64 ie) from rfl)
     have c2:=(cell_of_heap hk 2).trans (show _ = some (.int .u64 nx) from rfl)
     have c3:=(cell_of_heap hk 3).trans (show _ = some (.int .u64 bt) from rfl)
     have c4:=(cell_of_heap hk 4).trans (show _ = some (.slice ad es'.length cap) from rfl)
     have cs:=(Array.getElem?_eq_some_iff.1 hk).1
     clear hk
     go_wp2_with fail
     clear c0 c1 c2 c3 c4 cs
     have cf66:∀ args w,(callFunc 66 args).run Try.prog w = .ok (.enter 66 args) w:=fun args w=>by kernel_rfl
     refine hold_coreB (P:=Try.prog) (W:=W) (Rs:=(Blk p (.cells #[.int .i64 ok,.int .i64 oe,.int .i64 sent,.int .i64 ik,.int .i64 ie,.int .u64 nx,.int .u64 bt,.slice ad es'.length cap,.pointer (some ⟨b,0,none⟩),.int .i64 xh,.int .i64 xs,.int .i64 xr,.int .i64 xv] 148 (0,0))::CaR (.slice ad es'.length cap) es'::Rs)) [[],[],[1],[2],[3],[],[0,4,5],[6],[7],[7],[7],[0,8],[9],[10]] [[],[],[],[],[],[],[],[],[],[],[],[],[],[]] ([some 58,some 59,some 60,some 61,some 62,some 63,some 64,some 57,some 65,some 66,some 67,none,some 13,some 14]:List (Option Nat)) ([none,none,none,none,none,none,none,none,none,none,none,none,none,none,some 6,some 11]:List (Option Nat)) ((fun _=>.agg #[.int .i64 ik,.int .i64 ie,.int .u64 nx,.int .u64 bt,.slice ad es'.length cap])::(fun _=>pt p 0)::(fun _=>pt p 0)::(fun _=>pt p 8)::(fun _=>pt b 0)::(fun _=>.int .i64 n)::(fun _=>.tuple #[.agg #[.int .i64 ik',.int .i64 ie',.int .u64 nx',.int .u64 bt',.slice ad es'.length cap],.int .i64 key,.int .i64 0])::(fun _=>.tuple #[.agg #[.int .i64 ik',.int .i64 ie',.int .u64 nx',.int .u64 bt',.slice ad es'.length cap],.int .i64 key,.int .i64 0])::(fun _=>.agg #[.int .i64 ik',.int .i64 ie',.int .u64 nx',.int .u64 bt',.slice ad es'.length cap])::(fun _=>.int .i64 key)::(fun _=>.int .i64 0)::(fun _=>undef)::(fun _=>.int .i64 key)::(fun _=>.int .i64 0)::[]) (zR::zR::zR::zR::zR::zR::zR::zR::zR::zR::zR::zR::zR::zR::(fun _=>[Sto b L m])::(fun _=>[Blk (w1.heap.size + 1) (.cells #[.int .i64 ik,.int .i64 ie,.int .u64 nx,.int .u64 bt,.slice ad es'.length cap] 146 (0,0))])::([]:List (List Gh → List Res))) (zR::zR::zR::zR::zR::zR::zR::zR::zR::zR::zR::zR::zR::zR::(fun _=>[Sto b Lx m])::(fun _=>[Blk (w1.heap.size + 1) (.cells #[.int .i64 ik',.int .i64 ie',.int .u64 nx',.int .u64 bt',.slice ad es'.length cap] 146 (0,0))])::([]:List (List Gh → List Res))) (by kernel_rfl) rfl (hold_lt (n:=114) (by decide)) H.out rfl (by decide) (hold_nil (fs:=[6,11]) trivial rfl ?nil7_3) ?gd7_3 ?step7_3 (fun t=>(decide (13 ≤ t) && decide (t ≤ 14)) || (decide (57 ≤ t) && decide (t ≤ 67))) (by decide) ?done7_3 (fun I h0 st dn=>run_wpB mixed I h0 st dn)
     case nil7_3 =>
      intro s gs hs
      simp only [List.mem_cons,List.not_mem_nil,or_false] at hs
      rcases hs with rfl | rfl <;> rfl
     case gd7_3 =>
      repeat (refine StepAll.cons (by first | exact trivial | exact fun g=>rfl) ?_)
      exact trivial
     case step7_3 =>
      refine StepAll.cons ?_ ?_
      · refine HoldStepB.val (by decide) fun a wx γ hn hr hres hpre Ss hH K hK=>?_
        have e12:a.eval (.tmp 12) = .pointer (some ⟨(w1.heap.size + 1),0,none⟩):=(hr 12 (by decide)).trans rfl
        obtain ⟨Zs,hB⟩:=hpre 15 11 rfl (by decide) (by decide)
        have hk:=(show Hd W wx (Blk (w1.heap.size + 1) (.cells #[.int .i64 ik,.int .i64 ie,.int .u64 nx,.int .u64 bt,.slice ad es'.length cap] 146 (0,0))::Zs) from hB).blk
        have c0:=(cell_of_heap hk 0).trans (show _ = some (.int .i64 ik) from rfl)
        have c1:=(cell_of_heap hk 1).trans (show _ = some (.int .i64 ie) from rfl)
        have c2:=(cell_of_heap hk 2).trans (show _ = some (.int .u64 nx) from rfl)
        have c3:=(cell_of_heap hk 3).trans (show _ = some (.int .u64 bt) from rfl)
        have c4:=(cell_of_heap hk 4).trans (show _ = some (.slice ad es'.length cap) from rfl)
        clear hk
        exact hold_run (v:=.agg #[.int .i64 ik,.int .i64 ie,.int .u64 nx,.int .u64 bt,.slice ad es'.length cap]) (by clear hn hr hK; generalize a.eval = ρ at *; simp [execOp,e12,c0,c1,c2,c3,c4,go_sem]) rfl rfl hH hK
      refine .cons (pR 0 rfl fun _=>⟨rfl,rfl⟩) ?_
      refine .cons (pN 1 59 rfl fun _=>⟨rfl,rfl⟩) ?_
      refine .cons (pF 2 60 8 rfl rfl (fun b q w=>by simp [go_sem]) fun _=>⟨⟨_,_,rfl,rfl⟩,rfl⟩) ?_
      refine StepAll.cons ?_ ?_
      · refine HoldStepB.val (by decide) fun a wx γ hn hr hres hpre Ss hH K hK=>?_
        have e61:a.eval (.tmp 61) = .pointer (some ⟨p,8,none⟩):=hn 3 (by decide) 61 rfl
        exact hold_run (v:=.pointer (some ⟨b,0,none⟩)) (by clear hn hr hK; generalize a.eval = ρ at *; simp [execOp,e61,cell_of_heap (Hd.nthk 0 hH.rear rfl),go_sem]) rfl rfl hH hK
      refine .cons (pR 2 rfl fun _=>⟨rfl,rfl⟩) ?_
      refine StepAll.cons ?_ ?_
      · refine HoldStepB.fil 14 (by decide) fun a wx γ hn hr hres hpre Ss hH K hK=>?_
        have e58:a.eval (.tmp 58) = .agg #[.int .i64 ik,.int .i64 ie,.int .u64 nx,.int .u64 bt,.slice ad es'.length cap]:=hn 0 (by decide) 58 rfl
        have e62:a.eval (.tmp 62) = .pointer (some ⟨b,0,none⟩):=hn 4 (by decide) 62 rfl
        have e63:a.eval (.tmp 63) = .int .i64 n:=hn 5 (by decide) 63 rfl
        have ef:a.eval (.func 66) = .func (.func 66) #[] #[]:=rfl
        refine hold_callB (b:=14) (f:=66) (args:=#[.agg #[.int .i64 ik,.int .i64 ie,.int .u64 nx,.int .u64 bt,.slice ad es'.length cap],.pointer (some ⟨b,0,none⟩),.int .i64 n]) (by clear hn hr hK hH; generalize a.eval = ρ at *; simp [execOp,e58,e62,e63,cf66,ef,go_sem]) ?_ hK
        exact (now19_calls HX.out.rc.w h0n h255 HR.out hH).mono fun e2 w2 h=>⟨default,h.1,h.2⟩
      refine .cons (pN 6 64 rfl fun _=>⟨rfl,rfl⟩) ?_
      refine .cons (pN 7 57 rfl fun _=>⟨rfl,rfl⟩) ?_
      refine .cons (pN 7 57 rfl fun _=>⟨rfl,rfl⟩) ?_
      refine .cons (pN 7 57 rfl fun _=>⟨rfl,rfl⟩) ?_
      refine StepAll.cons ?_ ?_
      · refine HoldStepB.fil 15 (by decide) fun a wx γ hn hr hres hpre Ss hH K hK=>?_
        have e12:a.eval (.tmp 12) = .pointer (some ⟨(w1.heap.size + 1),0,none⟩):=(hr 12 (by decide)).trans rfl
        have e65:a.eval (.tmp 65) = .agg #[.int .i64 ik',.int .i64 ie',.int .u64 nx',.int .u64 bt',.slice ad es'.length cap]:=hn 8 (by decide) 65 rfl
        have hH2:Hd W wx (Blk (w1.heap.size + 1) (.cells #[.int .i64 ik,.int .i64 ie,.int .u64 nx,.int .u64 bt,.slice ad es'.length cap] 146 (0,0))::(Ss ++ (Blk p (.cells #[.int .i64 ok,.int .i64 oe,.int .i64 sent,.int .i64 ik,.int .i64 ie,.int .u64 nx,.int .u64 bt,.slice ad es'.length cap,.pointer (some ⟨b,0,none⟩),.int .i64 xh,.int .i64 xs,.int .i64 xr,.int .i64 xv] 148 (0,0))::CaR (.slice ad es'.length cap) es'::Rs))):=hH
        have hk:=hH2.blk
        have c0:=(cell_of_heap hk 0).trans (show _ = some (.int .i64 ik) from rfl)
        have c1:=(cell_of_heap hk 1).trans (show _ = some (.int .i64 ie) from rfl)
        have c2:=(cell_of_heap hk 2).trans (show _ = some (.int .u64 nx) from rfl)
        have c3:=(cell_of_heap hk 3).trans (show _ = some (.int .u64 bt) from rfl)
        have c4:=(cell_of_heap hk 4).trans (show _ = some (.slice ad es'.length cap) from rfl)
        have cf:=frozen_of_heap hk
        clear hk hH
        exact hold_filB (w':=(((((wx.setCell ⟨(w1.heap.size + 1),0,none⟩ (.int .i64 ik')).setCell ⟨(w1.heap.size + 1),1,none⟩ (.int .i64 ie')).setCell ⟨(w1.heap.size + 1),2,none⟩ (.int .u64 nx')).setCell ⟨(w1.heap.size + 1),3,none⟩ (.int .u64 bt')).setCell ⟨(w1.heap.size + 1),4,none⟩ (.slice ad es'.length cap))) (by clear hn hr hK hH2; generalize a.eval = ρ at *; simp [execOp,e12,e65,c0,c1,c2,c3,c4,cf,go_sem]) rfl rfl (((((hH2.set 0 (.int .i64 ik')).set 1 (.int .i64 ie')).set 2 (.int .u64 nx')).set 3 (.int .u64 bt')).set 4 (.slice ad es'.length cap)) hK
      refine .cons (pN 9 66 rfl fun _=>⟨rfl,rfl⟩) ?_
      refine .cons (pN 10 67 rfl fun _=>⟨rfl,rfl⟩) ?_
      exact trivial
     case done7_3 =>
      intro f w9 g9 hv h9
      have er13:f 13 = .int .i64 key:=hv 12 13 rfl
      have er14:f 14 = .int .i64 0:=hv 13 14 rfl
      have hd:Hd W w9 (Sto b Lx m::Blk (w1.heap.size + 1) (.cells #[.int .i64 ik',.int .i64 ie',.int .u64 nx',.int .u64 bt',.slice ad es'.length cap] 146 (0,0))::Blk p (.cells #[.int .i64 ok,.int .i64 oe,.int .i64 sent,.int .i64 ik,.int .i64 ie,.int .u64 nx,.int .u64 bt,.slice ad es'.length cap,.pointer (some ⟨b,0,none⟩),.int .i64 xh,.int .i64 xs,.int .i64 xr,.int .i64 xv] 148 (0,0))::CaR (.slice ad es'.length cap) es'::Rs):=h9
      clear hv h9 cf66
      clear g9
      simp only [patchG,Nat.reduceAdd,Nat.reduceLeDiff,decide_true,decide_false,Bool.and_true,Bool.and_false,Bool.or_true,Bool.or_false,cond_true,cond_false,er13,er14]
      clear er13 er14
      clear H HR
      have H:=hid hd
      clear hd
      go_wp2_with fail
      have cf69:∀ args w,(callFunc 69 args).run Try.prog w = .ok (.enter 69 args) w:=fun args w=>by kernel_rfl
      refine hold_coreB (P:=Try.prog) (W:=W) (Rs:=(Blk (w1.heap.size + 1) (.cells #[.int .i64 ik',.int .i64 ie',.int .u64 nx',.int .u64 bt',.slice ad es'.length cap] 146 (0,0))::Blk p (.cells #[.int .i64 ok,.int .i64 oe,.int .i64 sent,.int .i64 ik,.int .i64 ie,.int .u64 nx,.int .u64 bt,.slice ad es'.length cap,.pointer (some ⟨b,0,none⟩),.int .i64 xh,.int .i64 xs,.int .i64 xr,.int .i64 xv] 148 (0,0))::CaR (.slice ad es'.length cap) es'::Rs)) [[],[0],[1],[2],[],[],[5],[],[7],[8],[9],[10],[],[3,4,6,11,12],[13],[14],[14],[15],[16]] [[],[],[],[],[],[],[],[],[],[],[],[],[],[],[],[],[],[],[]] ([some 90,some 91,some 92,some 93,some 94,some 95,some 96,some 97,some 98,some 99,some 100,some 101,some 102,some 103,some 89,some 104,some 105,some 15,some 14]:List (Option Nat)) ([none,none,none,none,none,none,none,none,none,none,none,none,none,none,none,none,none,none,none,some 13]:List (Option Nat)) ((fun _=>pt p 0)::(fun _=>pt p 0)::(fun _=>pt p 8)::(fun _=>pt b 0)::(fun _=>.int .i64 key)::(fun _=>.int .i64 n)::(fun _=>.int .u64 n)::(fun _=>pt p 0)::(fun _=>pt p 0)::(fun _=>pt p 9)::(fun _=>pt p 9)::(fun _=>.int .i64 xh)::(fun _=>.int .i64 c)::(fun _=>.tuple #[.string txt,.int .i64 er2])::(fun _=>.tuple #[.string txt,.int .i64 er2])::(fun _=>.string txt)::(fun _=>.int .i64 er2)::(fun _=>.string txt)::(fun _=>.int .i64 er2)::[]) (zR::zR::zR::zR::zR::zR::zR::zR::zR::zR::zR::zR::zR::zR::zR::zR::zR::zR::zR::(fun _=>[Sto b Lx m])::([]:List (List Gh → List Res))) (zR::zR::zR::zR::zR::zR::zR::zR::zR::zR::zR::zR::zR::zR::zR::zR::zR::zR::zR::(fun _=>[Sto b Lx m])::([]:List (List Gh → List Res))) (by kernel_rfl) rfl (hold_lt (n:=114) (by decide)) H.out rfl (by decide) (hold_nil (fs:=[13]) trivial rfl ?nil12_4) ?gd12_4 ?step12_4 (fun t=>(decide (14 ≤ t) && decide (t ≤ 15)) || (decide (89 ≤ t) && decide (t ≤ 105))) (by decide) ?done12_4 (fun I h0 st dn=>run_wpB mixed I h0 st dn)
      case nil12_4 =>
       intro s gs hs
       simp only [List.mem_cons,List.not_mem_nil,or_false] at hs
       subst hs; rfl
      case gd12_4 =>
       repeat (refine StepAll.cons (by first | exact trivial | exact fun g=>rfl) ?_)
       exact trivial
      case step12_4 =>
       refine .cons (pR 0 rfl fun _=>⟨rfl,rfl⟩) ?_
       refine .cons (pN 0 90 rfl fun _=>⟨rfl,rfl⟩) ?_
       refine .cons (pF 1 91 8 rfl rfl (fun b q w=>by simp [go_sem]) fun _=>⟨⟨_,_,rfl,rfl⟩,rfl⟩) ?_
       refine StepAll.cons ?_ ?_
       · refine HoldStepB.val (by decide) fun a wx γ hn hr hres hpre Ss hH K hK=>?_
         have e92:a.eval (.tmp 92) = .pointer (some ⟨p,8,none⟩):=hn 2 (by decide) 92 rfl
         exact hold_run (v:=.pointer (some ⟨b,0,none⟩)) (by clear hn hr hK; generalize a.eval = ρ at *; simp [execOp,e92,cell_of_heap (Hd.nthk 1 hH.rear rfl),go_sem]) rfl rfl hH hK
       refine .cons (pR 13 rfl fun _=>⟨rfl,rfl⟩) ?_
       refine .cons (pR 2 rfl fun _=>⟨rfl,rfl⟩) ?_
       refine StepAll.cons ?_ ?_
       · refine HoldStepB.val (by decide) fun a wx γ hn hr hres hpre Ss hH K hK=>?_
         have e95:a.eval (.tmp 95) = .int .i64 n:=hn 5 (by decide) 95 rfl
         exact hold_run (v:=.int .u64 n) (by clear hn hr hK; generalize a.eval = ρ at *; simp [execOp,e95,zcv,go_sem]) rfl rfl hH hK
       refine .cons (pR 0 rfl fun _=>⟨rfl,rfl⟩) ?_
       refine .cons (pN 7 97 rfl fun _=>⟨rfl,rfl⟩) ?_
       refine .cons (pF 8 98 9 rfl rfl (fun b q w=>by simp [go_sem]) fun _=>⟨⟨_,_,rfl,rfl⟩,rfl⟩) ?_
       refine .cons (pF 9 99 0 rfl rfl (fun b q w=>by simp [go_sem]) fun _=>⟨⟨_,_,rfl,rfl⟩,rfl⟩) ?_
       refine StepAll.cons ?_ ?_
       · refine HoldStepB.val (by decide) fun a wx γ hn hr hres hpre Ss hH K hK=>?_
         have e100:a.eval (.tmp 100) = .pointer (some ⟨p,9,none⟩):=hn 10 (by decide) 100 rfl
         exact hold_run (v:=.int .i64 xh) (by clear hn hr hK; generalize a.eval = ρ at *; simp [execOp,e100,cell_of_heap (Hd.nthk 1 hH.rear rfl),go_sem]) rfl rfl hH hK
       refine .cons (pR 3 rfl fun _=>⟨rfl,rfl⟩) ?_
       refine StepAll.cons ?_ ?_
       · refine HoldStepB.fil 19 (by decide) fun a wx γ hn hr hres hpre Ss hH K hK=>?_
         have e93:a.eval (.tmp 93) = .pointer (some ⟨b,0,none⟩):=hn 3 (by decide) 93 rfl
         have e94:a.eval (.tmp 94) = .int .i64 key:=hn 4 (by decide) 94 rfl
         have e96:a.eval (.tmp 96) = .int .u64 n:=hn 6 (by decide) 96 rfl
         have e101:a.eval (.tmp 101) = .int .i64 xh:=hn 11 (by decide) 101 rfl
         have e102:a.eval (.tmp 102) = .int .i64 c:=hn 12 (by decide) 102 rfl
         have ef:a.eval (.func 69) = .func (.func 69) #[] #[]:=rfl
         refine hold_callB (b:=19) (f:=69) (args:=#[.pointer (some ⟨b,0,none⟩),.int .i64 key,.int .u64 n,.int .i64 xh,.int .i64 c]) (by clear hn hr hK hH; generalize a.eval = ρ at *; simp [execOp,e93,e94,e96,e101,e102,cf69,ef,go_sem]) ?_ hK
         refine (read_calls key n xh c hH).mono fun e2 w2 h=>?_
         rw [HRD.out] at h
         exact ⟨default,h.1,h.2⟩
       refine .cons (pN 13 103 rfl fun _=>⟨rfl,rfl⟩) ?_
       refine .cons (pN 14 89 rfl fun _=>⟨rfl,rfl⟩) ?_
       refine .cons (pN 14 89 rfl fun _=>⟨rfl,rfl⟩) ?_
       refine .cons (pN 15 104 rfl fun _=>⟨rfl,rfl⟩) ?_
       refine .cons (pN 16 105 rfl fun _=>⟨rfl,rfl⟩) ?_
       exact trivial
      case done12_4 =>
       intro f w9 g9 hv h9
       have er15:f 15 = .string txt:=hv 17 15 rfl
       have er14:f 14 = .int .i64 er2:=hv 18 14 rfl
       have hd:Hd W w9 (Sto b Lx m::Blk (w1.heap.size + 1) (.cells #[.int .i64 ik',.int .i64 ie',.int .u64 nx',.int .u64 bt',.slice ad es'.length cap] 146 (0,0))::Blk p (.cells #[.int .i64 ok,.int .i64 oe,.int .i64 sent,.int .i64 ik,.int .i64 ie,.int .u64 nx,.int .u64 bt,.slice ad es'.length cap,.pointer (some ⟨b,0,none⟩),.int .i64 xh,.int .i64 xs,.int .i64 xr,.int .i64 xv] 148 (0,0))::CaR (.slice ad es'.length cap) es'::Rs):=h9
       clear hv h9 cf69
       clear g9
       simp only [patchG,Nat.reduceAdd,Nat.reduceLeDiff,decide_true,decide_false,Bool.and_true,Bool.and_false,Bool.or_true,Bool.or_false,cond_true,cond_false,er15,er14]
       clear er15 er14
       clear H HRD
       have H:=hid hd
       clear hd
       go_wp2_with fail
       refine bodyPost_ret (v:=.tuple #[.string ⟨#[]⟩,.int .i64 er2]) (by simp [results,Try.results41,go_sem]) rfl ⟨ad,cap,rfl,?_⟩
       exact H.out.un2
 · rw [if_neg h1] at hq
   simp only [Prod.mk.injEq] at hq
   obtain ⟨⟨rfl,rfl⟩,rfl,rfl⟩:=hq
   have g1:(er1 != 0) = true:=by rw [bne_iff_ne]; exact h1
   have g2:decide (er1 = 0) = false:=by simpa using h1
   skip
   clear h1
   go_enter Try.func41,Try.ntmps41
   have hk:=Hd.nthk 1 H.out rfl
   obtain ⟨g0,g1,g2,g3,g4,g5,g6,g7,g8,g9,g10,g11,g12⟩:=cells13 hk
   have gs:=(Array.getElem?_eq_some_iff.1 hk).1
   clear hk
   go_wp2_with fail
   refine (get_c c H.out).mono ?_
   rw [HTT.out,HGB.out]
   simp only [T.val]
   rintro e2 w1 ⟨rfl,h1⟩
   clear H g0 g1 g2 g3 g4 g5 g6 g7 g8 g9 g10 g11 g12 gs HTT HGB
   have H:=hid (h1.al (o:=.cells #[.int .i64 tk,.string ts,.int .u64 tn,.int .i64 ta,.int .i64 tb,.int .i64 tc] 47 (0,0)))
   clear h1
   have hk:=Hd.nthk 1 H.out rfl
   obtain ⟨g0,g1,g2,g3,g4,g5,g6,g7,g8,g9,g10,g11,g12⟩:=cells13 hk
   have gs:=(Array.getElem?_eq_some_iff.1 hk).1
   clear hk
   go_wp2_with fail
   have HB:=hid (H.out.bxk (w1.heap.size + 1) (by simp) (o:=.cells #[.int .i64 ik,.int .i64 ie,.int .u64 nx,.int .u64 bt,.slice ad es'.length cap] 146 (0,0)))
   clear H g0 g1 g2 g3 g4 g5 g6 g7 g8 g9 g10 g11 g12 gs
   have H:=HB
   clear HB
   have e2:=hid e1
   clear e2
   have hk:=Hd.nthk 1 H.out rfl
   have c0:=(cell_of_heap hk 0).trans (show _ = some (.int .i64 ik) from rfl)
   have c1:=(cell_of_heap hk 1).trans (show _ = some (.int .i64 ie) from rfl)
   have c2:=(cell_of_heap hk 2).trans (show _ = some (.int .u64 nx) from rfl)
   have c3:=(cell_of_heap hk 3).trans (show _ = some (.int .u64 bt) from rfl)
   have c4:=(cell_of_heap hk 4).trans (show _ = some (.slice ad es'.length cap) from rfl)
   have cs:=(Array.getElem?_eq_some_iff.1 hk).1
   clear hk
   go_wp2_with fail
   clear c0 c1 c2 c3 c4 cs
   have cf66:∀ args w,(callFunc 66 args).run Try.prog w = .ok (.enter 66 args) w:=fun args w=>by kernel_rfl
   refine hold_coreB (P:=Try.prog) (W:=W) (Rs:=(Blk p (.cells #[.int .i64 ok,.int .i64 oe,.int .i64 sent,.int .i64 ik,.int .i64 ie,.int .u64 nx,.int .u64 bt,.slice ad es'.length cap,.pointer (some ⟨b,0,none⟩),.int .i64 xh,.int .i64 xs,.int .i64 xr,.int .i64 xv] 148 (0,0))::CaR (.slice ad es'.length cap) es'::Rs)) [[],[],[1],[2],[3],[],[0,4,5],[6],[7],[7],[7],[0,8],[9],[10]] [[],[],[],[],[],[],[],[],[],[],[],[],[],[]] ([some 58,some 59,some 60,some 61,some 62,some 63,some 64,some 57,some 65,some 66,some 67,none,some 13,some 14]:List (Option Nat)) ([none,none,none,none,none,none,none,none,none,none,none,none,none,none,some 6,some 11]:List (Option Nat)) ((fun _=>.agg #[.int .i64 ik,.int .i64 ie,.int .u64 nx,.int .u64 bt,.slice ad es'.length cap])::(fun _=>pt p 0)::(fun _=>pt p 0)::(fun _=>pt p 8)::(fun _=>pt b 0)::(fun _=>.int .i64 n)::(fun _=>.tuple #[.agg #[.int .i64 ik',.int .i64 ie',.int .u64 nx',.int .u64 bt',.slice ad es'.length cap],.int .i64 key,.int .i64 er1])::(fun _=>.tuple #[.agg #[.int .i64 ik',.int .i64 ie',.int .u64 nx',.int .u64 bt',.slice ad es'.length cap],.int .i64 key,.int .i64 er1])::(fun _=>.agg #[.int .i64 ik',.int .i64 ie',.int .u64 nx',.int .u64 bt',.slice ad es'.length cap])::(fun _=>.int .i64 key)::(fun _=>.int .i64 er1)::(fun _=>undef)::(fun _=>.int .i64 key)::(fun _=>.int .i64 er1)::[]) (zR::zR::zR::zR::zR::zR::zR::zR::zR::zR::zR::zR::zR::zR::(fun _=>[Sto b L m])::(fun _=>[Blk (w1.heap.size + 1) (.cells #[.int .i64 ik,.int .i64 ie,.int .u64 nx,.int .u64 bt,.slice ad es'.length cap] 146 (0,0))])::([]:List (List Gh → List Res))) (zR::zR::zR::zR::zR::zR::zR::zR::zR::zR::zR::zR::zR::zR::(fun _=>[Sto b Lx m])::(fun _=>[Blk (w1.heap.size + 1) (.cells #[.int .i64 ik',.int .i64 ie',.int .u64 nx',.int .u64 bt',.slice ad es'.length cap] 146 (0,0))])::([]:List (List Gh → List Res))) (by kernel_rfl) rfl (hold_lt (n:=114) (by decide)) H.out rfl (by decide) (hold_nil (fs:=[6,11]) trivial rfl ?nil7_5) ?gd7_5 ?step7_5 (fun t=>(decide (13 ≤ t) && decide (t ≤ 14)) || (decide (57 ≤ t) && decide (t ≤ 67))) (by decide) ?done7_5 (fun I h0 st dn=>run_wpB mixed I h0 st dn)
   case nil7_5 =>
    intro s gs hs
    simp only [List.mem_cons,List.not_mem_nil,or_false] at hs
    rcases hs with rfl | rfl <;> rfl
   case gd7_5 =>
    repeat (refine StepAll.cons (by first | exact trivial | exact fun g=>rfl) ?_)
    exact trivial
   case step7_5 =>
    refine StepAll.cons ?_ ?_
    · refine HoldStepB.val (by decide) fun a wx γ hn hr hres hpre Ss hH K hK=>?_
      have e12:a.eval (.tmp 12) = .pointer (some ⟨(w1.heap.size + 1),0,none⟩):=(hr 12 (by decide)).trans rfl
      obtain ⟨Zs,hB⟩:=hpre 15 11 rfl (by decide) (by decide)
      have hk:=(show Hd W wx (Blk (w1.heap.size + 1) (.cells #[.int .i64 ik,.int .i64 ie,.int .u64 nx,.int .u64 bt,.slice ad es'.length cap] 146 (0,0))::Zs) from hB).blk
      have c0:=(cell_of_heap hk 0).trans (show _ = some (.int .i64 ik) from rfl)
      have c1:=(cell_of_heap hk 1).trans (show _ = some (.int .i64 ie) from rfl)
      have c2:=(cell_of_heap hk 2).trans (show _ = some (.int .u64 nx) from rfl)
      have c3:=(cell_of_heap hk 3).trans (show _ = some (.int .u64 bt) from rfl)
      have c4:=(cell_of_heap hk 4).trans (show _ = some (.slice ad es'.length cap) from rfl)
      clear hk
      exact hold_run (v:=.agg #[.int .i64 ik,.int .i64 ie,.int .u64 nx,.int .u64 bt,.slice ad es'.length cap]) (by clear hn hr hK; generalize a.eval = ρ at *; simp [execOp,e12,c0,c1,c2,c3,c4,go_sem]) rfl rfl hH hK
    refine .cons (pR 0 rfl fun _=>⟨rfl,rfl⟩) ?_
    refine .cons (pN 1 59 rfl fun _=>⟨rfl,rfl⟩) ?_
    refine .cons (pF 2 60 8 rfl rfl (fun b q w=>by simp [go_sem]) fun _=>⟨⟨_,_,rfl,rfl⟩,rfl⟩) ?_
    refine StepAll.cons ?_ ?_
    · refine HoldStepB.val (by decide) fun a wx γ hn hr hres hpre Ss hH K hK=>?_
      have e61:a.eval (.tmp 61) = .pointer (some ⟨p,8,none⟩):=hn 3 (by decide) 61 rfl
      exact hold_run (v:=.pointer (some ⟨b,0,none⟩)) (by clear hn hr hK; generalize a.eval = ρ at *; simp [execOp,e61,cell_of_heap (Hd.nthk 0 hH.rear rfl),go_sem]) rfl rfl hH hK
    refine .cons (pR 2 rfl fun _=>⟨rfl,rfl⟩) ?_
    refine StepAll.cons ?_ ?_
    · refine HoldStepB.fil 14 (by decide) fun a wx γ hn hr hres hpre Ss hH K hK=>?_
      have e58:a.eval (.tmp 58) = .agg #[.int .i64 ik,.int .i64 ie,.int .u64 nx,.int .u64 bt,.slice ad es'.length cap]:=hn 0 (by decide) 58 rfl
      have e62:a.eval (.tmp 62) = .pointer (some ⟨b,0,none⟩):=hn 4 (by decide) 62 rfl
      have e63:a.eval (.tmp 63) = .int .i64 n:=hn 5 (by decide) 63 rfl
      have ef:a.eval (.func 66) = .func (.func 66) #[] #[]:=rfl
      refine hold_callB (b:=14) (f:=66) (args:=#[.agg #[.int .i64 ik,.int .i64 ie,.int .u64 nx,.int .u64 bt,.slice ad es'.length cap],.pointer (some ⟨b,0,none⟩),.int .i64 n]) (by clear hn hr hK hH; generalize a.eval = ρ at *; simp [execOp,e58,e62,e63,cf66,ef,go_sem]) ?_ hK
      exact (now19_calls HX.out.rc.w h0n h255 HR.out hH).mono fun e2 w2 h=>⟨default,h.1,h.2⟩
    refine .cons (pN 6 64 rfl fun _=>⟨rfl,rfl⟩) ?_
    refine .cons (pN 7 57 rfl fun _=>⟨rfl,rfl⟩) ?_
    refine .cons (pN 7 57 rfl fun _=>⟨rfl,rfl⟩) ?_
    refine .cons (pN 7 57 rfl fun _=>⟨rfl,rfl⟩) ?_
    refine StepAll.cons ?_ ?_
    · refine HoldStepB.fil 15 (by decide) fun a wx γ hn hr hres hpre Ss hH K hK=>?_
      have e12:a.eval (.tmp 12) = .pointer (some ⟨(w1.heap.size + 1),0,none⟩):=(hr 12 (by decide)).trans rfl
      have e65:a.eval (.tmp 65) = .agg #[.int .i64 ik',.int .i64 ie',.int .u64 nx',.int .u64 bt',.slice ad es'.length cap]:=hn 8 (by decide) 65 rfl
      have hH2:Hd W wx (Blk (w1.heap.size + 1) (.cells #[.int .i64 ik,.int .i64 ie,.int .u64 nx,.int .u64 bt,.slice ad es'.length cap] 146 (0,0))::(Ss ++ (Blk p (.cells #[.int .i64 ok,.int .i64 oe,.int .i64 sent,.int .i64 ik,.int .i64 ie,.int .u64 nx,.int .u64 bt,.slice ad es'.length cap,.pointer (some ⟨b,0,none⟩),.int .i64 xh,.int .i64 xs,.int .i64 xr,.int .i64 xv] 148 (0,0))::CaR (.slice ad es'.length cap) es'::Rs))):=hH
      have hk:=hH2.blk
      have c0:=(cell_of_heap hk 0).trans (show _ = some (.int .i64 ik) from rfl)
      have c1:=(cell_of_heap hk 1).trans (show _ = some (.int .i64 ie) from rfl)
      have c2:=(cell_of_heap hk 2).trans (show _ = some (.int .u64 nx) from rfl)
      have c3:=(cell_of_heap hk 3).trans (show _ = some (.int .u64 bt) from rfl)
      have c4:=(cell_of_heap hk 4).trans (show _ = some (.slice ad es'.length cap) from rfl)
      have cf:=frozen_of_heap hk
      clear hk hH
      exact hold_filB (w':=(((((wx.setCell ⟨(w1.heap.size + 1),0,none⟩ (.int .i64 ik')).setCell ⟨(w1.heap.size + 1),1,none⟩ (.int .i64 ie')).setCell ⟨(w1.heap.size + 1),2,none⟩ (.int .u64 nx')).setCell ⟨(w1.heap.size + 1),3,none⟩ (.int .u64 bt')).setCell ⟨(w1.heap.size + 1),4,none⟩ (.slice ad es'.length cap))) (by clear hn hr hK hH2; generalize a.eval = ρ at *; simp [execOp,e12,e65,c0,c1,c2,c3,c4,cf,go_sem]) rfl rfl (((((hH2.set 0 (.int .i64 ik')).set 1 (.int .i64 ie')).set 2 (.int .u64 nx')).set 3 (.int .u64 bt')).set 4 (.slice ad es'.length cap)) hK
    refine .cons (pN 9 66 rfl fun _=>⟨rfl,rfl⟩) ?_
    refine .cons (pN 10 67 rfl fun _=>⟨rfl,rfl⟩) ?_
    exact trivial
   case done7_5 =>
    intro f w9 g9 hv h9
    have er13:f 13 = .int .i64 key:=hv 12 13 rfl
    have er14:f 14 = .int .i64 er1:=hv 13 14 rfl
    have hd:Hd W w9 (Sto b Lx m::Blk (w1.heap.size + 1) (.cells #[.int .i64 ik',.int .i64 ie',.int .u64 nx',.int .u64 bt',.slice ad es'.length cap] 146 (0,0))::Blk p (.cells #[.int .i64 ok,.int .i64 oe,.int .i64 sent,.int .i64 ik,.int .i64 ie,.int .u64 nx,.int .u64 bt,.slice ad es'.length cap,.pointer (some ⟨b,0,none⟩),.int .i64 xh,.int .i64 xs,.int .i64 xr,.int .i64 xv] 148 (0,0))::CaR (.slice ad es'.length cap) es'::Rs):=h9
    clear hv h9 cf66
    clear g9
    simp only [patchG,Nat.reduceAdd,Nat.reduceLeDiff,decide_true,decide_false,Bool.and_true,Bool.and_false,Bool.or_true,Bool.or_false,cond_true,cond_false,er13,er14]
    clear er13 er14
    clear H HR
    have H:=hid hd
    clear hd
    go_wp2_with fail
    refine bodyPost_ret (v:=.tuple #[.string ⟨#[]⟩,.int .i64 er1]) (by simp [results,Try.results41,go_sem]) rfl ⟨ad,cap,rfl,?_⟩
    exact H.out.un2

set_option maxRecDepth 100000 in
set_option maxHeartbeats 16000000 in
theorem open19_ago {ok oe sent ik ie nx bt xh xs xr xv e n c:Int} {es:List En} {x':Se} {s:ByteArray} {er:Int} {ad:Option Addr} {cap:Nat} (hx:SeOk ⟨ok,oe,sent,⟨ik,ie,nx,bt,es⟩,xh,xs,xr,xv⟩) (_be : -9223372036854775808 ≤ e) (_be':e ≤ 9223372036854775807) (_bn : -9223372036854775808 ≤ n) (_bn':n ≤ 9223372036854775807) (hok:getB L c = true ∧ 0 ≤ e ∧ 0 ≤ n ∧ n < 256) (hie:e < ie) (hq:open19 m L ⟨ok,oe,sent,⟨ik,ie,nx,bt,es⟩,xh,xs,xr,xv⟩ e n c = ((s,er),x',L2)) (h:Hd W w (Sto b L m::Blk p (seO b ⟨ok,oe,sent,⟨ik,ie,nx,bt,es⟩,xh,xs,xr,xv⟩ (.slice ad es.length cap))::CaR (.slice ad es.length cap) es::Rs)) :
 Calls Try.prog 41 #[.pointer (some ⟨p,0,none⟩),.int .i64 e,.int .i64 n,.int .i64 c] w fun e' w'=>∃ ad' cap',e' = .returned (.tuple #[.string s,.int .i64 er]) ∧ Hd W w' (Sto b L2 m::Blk p (seO b x' (.slice ad' x'.rc.es.length cap'))::CaR (.slice ad' x'.rc.es.length cap') x'.rc.es::Rs):=by
 have mixed:Try.prog.follows .mixedOrders = true:=by kernel_rfl
 have H:Hid (Hd W w (Sto b L m::Blk p (.cells #[.int .i64 ok,.int .i64 oe,.int .i64 sent,.int .i64 ik,.int .i64 ie,.int .u64 nx,.int .u64 bt,.slice ad es.length cap,.pointer (some ⟨b,0,none⟩),.int .i64 xh,.int .i64 xs,.int .i64 xr,.int .i64 xv] 148 (0,0))::CaR (.slice ad es.length cap) es::Rs)):=hid h
 have HX:=hid hx
 clear h hx
 obtain ⟨⟨tk,ts,tn,ta,tb,tc⟩,htt⟩:∃ t,getT L c = t:=⟨_,rfl⟩
 have HTT:=hid htt
 clear htt
 obtain ⟨hg,h0e,h0n,h1n⟩:=hok
 unfold open19 at hq
 rw [if_pos ⟨hg,h0e,h0n,h1n⟩] at hq
 dsimp only at hq
 have HGB:=hid hg
 have d1:decide (e < 0) = false:=by simp; omega
 have d2:decide (n < 0) = false:=by simp; omega
 have d3:decide (256 ≤ n) = false:=by simp; omega
 have zcv:IntKind.u64.wrap n = n:=IntWalk.u64_in _ (by omega)
 have h255:n ≤ 255:=by omega
 clear hg h1n
 unfold recv19 at hq
 dsimp only at hq
 rw [if_neg (show ¬ e = ie by omega),if_neg (show ¬ ie < e by omega)] at hq
 obtain ⟨⟨⟨ik',ie',nx',bt',es'⟩,key,er1⟩,hr⟩:∃ t,ago19 ⟨ik,ie,nx,bt,es⟩ e n = t:=⟨_,rfl⟩
 rw [hr] at hq
 dsimp only at hq
 have HR:=hid hr
 have e1:(e == ie) = false:=by simp; omega
 have e2:decide (ie < e) = false:=by simp; omega
 clear hr hie
 obtain ⟨Lx,hLx⟩:∃ Lx,L = Lx:=⟨_,rfl⟩
 subst hLx
 by_cases h1:er1 = 0
 · subst h1
   rw [if_pos rfl] at hq
   obtain ⟨⟨txt,er2⟩,hrd⟩:∃ t,read5 L key n xh c = t:=⟨_,rfl⟩
   rw [hrd] at hq
   dsimp only at hq
   have HRD:=hid hrd
   clear hrd
   by_cases h2:er2 = 0
   · subst h2
     rw [if_pos rfl] at hq
     simp only [Prod.mk.injEq] at hq
     obtain ⟨⟨rfl,rfl⟩,rfl,rfl⟩:=hq
     dsimp only
     go_enter Try.func41,Try.ntmps41
     have hk:=Hd.nthk 1 H.out rfl
     obtain ⟨g0,g1,g2,g3,g4,g5,g6,g7,g8,g9,g10,g11,g12⟩:=cells13 hk
     have gs:=(Array.getElem?_eq_some_iff.1 hk).1
     clear hk
     go_wp2_with fail
     refine (get_c c H.out).mono ?_
     rw [HTT.out,HGB.out]
     simp only [T.val]
     rintro e2 w1 ⟨rfl,h1⟩
     clear H g0 g1 g2 g3 g4 g5 g6 g7 g8 g9 g10 g11 g12 gs HTT HGB
     have H:=hid (h1.al (o:=.cells #[.int .i64 tk,.string ts,.int .u64 tn,.int .i64 ta,.int .i64 tb,.int .i64 tc] 47 (0,0)))
     clear h1
     have hk:=Hd.nthk 1 H.out rfl
     obtain ⟨g0,g1,g2,g3,g4,g5,g6,g7,g8,g9,g10,g11,g12⟩:=cells13 hk
     have gs:=(Array.getElem?_eq_some_iff.1 hk).1
     clear hk
     go_wp2_with fail
     have HB:=hid (H.out.bxk (w1.heap.size + 1) (by simp) (o:=.cells #[.int .i64 ik,.int .i64 ie,.int .u64 nx,.int .u64 bt,.slice ad es.length cap] 146 (0,0)))
     clear H g0 g1 g2 g3 g4 g5 g6 g7 g8 g9 g10 g11 g12 gs
     have H:=HB
     clear HB
     have hk:=Hd.nthk 1 H.out rfl
     have c0:=(cell_of_heap hk 0).trans (show _ = some (.int .i64 ik) from rfl)
     have c1:=(cell_of_heap hk 1).trans (show _ = some (.int .i64 ie) from rfl)
     have c2:=(cell_of_heap hk 2).trans (show _ = some (.int .u64 nx) from rfl)
     have c3:=(cell_of_heap hk 3).trans (show _ = some (.int .u64 bt) from rfl)
     have c4:=(cell_of_heap hk 4).trans (show _ = some (.slice ad es.length cap) from rfl)
     have cs:=(Array.getElem?_eq_some_iff.1 hk).1
     have cf:=frozen_of_heap hk
     clear hk
     go_wp2_with fail
     refine (ago19_calls HX.out.rc h0n h255 HR.out (((((H.out.front 2 rfl).front 2 rfl).front 2 rfl).front 3 rfl))).mono ?_
     rintro e2 w2 ⟨adN,capN,rfl,h1,_⟩
     have h2:=h1 rfl
     clear H HR h1 c0 c1 c2 c3 c4 cs cf
     have H:=hid ((((((h2.front 1 rfl).front 1 rfl).front 4 rfl).front 4 rfl).front 4 rfl))
     clear h2
     have hk:=Hd.nthk 1 H.out rfl
     have c0:=(cell_of_heap hk 0).trans (show _ = some (.int .i64 ik) from rfl)
     have c1:=(cell_of_heap hk 1).trans (show _ = some (.int .i64 ie) from rfl)
     have c2:=(cell_of_heap hk 2).trans (show _ = some (.int .u64 nx) from rfl)
     have c3:=(cell_of_heap hk 3).trans (show _ = some (.int .u64 bt) from rfl)
     have c4:=(cell_of_heap hk 4).trans (show _ = some (.slice ad es.length cap) from rfl)
     have cs:=(Array.getElem?_eq_some_iff.1 hk).1
     have cf:=frozen_of_heap hk
     clear hk
     go_wp2_with fail
     clear c0 c1 c2 c3 c4 cs cf
     have HB:=hid ((((((((((((((((H.out.front 4 rfl).front 4 rfl).front 4 rfl).front 3 rfl).front 4 rfl).set 0 (.int .i64 ik')).set 1 (.int .i64 ie')).set 2 (.int .u64 nx')).set 3 (.int .u64 bt')).set 4 (.slice adN es'.length capN)).front 4 rfl).front 4 rfl).front 4 rfl).front 3 rfl).front 4 rfl))
     clear H
     have H:=HB
     clear HB
     have cf69:∀ args w,(callFunc 69 args).run Try.prog w = .ok (.enter 69 args) w:=fun args w=>by kernel_rfl
     refine hold_coreB (P:=Try.prog) (W:=W) (Rs:=(Blk (w1.heap.size + 1) (.cells #[.int .i64 ik',.int .i64 ie',.int .u64 nx',.int .u64 bt',.slice adN es'.length capN] 146 (0,0))::Blk p (.cells #[.int .i64 ok,.int .i64 oe,.int .i64 sent,.int .i64 ik,.int .i64 ie,.int .u64 nx,.int .u64 bt,.slice ad es.length cap,.pointer (some ⟨b,0,none⟩),.int .i64 xh,.int .i64 xs,.int .i64 xr,.int .i64 xv] 148 (0,0))::CaR (.slice adN es'.length capN) es'::CaR (.slice ad es.length cap) es::Rs)) [[],[0],[1],[2],[],[],[5],[],[7],[8],[9],[10],[],[3,4,6,11,12],[13],[14],[14],[15],[16]] [[],[],[],[],[],[],[],[],[],[],[],[],[],[],[],[],[],[],[]] ([some 90,some 91,some 92,some 93,some 94,some 95,some 96,some 97,some 98,some 99,some 100,some 101,some 102,some 103,some 89,some 104,some 105,some 15,some 14]:List (Option Nat)) ([none,none,none,none,none,none,none,none,none,none,none,none,none,none,none,none,none,none,none,some 13]:List (Option Nat)) ((fun _=>pt p 0)::(fun _=>pt p 0)::(fun _=>pt p 8)::(fun _=>pt b 0)::(fun _=>.int .i64 key)::(fun _=>.int .i64 n)::(fun _=>.int .u64 n)::(fun _=>pt p 0)::(fun _=>pt p 0)::(fun _=>pt p 9)::(fun _=>pt p 9)::(fun _=>.int .i64 xh)::(fun _=>.int .i64 c)::(fun _=>.tuple #[.string txt,.int .i64 0])::(fun _=>.tuple #[.string txt,.int .i64 0])::(fun _=>.string txt)::(fun _=>.int .i64 0)::(fun _=>.string txt)::(fun _=>.int .i64 0)::[]) (zR::zR::zR::zR::zR::zR::zR::zR::zR::zR::zR::zR::zR::zR::zR::zR::zR::zR::zR::(fun _=>[Sto b L m])::([]:List (List Gh → List Res))) (zR::zR::zR::zR::zR::zR::zR::zR::zR::zR::zR::zR::zR::zR::zR::zR::zR::zR::zR::(fun _=>[Sto b L m])::([]:List (List Gh → List Res))) (by kernel_rfl) rfl (hold_lt (n:=114) (by decide)) H.out rfl (by decide) (hold_nil (fs:=[13]) trivial rfl ?nil12_7) ?gd12_7 ?step12_7 (fun t=>(decide (14 ≤ t) && decide (t ≤ 15)) || (decide (89 ≤ t) && decide (t ≤ 105))) (by decide) ?done12_7 (fun I h0 st dn=>run_wpB mixed I h0 st dn)
     case nil12_7 =>
      intro s gs hs
      simp only [List.mem_cons,List.not_mem_nil,or_false] at hs
      subst hs; rfl
     case gd12_7 =>
      repeat (refine StepAll.cons (by first | exact trivial | exact fun g=>rfl) ?_)
      exact trivial
     case step12_7 =>
      refine .cons (pR 0 rfl fun _=>⟨rfl,rfl⟩) ?_
      refine .cons (pN 0 90 rfl fun _=>⟨rfl,rfl⟩) ?_
      refine .cons (pF 1 91 8 rfl rfl (fun b q w=>by simp [go_sem]) fun _=>⟨⟨_,_,rfl,rfl⟩,rfl⟩) ?_
      refine StepAll.cons ?_ ?_
      · refine HoldStepB.val (by decide) fun a wx γ hn hr hres hpre Ss hH K hK=>?_
        have e92:a.eval (.tmp 92) = .pointer (some ⟨p,8,none⟩):=hn 2 (by decide) 92 rfl
        exact hold_run (v:=.pointer (some ⟨b,0,none⟩)) (by clear hn hr hK; generalize a.eval = ρ at *; simp [execOp,e92,cell_of_heap (Hd.nthk 1 hH.rear rfl),go_sem]) rfl rfl hH hK
      refine .cons (pR 13 rfl fun _=>⟨rfl,rfl⟩) ?_
      refine .cons (pR 2 rfl fun _=>⟨rfl,rfl⟩) ?_
      refine StepAll.cons ?_ ?_
      · refine HoldStepB.val (by decide) fun a wx γ hn hr hres hpre Ss hH K hK=>?_
        have e95:a.eval (.tmp 95) = .int .i64 n:=hn 5 (by decide) 95 rfl
        exact hold_run (v:=.int .u64 n) (by clear hn hr hK; generalize a.eval = ρ at *; simp [execOp,e95,zcv,go_sem]) rfl rfl hH hK
      refine .cons (pR 0 rfl fun _=>⟨rfl,rfl⟩) ?_
      refine .cons (pN 7 97 rfl fun _=>⟨rfl,rfl⟩) ?_
      refine .cons (pF 8 98 9 rfl rfl (fun b q w=>by simp [go_sem]) fun _=>⟨⟨_,_,rfl,rfl⟩,rfl⟩) ?_
      refine .cons (pF 9 99 0 rfl rfl (fun b q w=>by simp [go_sem]) fun _=>⟨⟨_,_,rfl,rfl⟩,rfl⟩) ?_
      refine StepAll.cons ?_ ?_
      · refine HoldStepB.val (by decide) fun a wx γ hn hr hres hpre Ss hH K hK=>?_
        have e100:a.eval (.tmp 100) = .pointer (some ⟨p,9,none⟩):=hn 10 (by decide) 100 rfl
        exact hold_run (v:=.int .i64 xh) (by clear hn hr hK; generalize a.eval = ρ at *; simp [execOp,e100,cell_of_heap (Hd.nthk 1 hH.rear rfl),go_sem]) rfl rfl hH hK
      refine .cons (pR 3 rfl fun _=>⟨rfl,rfl⟩) ?_
      refine StepAll.cons ?_ ?_
      · refine HoldStepB.fil 19 (by decide) fun a wx γ hn hr hres hpre Ss hH K hK=>?_
        have e93:a.eval (.tmp 93) = .pointer (some ⟨b,0,none⟩):=hn 3 (by decide) 93 rfl
        have e94:a.eval (.tmp 94) = .int .i64 key:=hn 4 (by decide) 94 rfl
        have e96:a.eval (.tmp 96) = .int .u64 n:=hn 6 (by decide) 96 rfl
        have e101:a.eval (.tmp 101) = .int .i64 xh:=hn 11 (by decide) 101 rfl
        have e102:a.eval (.tmp 102) = .int .i64 c:=hn 12 (by decide) 102 rfl
        have ef:a.eval (.func 69) = .func (.func 69) #[] #[]:=rfl
        refine hold_callB (b:=19) (f:=69) (args:=#[.pointer (some ⟨b,0,none⟩),.int .i64 key,.int .u64 n,.int .i64 xh,.int .i64 c]) (by clear hn hr hK hH; generalize a.eval = ρ at *; simp [execOp,e93,e94,e96,e101,e102,cf69,ef,go_sem]) ?_ hK
        refine (read_calls key n xh c hH).mono fun e2 w2 h=>?_
        rw [HRD.out] at h
        exact ⟨default,h.1,h.2⟩
      refine .cons (pN 13 103 rfl fun _=>⟨rfl,rfl⟩) ?_
      refine .cons (pN 14 89 rfl fun _=>⟨rfl,rfl⟩) ?_
      refine .cons (pN 14 89 rfl fun _=>⟨rfl,rfl⟩) ?_
      refine .cons (pN 15 104 rfl fun _=>⟨rfl,rfl⟩) ?_
      refine .cons (pN 16 105 rfl fun _=>⟨rfl,rfl⟩) ?_
      exact trivial
     case done12_7 =>
      intro f w9 g9 hv h9
      have er15:f 15 = .string txt:=hv 17 15 rfl
      have er14:f 14 = .int .i64 0:=hv 18 14 rfl
      have hd:Hd W w9 (Sto b L m::Blk (w1.heap.size + 1) (.cells #[.int .i64 ik',.int .i64 ie',.int .u64 nx',.int .u64 bt',.slice adN es'.length capN] 146 (0,0))::Blk p (.cells #[.int .i64 ok,.int .i64 oe,.int .i64 sent,.int .i64 ik,.int .i64 ie,.int .u64 nx,.int .u64 bt,.slice ad es.length cap,.pointer (some ⟨b,0,none⟩),.int .i64 xh,.int .i64 xs,.int .i64 xr,.int .i64 xv] 148 (0,0))::CaR (.slice adN es'.length capN) es'::CaR (.slice ad es.length cap) es::Rs):=h9
      clear hv h9 cf69
      clear g9
      simp only [patchG,Nat.reduceAdd,Nat.reduceLeDiff,decide_true,decide_false,Bool.and_true,Bool.and_false,Bool.or_true,Bool.or_false,cond_true,cond_false,er15,er14]
      clear er15 er14
      clear H HRD
      have H:=hid hd
      clear hd
      have hk:=Hd.nthk 1 H.out rfl
      have c0:=(cell_of_heap hk 0).trans (show _ = some (.int .i64 ik') from rfl)
      have c1:=(cell_of_heap hk 1).trans (show _ = some (.int .i64 ie') from rfl)
      have c2:=(cell_of_heap hk 2).trans (show _ = some (.int .u64 nx') from rfl)
      have c3:=(cell_of_heap hk 3).trans (show _ = some (.int .u64 bt') from rfl)
      have c4:=(cell_of_heap hk 4).trans (show _ = some (.slice adN es'.length capN) from rfl)
      have cs:=(Array.getElem?_eq_some_iff.1 hk).1
      clear hk
      have hk:=Hd.nthk 2 H.out rfl
      obtain ⟨g0,g1,g2,g3,g4,g5,g6,g7,g8,g9,g10,g11,g12⟩:=cells13 hk
      have gs:=(Array.getElem?_eq_some_iff.1 hk).1
      have gf:=frozen_of_heap hk
      clear hk
      go_wp2_with fail
      refine bodyPost_ret (v:=.tuple #[.string txt,.int .i64 0]) (by simp [results,Try.results41,go_sem]) rfl ⟨adN,capN,rfl,?_⟩
      exact (((((((((((((((H.out.front 4 rfl).front 4 rfl).front 3 rfl).front 3 rfl).front 4 rfl).set 3 (.int .i64 ik')).set 4 (.int .i64 ie')).set 5 (.int .u64 nx')).set 6 (.int .u64 bt')).set 7 (.slice adN es'.length capN)).front 3 rfl).front 1 rfl).front 2 rfl).front 4 rfl).front 4 rfl).drop.drop
   · rw [if_neg h2] at hq
     simp only [Prod.mk.injEq] at hq
     obtain ⟨⟨rfl,rfl⟩,rfl,rfl⟩:=hq
     have g1:(er2 != 0) = true:=by rw [bne_iff_ne]; exact h2
     have g2:decide (er2 = 0) = false:=by simpa using h2
     clear h2
     go_enter Try.func41,Try.ntmps41
     have hk:=Hd.nthk 1 H.out rfl
     obtain ⟨g0,g1,g2,g3,g4,g5,g6,g7,g8,g9,g10,g11,g12⟩:=cells13 hk
     have gs:=(Array.getElem?_eq_some_iff.1 hk).1
     clear hk
     go_wp2_with fail
     refine (get_c c H.out).mono ?_
     rw [HTT.out,HGB.out]
     simp only [T.val]
     rintro e2 w1 ⟨rfl,h1⟩
     clear H g0 g1 g2 g3 g4 g5 g6 g7 g8 g9 g10 g11 g12 gs HTT HGB
     have H:=hid (h1.al (o:=.cells #[.int .i64 tk,.string ts,.int .u64 tn,.int .i64 ta,.int .i64 tb,.int .i64 tc] 47 (0,0)))
     clear h1
     have hk:=Hd.nthk 1 H.out rfl
     obtain ⟨g0,g1,g2,g3,g4,g5,g6,g7,g8,g9,g10,g11,g12⟩:=cells13 hk
     have gs:=(Array.getElem?_eq_some_iff.1 hk).1
     clear hk
     go_wp2_with fail
     have HB:=hid (H.out.bxk (w1.heap.size + 1) (by simp) (o:=.cells #[.int .i64 ik,.int .i64 ie,.int .u64 nx,.int .u64 bt,.slice ad es.length cap] 146 (0,0)))
     clear H g0 g1 g2 g3 g4 g5 g6 g7 g8 g9 g10 g11 g12 gs
     have H:=HB
     clear HB
     have hk:=Hd.nthk 1 H.out rfl
     have c0:=(cell_of_heap hk 0).trans (show _ = some (.int .i64 ik) from rfl)
     have c1:=(cell_of_heap hk 1).trans (show _ = some (.int .i64 ie) from rfl)
     have c2:=(cell_of_heap hk 2).trans (show _ = some (.int .u64 nx) from rfl)
     have c3:=(cell_of_heap hk 3).trans (show _ = some (.int .u64 bt) from rfl)
     have c4:=(cell_of_heap hk 4).trans (show _ = some (.slice ad es.length cap) from rfl)
     have cs:=(Array.getElem?_eq_some_iff.1 hk).1
     have cf:=frozen_of_heap hk
     clear hk
     go_wp2_with fail
     refine (ago19_calls HX.out.rc h0n h255 HR.out (((((H.out.front 2 rfl).front 2 rfl).front 2 rfl).front 3 rfl))).mono ?_
     rintro e2 w2 ⟨adN,capN,rfl,h1,_⟩
     have h2:=h1 rfl
     clear H HR h1 c0 c1 c2 c3 c4 cs cf
     have H:=hid ((((((h2.front 1 rfl).front 1 rfl).front 4 rfl).front 4 rfl).front 4 rfl))
     clear h2
     have hk:=Hd.nthk 1 H.out rfl
     have c0:=(cell_of_heap hk 0).trans (show _ = some (.int .i64 ik) from rfl)
     have c1:=(cell_of_heap hk 1).trans (show _ = some (.int .i64 ie) from rfl)
     have c2:=(cell_of_heap hk 2).trans (show _ = some (.int .u64 nx) from rfl)
     have c3:=(cell_of_heap hk 3).trans (show _ = some (.int .u64 bt) from rfl)
     have c4:=(cell_of_heap hk 4).trans (show _ = some (.slice ad es.length cap) from rfl)
     have cs:=(Array.getElem?_eq_some_iff.1 hk).1
     have cf:=frozen_of_heap hk
     clear hk
     go_wp2_with fail
     clear c0 c1 c2 c3 c4 cs cf
     have HB:=hid ((((((((((((((((H.out.front 4 rfl).front 4 rfl).front 4 rfl).front 3 rfl).front 4 rfl).set 0 (.int .i64 ik')).set 1 (.int .i64 ie')).set 2 (.int .u64 nx')).set 3 (.int .u64 bt')).set 4 (.slice adN es'.length capN)).front 4 rfl).front 4 rfl).front 4 rfl).front 3 rfl).front 4 rfl))
     clear H
     have H:=HB
     clear HB
     have cf69:∀ args w,(callFunc 69 args).run Try.prog w = .ok (.enter 69 args) w:=fun args w=>by kernel_rfl
     refine hold_coreB (P:=Try.prog) (W:=W) (Rs:=(Blk (w1.heap.size + 1) (.cells #[.int .i64 ik',.int .i64 ie',.int .u64 nx',.int .u64 bt',.slice adN es'.length capN] 146 (0,0))::Blk p (.cells #[.int .i64 ok,.int .i64 oe,.int .i64 sent,.int .i64 ik,.int .i64 ie,.int .u64 nx,.int .u64 bt,.slice ad es.length cap,.pointer (some ⟨b,0,none⟩),.int .i64 xh,.int .i64 xs,.int .i64 xr,.int .i64 xv] 148 (0,0))::CaR (.slice adN es'.length capN) es'::CaR (.slice ad es.length cap) es::Rs)) [[],[0],[1],[2],[],[],[5],[],[7],[8],[9],[10],[],[3,4,6,11,12],[13],[14],[14],[15],[16]] [[],[],[],[],[],[],[],[],[],[],[],[],[],[],[],[],[],[],[]] ([some 90,some 91,some 92,some 93,some 94,some 95,some 96,some 97,some 98,some 99,some 100,some 101,some 102,some 103,some 89,some 104,some 105,some 15,some 14]:List (Option Nat)) ([none,none,none,none,none,none,none,none,none,none,none,none,none,none,none,none,none,none,none,some 13]:List (Option Nat)) ((fun _=>pt p 0)::(fun _=>pt p 0)::(fun _=>pt p 8)::(fun _=>pt b 0)::(fun _=>.int .i64 key)::(fun _=>.int .i64 n)::(fun _=>.int .u64 n)::(fun _=>pt p 0)::(fun _=>pt p 0)::(fun _=>pt p 9)::(fun _=>pt p 9)::(fun _=>.int .i64 xh)::(fun _=>.int .i64 c)::(fun _=>.tuple #[.string txt,.int .i64 er2])::(fun _=>.tuple #[.string txt,.int .i64 er2])::(fun _=>.string txt)::(fun _=>.int .i64 er2)::(fun _=>.string txt)::(fun _=>.int .i64 er2)::[]) (zR::zR::zR::zR::zR::zR::zR::zR::zR::zR::zR::zR::zR::zR::zR::zR::zR::zR::zR::(fun _=>[Sto b L m])::([]:List (List Gh → List Res))) (zR::zR::zR::zR::zR::zR::zR::zR::zR::zR::zR::zR::zR::zR::zR::zR::zR::zR::zR::(fun _=>[Sto b L m])::([]:List (List Gh → List Res))) (by kernel_rfl) rfl (hold_lt (n:=114) (by decide)) H.out rfl (by decide) (hold_nil (fs:=[13]) trivial rfl ?nil12_8) ?gd12_8 ?step12_8 (fun t=>(decide (14 ≤ t) && decide (t ≤ 15)) || (decide (89 ≤ t) && decide (t ≤ 105))) (by decide) ?done12_8 (fun I h0 st dn=>run_wpB mixed I h0 st dn)
     case nil12_8 =>
      intro s gs hs
      simp only [List.mem_cons,List.not_mem_nil,or_false] at hs
      subst hs; rfl
     case gd12_8 =>
      repeat (refine StepAll.cons (by first | exact trivial | exact fun g=>rfl) ?_)
      exact trivial
     case step12_8 =>
      refine .cons (pR 0 rfl fun _=>⟨rfl,rfl⟩) ?_
      refine .cons (pN 0 90 rfl fun _=>⟨rfl,rfl⟩) ?_
      refine .cons (pF 1 91 8 rfl rfl (fun b q w=>by simp [go_sem]) fun _=>⟨⟨_,_,rfl,rfl⟩,rfl⟩) ?_
      refine StepAll.cons ?_ ?_
      · refine HoldStepB.val (by decide) fun a wx γ hn hr hres hpre Ss hH K hK=>?_
        have e92:a.eval (.tmp 92) = .pointer (some ⟨p,8,none⟩):=hn 2 (by decide) 92 rfl
        exact hold_run (v:=.pointer (some ⟨b,0,none⟩)) (by clear hn hr hK; generalize a.eval = ρ at *; simp [execOp,e92,cell_of_heap (Hd.nthk 1 hH.rear rfl),go_sem]) rfl rfl hH hK
      refine .cons (pR 13 rfl fun _=>⟨rfl,rfl⟩) ?_
      refine .cons (pR 2 rfl fun _=>⟨rfl,rfl⟩) ?_
      refine StepAll.cons ?_ ?_
      · refine HoldStepB.val (by decide) fun a wx γ hn hr hres hpre Ss hH K hK=>?_
        have e95:a.eval (.tmp 95) = .int .i64 n:=hn 5 (by decide) 95 rfl
        exact hold_run (v:=.int .u64 n) (by clear hn hr hK; generalize a.eval = ρ at *; simp [execOp,e95,zcv,go_sem]) rfl rfl hH hK
      refine .cons (pR 0 rfl fun _=>⟨rfl,rfl⟩) ?_
      refine .cons (pN 7 97 rfl fun _=>⟨rfl,rfl⟩) ?_
      refine .cons (pF 8 98 9 rfl rfl (fun b q w=>by simp [go_sem]) fun _=>⟨⟨_,_,rfl,rfl⟩,rfl⟩) ?_
      refine .cons (pF 9 99 0 rfl rfl (fun b q w=>by simp [go_sem]) fun _=>⟨⟨_,_,rfl,rfl⟩,rfl⟩) ?_
      refine StepAll.cons ?_ ?_
      · refine HoldStepB.val (by decide) fun a wx γ hn hr hres hpre Ss hH K hK=>?_
        have e100:a.eval (.tmp 100) = .pointer (some ⟨p,9,none⟩):=hn 10 (by decide) 100 rfl
        exact hold_run (v:=.int .i64 xh) (by clear hn hr hK; generalize a.eval = ρ at *; simp [execOp,e100,cell_of_heap (Hd.nthk 1 hH.rear rfl),go_sem]) rfl rfl hH hK
      refine .cons (pR 3 rfl fun _=>⟨rfl,rfl⟩) ?_
      refine StepAll.cons ?_ ?_
      · refine HoldStepB.fil 19 (by decide) fun a wx γ hn hr hres hpre Ss hH K hK=>?_
        have e93:a.eval (.tmp 93) = .pointer (some ⟨b,0,none⟩):=hn 3 (by decide) 93 rfl
        have e94:a.eval (.tmp 94) = .int .i64 key:=hn 4 (by decide) 94 rfl
        have e96:a.eval (.tmp 96) = .int .u64 n:=hn 6 (by decide) 96 rfl
        have e101:a.eval (.tmp 101) = .int .i64 xh:=hn 11 (by decide) 101 rfl
        have e102:a.eval (.tmp 102) = .int .i64 c:=hn 12 (by decide) 102 rfl
        have ef:a.eval (.func 69) = .func (.func 69) #[] #[]:=rfl
        refine hold_callB (b:=19) (f:=69) (args:=#[.pointer (some ⟨b,0,none⟩),.int .i64 key,.int .u64 n,.int .i64 xh,.int .i64 c]) (by clear hn hr hK hH; generalize a.eval = ρ at *; simp [execOp,e93,e94,e96,e101,e102,cf69,ef,go_sem]) ?_ hK
        refine (read_calls key n xh c hH).mono fun e2 w2 h=>?_
        rw [HRD.out] at h
        exact ⟨default,h.1,h.2⟩
      refine .cons (pN 13 103 rfl fun _=>⟨rfl,rfl⟩) ?_
      refine .cons (pN 14 89 rfl fun _=>⟨rfl,rfl⟩) ?_
      refine .cons (pN 14 89 rfl fun _=>⟨rfl,rfl⟩) ?_
      refine .cons (pN 15 104 rfl fun _=>⟨rfl,rfl⟩) ?_
      refine .cons (pN 16 105 rfl fun _=>⟨rfl,rfl⟩) ?_
      exact trivial
     case done12_8 =>
      intro f w9 g9 hv h9
      have er15:f 15 = .string txt:=hv 17 15 rfl
      have er14:f 14 = .int .i64 er2:=hv 18 14 rfl
      have hd:Hd W w9 (Sto b L m::Blk (w1.heap.size + 1) (.cells #[.int .i64 ik',.int .i64 ie',.int .u64 nx',.int .u64 bt',.slice adN es'.length capN] 146 (0,0))::Blk p (.cells #[.int .i64 ok,.int .i64 oe,.int .i64 sent,.int .i64 ik,.int .i64 ie,.int .u64 nx,.int .u64 bt,.slice ad es.length cap,.pointer (some ⟨b,0,none⟩),.int .i64 xh,.int .i64 xs,.int .i64 xr,.int .i64 xv] 148 (0,0))::CaR (.slice adN es'.length capN) es'::CaR (.slice ad es.length cap) es::Rs):=h9
      clear hv h9 cf69
      clear g9
      simp only [patchG,Nat.reduceAdd,Nat.reduceLeDiff,decide_true,decide_false,Bool.and_true,Bool.and_false,Bool.or_true,Bool.or_false,cond_true,cond_false,er15,er14]
      clear er15 er14
      clear H HRD
      have H:=hid hd
      clear hd
      go_wp2_with fail
      refine bodyPost_ret (v:=.tuple #[.string ⟨#[]⟩,.int .i64 er2]) (by simp [results,Try.results41,go_sem]) rfl ⟨ad,cap,rfl,?_⟩
      exact (((((H.out.front 4 rfl).front 3 rfl).front 2 rfl).front 4 rfl).front 4 rfl).drop.drop
 · rw [if_neg h1] at hq
   simp only [Prod.mk.injEq] at hq
   obtain ⟨⟨rfl,rfl⟩,rfl,rfl⟩:=hq
   have g1:(er1 != 0) = true:=by rw [bne_iff_ne]; exact h1
   have g2:decide (er1 = 0) = false:=by simpa using h1
   have HE1:=hid h1
   clear h1
   go_enter Try.func41,Try.ntmps41
   have hk:=Hd.nthk 1 H.out rfl
   obtain ⟨g0,g1,g2,g3,g4,g5,g6,g7,g8,g9,g10,g11,g12⟩:=cells13 hk
   have gs:=(Array.getElem?_eq_some_iff.1 hk).1
   clear hk
   go_wp2_with fail
   refine (get_c c H.out).mono ?_
   rw [HTT.out,HGB.out]
   simp only [T.val]
   rintro e2 w1 ⟨rfl,h1⟩
   clear H g0 g1 g2 g3 g4 g5 g6 g7 g8 g9 g10 g11 g12 gs HTT HGB
   have H:=hid (h1.al (o:=.cells #[.int .i64 tk,.string ts,.int .u64 tn,.int .i64 ta,.int .i64 tb,.int .i64 tc] 47 (0,0)))
   clear h1
   have hk:=Hd.nthk 1 H.out rfl
   obtain ⟨g0,g1,g2,g3,g4,g5,g6,g7,g8,g9,g10,g11,g12⟩:=cells13 hk
   have gs:=(Array.getElem?_eq_some_iff.1 hk).1
   clear hk
   go_wp2_with fail
   have HB:=hid (H.out.bxk (w1.heap.size + 1) (by simp) (o:=.cells #[.int .i64 ik,.int .i64 ie,.int .u64 nx,.int .u64 bt,.slice ad es.length cap] 146 (0,0)))
   clear H g0 g1 g2 g3 g4 g5 g6 g7 g8 g9 g10 g11 g12 gs
   have H:=HB
   clear HB
   have hk:=Hd.nthk 1 H.out rfl
   have c0:=(cell_of_heap hk 0).trans (show _ = some (.int .i64 ik) from rfl)
   have c1:=(cell_of_heap hk 1).trans (show _ = some (.int .i64 ie) from rfl)
   have c2:=(cell_of_heap hk 2).trans (show _ = some (.int .u64 nx) from rfl)
   have c3:=(cell_of_heap hk 3).trans (show _ = some (.int .u64 bt) from rfl)
   have c4:=(cell_of_heap hk 4).trans (show _ = some (.slice ad es.length cap) from rfl)
   have cs:=(Array.getElem?_eq_some_iff.1 hk).1
   have cf:=frozen_of_heap hk
   clear hk
   go_wp2_with fail
   refine (ago19_calls HX.out.rc h0n h255 HR.out (((((H.out.front 2 rfl).front 2 rfl).front 2 rfl).front 3 rfl))).mono ?_
   rintro e2 w2 ⟨adN,capN,rfl,_,h1⟩
   obtain ⟨j1,j2,hyy,h9⟩:=h1 HE1.out
   clear h1
   replace j1:=j1.symm
   replace j2:=j2.symm
   subst j1 j2
   simp only [Rc.mk.injEq] at hyy
   obtain ⟨i1,i2,i3,i4,i5⟩:=hyy
   replace i1:=i1.symm
   replace i2:=i2.symm
   replace i3:=i3.symm
   replace i4:=i4.symm
   replace i5:=i5.symm
   subst i1 i2 i3 i4 i5
   clear H HR c0 c1 c2 c3 c4 cs cf
   have H:=hid ((((h9.front 3 rfl).front 3 rfl).front 3 rfl))
   clear h9
   have hk:=Hd.nthk 1 H.out rfl
   have c0:=(cell_of_heap hk 0).trans (show _ = some (.int .i64 ik) from rfl)
   have c1:=(cell_of_heap hk 1).trans (show _ = some (.int .i64 ie) from rfl)
   have c2:=(cell_of_heap hk 2).trans (show _ = some (.int .u64 nx) from rfl)
   have c3:=(cell_of_heap hk 3).trans (show _ = some (.int .u64 bt) from rfl)
   have c4:=(cell_of_heap hk 4).trans (show _ = some (.slice ad es.length cap) from rfl)
   have cs:=(Array.getElem?_eq_some_iff.1 hk).1
   have cf:=frozen_of_heap hk
   clear hk
   go_wp2_with fail
   refine bodyPost_ret (v:=.tuple #[.string ⟨#[]⟩,.int .i64 er1]) (by simp [results,Try.results41,go_sem]) rfl ⟨ad,cap,rfl,?_⟩
   exact (((((((((((((H.out.front 3 rfl).front 3 rfl).front 2 rfl).front 3 rfl).set 0 (.int .i64 ik)).set 1 (.int .i64 ie)).set 2 (.int .u64 nx)).set 3 (.int .u64 bt)).set 4 (.slice ad es.length cap)).front 3 rfl).front 3 rfl).front 3 rfl).front 3 rfl).drop
end
end Go.Proofs.Ytpcfmafokkffgaa
