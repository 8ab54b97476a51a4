/-
  Walks and laws that the proof stands on, one behind another: RSessB. For every input.
-/
import Derived.Test.YtpcfmafokkffgaaD12
import Derived.Test.YtpcfmafokkffgaaD4
import Derived.Test.YtpcfmafokkffgaaD13
namespace Go.Proofs.Ytpcfmafokkffgaa
open Go.RowKit

theorem puts19_snoc:∀ (ks:List Int) {es:List En} {e x y k:Int},puts19 es e x y (ks ++ [k]) = (kPut (puts19 es e x y ks) ⟨e + ks.length,k,if ks = [] then x else 0,if ks = [] then y else 0⟩).1
 | [],es,e,x,y,k=>by simp [puts19]
 | a::ks,es,e,x,y,k=>by
  have ih:=puts19_snoc ks (es:=(kPut es ⟨e,a,x,y⟩).1) (e:=e + 1) (x:=0) (y:=0) (k:=k)
  show puts19 (kPut es ⟨e,a,x,y⟩).1 (e + 1) 0 0 (ks ++ [k]) = _
  rw [ih]
  show (kPut (puts19 (kPut es ⟨e,a,x,y⟩).1 (e + 1) 0 0 ks) _).1 = (kPut (puts19 (kPut es ⟨e,a,x,y⟩).1 (e + 1) 0 0 ks) _).1
  congr 2
  simp
  omega

section
variable {W w:World} {Rs:List Res} {b p:Nat} {L L2:List T} {m:Int}
set_option maxRecDepth 100000 in
set_option maxHeartbeats 32000000 in
theorem rlater19_calls {x x':Se} {e n c er:Int} {s:ByteArray} {ad:Option Addr} {cap:Nat} (hx:SeOk x) (hie:x.rc.ie < e) (be:e ≤ 9223372036854775807) (h0n:0 ≤ n) (h1n:n ≤ 255) (hg:getB L c = true) (hq:open19 m L x e n c = ((s,er),x',L2)) (h:Hd W w (RSto b L m::Blk p (rsO b x (.slice ad x.rc.es.length cap))::CaR (.slice ad x.rc.es.length cap) x.rc.es::Rs)) :
 Calls Try.prog 70 #[.pointer (some ⟨p,0,none⟩),.int .i64 e,.int .i64 n,.int .i64 c] w fun e' w'=>∃ ad' cap',e' = .returned (.tuple #[.string s,.int .i64 er]) ∧ Hd W w' (RSto b L2 m::Blk p (rsO b x' (.slice ad' x'.rc.es.length cap'))::CaR (.slice ad' x'.rc.es.length cap') x'.rc.es::Rs):=by
 have mixed:Try.prog.follows .mixedOrders = true:=by kernel_rfl
 obtain ⟨ok,oe,sent,⟨ik,ie,nx,bt,es⟩,xh,xs,xr,xv⟩:=x
 have HX:=hid hx
 have HLO:Hid (0 ≤ ie ∧ ie ≤ 1000):=hid ⟨hx.rc.lo,hx.rc.hi⟩
 have h4:es.length ≤ 4:=hx.rc.len
 dsimp only at hie h
 have H:Hid (Hd W w (RSto b L m::Blk p (.cells #[.pointer (some ⟨b,0,none⟩),.int .i64 xh,.int .i64 xs,.int .i64 xr,.int .i64 xv,.int .i64 ok,.int .i64 oe,.int .i64 sent,.int .i64 ik,.int .i64 ie,.int .u64 nx,.int .u64 bt,.slice ad es.length cap] 94 (0,0))::CaR (.slice ad es.length cap) es::Rs)):=hid h
 have zcv:IntKind.u64.wrap n = n:=IntWalk.u64_in _ (by omega)
 unfold open19 at hq
 rw [if_pos ⟨hg,by have:=HLO.out; omega,h0n,by omega⟩] at hq
 dsimp only at hq
 unfold recv19 at hq
 dsimp only at hq
 rw [if_neg (show ¬ e = ie by omega),if_pos hie] at hq
 unfold later19 at hq
 dsimp only at hq
 obtain ⟨⟨⟨tk,te⟩,ks,t3,L3⟩,ht⟩:∃ t,to15 m L ik ie e = t:=⟨_,rfl⟩
 rw [ht] at hq
 dsimp only at hq
 have HT:=hid ht
 have HIE:=hid (And.intro hie be)
 clear h hx hie be hg
 by_cases h3:t3 = 0
 rotate_left
 · rw [if_neg h3] at hq
   try dsimp only at hq
   try rw [if_neg h3] at hq
   simp only [Prod.mk.injEq] at hq
   obtain ⟨⟨rfl,rfl⟩,rfl,rfl⟩:=hq
   have g1:(t3 != 0) = true:=by rw [bne_iff_ne]; exact h3
   have g2:decide (t3 = 0) = false:=by simpa using h3
   clear h3 ht
   go_enter Try.func70,Try.ntmps70
   go_wp2_with fail
   have cf30:∀ args w,(callFunc 30 args).run Try.prog w = .ok (.enter 30 args) w:=fun args w=>by kernel_rfl
   refine hold_coreB (P:=Try.prog) (W:=W) (Rs:=(Blk p (.cells #[.pointer (some ⟨b,0,none⟩),.int .i64 xh,.int .i64 xs,.int .i64 xr,.int .i64 xv,.int .i64 ok,.int .i64 oe,.int .i64 sent,.int .i64 ik,.int .i64 ie,.int .u64 nx,.int .u64 bt,.slice ad es.length cap] 94 (0,0))::CaR (.slice ad es.length cap) es::Rs)) [[],[0],[1],[2],[],[4],[5],[6],[],[3,7,8],[9],[10],[10],[10],[],[11,14],[12],[13]] [[],[],[],[],[],[],[],[],[],[9],[9],[],[9],[],[14],[14],[9],[]] ([some 25,some 26,some 27,some 28,some 29,some 30,some 31,some 32,some 33,some 34,some 24,some 35,some 36,some 37,some 10,none,some 11,some 12]:List (Option Nat)) ([none,none,none,none,none,none,none,none,none,none,none,none,none,none,some 15,none,none,none,some 9]:List (Option Nat)) ((fun _=>pt p 0)::(fun _=>pt p 0)::(fun _=>pt p 0)::(fun _=>pt b 0)::(fun _=>pt p 0)::(fun _=>pt p 0)::(fun _=>pt p 8)::(fun _=>.agg #[.int .i64 ik,.int .i64 ie])::(fun _=>.int .i64 e)::(fun gs=>.tuple #[.agg #[.int .i64 tk,.int .i64 te],.slice (gs.getD 0 default).1 ks.length (gs.getD 0 default).2,.int .i64 t3])::(fun gs=>.tuple #[.agg #[.int .i64 tk,.int .i64 te],.slice (gs.getD 0 default).1 ks.length (gs.getD 0 default).2,.int .i64 t3])::(fun _=>.agg #[.int .i64 tk,.int .i64 te])::(fun gs=>.slice (gs.getD 0 default).1 ks.length (gs.getD 0 default).2)::(fun _=>.int .i64 t3)::(fun gs=>pt ((gs.getD 0 default).2) 0)::(fun _=>undef)::(fun gs=>.slice (gs.getD 0 default).1 ks.length (gs.getD 0 default).2)::(fun _=>.int .i64 t3)::[]) (zR::zR::zR::zR::zR::zR::zR::zR::zR::zR::zR::zR::zR::zR::(fun gs=>[Blk (gs.getD 0 default).2 (.cells #[.int .i64 0,.int .i64 0] 57 (0,0))])::zR::zR::zR::(fun _=>[RSto b L m])::([]:List (List Gh → List Res))) (zR::zR::zR::zR::zR::zR::zR::zR::zR::zR::zR::zR::zR::zR::(fun gs=>[Blk (gs.getD 0 default).2 (.cells #[.int .i64 tk,.int .i64 te] 57 (0,0))])::zR::zR::zR::(fun gs=>[RowR 3 1 (.slice (gs.getD 0 default).1 ks.length (gs.getD 0 default).2) ks.length (nums .i64 ks),RSto b L3 m])::([]:List (List Gh → List Res))) (by kernel_rfl) rfl (hold_lt (n:=128) (by decide)) H.out rfl (by decide) (hold_nil (fs:=[15,9]) trivial rfl ?nil1_1) ?gd1_1 ?step1_1 (fun t=>(decide (10 ≤ t) && decide (t ≤ 12)) || (decide (24 ≤ t) && decide (t ≤ 37))) (by decide) ?done1_1 (fun I h0 st dn=>run_wpB mixed I h0 st dn)
   case nil1_1 =>
    intro s gs hs
    simp only [List.mem_cons,List.not_mem_nil,or_false] at hs
    rcases hs with rfl | rfl <;> rfl
   case gd1_1 =>
    repeat (refine StepAll.cons (by first | exact trivial | exact fun g=>rfl) ?_)
    exact trivial
   case step1_1 =>
    refine .cons (pR 0 rfl fun _=>⟨rfl,rfl⟩) ?_
    refine .cons (pN 0 25 rfl fun _=>⟨rfl,rfl⟩) ?_
    refine .cons (pF 1 26 0 rfl rfl (fun b q w=>by simp [go_sem]) fun _=>⟨⟨_,_,rfl,rfl⟩,rfl⟩) ?_
    refine StepAll.cons ?_ ?_
    · refine HoldStepB.val (by decide) fun a wx γ hn hr hres hpre Ss hH K hK=>?_
      have e27:a.eval (.tmp 27) = .pointer (some ⟨p,0,none⟩):=hn 2 (by decide) 27 rfl
      exact hold_run (v:=.pointer (some ⟨b,0,none⟩)) (by clear hn hr hK; generalize a.eval = ρ at *; simp [execOp,e27,cell_of_heap (Hd.nthk 0 hH.rear rfl),go_sem]) rfl rfl hH hK
    refine .cons (pR 0 rfl fun _=>⟨rfl,rfl⟩) ?_
    refine .cons (pN 4 29 rfl fun _=>⟨rfl,rfl⟩) ?_
    refine .cons (pF 5 30 8 rfl rfl (fun b q w=>by simp [go_sem]) fun _=>⟨⟨_,_,rfl,rfl⟩,rfl⟩) ?_
    refine StepAll.cons ?_ ?_
    · refine HoldStepB.val (by decide) fun a wx γ hn hr hres hpre Ss hH K hK=>?_
      have e31:a.eval (.tmp 31) = .pointer (some ⟨p,8,none⟩):=hn 6 (by decide) 31 rfl
      exact hold_run (v:=.agg #[.int .i64 ik,.int .i64 ie]) (by clear hn hr hK; generalize a.eval = ρ at *; simp [execOp,e31,cell_of_heap (Hd.nthk 0 hH.rear rfl),go_sem]) rfl rfl hH hK
    refine .cons (pR 1 rfl fun _=>⟨rfl,rfl⟩) ?_
    refine StepAll.cons ?_ ?_
    · refine HoldStepB.fil 18 (by decide) fun a wx γ hn hr hres hpre Ss hH K hK=>?_
      have e28:a.eval (.tmp 28) = .pointer (some ⟨b,0,none⟩):=hn 3 (by decide) 28 rfl
      have e32:a.eval (.tmp 32) = .agg #[.int .i64 ik,.int .i64 ie]:=hn 7 (by decide) 32 rfl
      have e33:a.eval (.tmp 33) = .int .i64 e:=hn 8 (by decide) 33 rfl
      have ef:a.eval (.func 30) = .func (.func 30) #[] #[]:=rfl
      refine hold_callB (b:=18) (f:=30) (args:=#[.pointer (some ⟨b,0,none⟩),.agg #[.int .i64 ik,.int .i64 ie],.int .i64 e]) (by clear hn hr hK hH; generalize a.eval = ρ at *; simp [execOp,e28,e32,e33,cf30,ef,go_sem]) ?_ hK
      refine (rto_calls ik ie e (by have:=HIE.out; have:=HLO.out; omega) (by have:=HIE.out; omega) (by have:=HLO.out; omega) (by have:=HLO.out; omega) hH HT.out).mono ?_
      rintro e9 w9 ⟨vv,rfl,h9⟩
      obtain ⟨a9,c9,rfl⟩:=h9.row_form
      exact ⟨(a9,c9),rfl,h9⟩
    refine .cons (pN 9 34 rfl fun _=>⟨rfl,rfl⟩) ?_
    refine .cons (pN 10 24 rfl fun _=>⟨rfl,rfl⟩) ?_
    refine .cons (pN 10 24 rfl fun _=>⟨rfl,rfl⟩) ?_
    refine .cons (pN 10 24 rfl fun _=>⟨rfl,rfl⟩) ?_
    refine StepAll.cons ?_ ?_
    · refine HoldStepB.val (by decide) fun a wx γ hn hr hres hpre Ss hH K hK=>?_
      exact hold_new (obj:=.cells #[.int .i64 0,.int .i64 0] 57 (0,0)) (v:=.pointer (some ⟨wx.heap.size,0,none⟩)) (by clear hn hr hK; generalize a.eval = ρ at *; simp [execOp,go_sem]) rfl rfl hH hK
    refine StepAll.cons ?_ ?_
    · refine HoldStepB.fil 14 (by decide) fun a wx γ hn hr hres hpre Ss hH K hK=>?_
      have e10:a.eval (.tmp 10) = .pointer (some ⟨(γ 14).2,0,none⟩):=hn 14 (by decide) 10 rfl
      have e35:a.eval (.tmp 35) = .agg #[.int .i64 tk,.int .i64 te]:=hn 11 (by decide) 35 rfl
      have hH2:Hd W wx (Blk (γ 14).2 (.cells #[.int .i64 0,.int .i64 0] 57 (0,0))::(Ss ++ (Blk p (.cells #[.pointer (some ⟨b,0,none⟩),.int .i64 xh,.int .i64 xs,.int .i64 xr,.int .i64 xv,.int .i64 ok,.int .i64 oe,.int .i64 sent,.int .i64 ik,.int .i64 ie,.int .u64 nx,.int .u64 bt,.slice ad es.length cap] 94 (0,0))::CaR (.slice ad es.length cap) es::Rs))):=hH
      have hk:=hH2.blk
      have c0:=(cell_of_heap hk 0).trans (show _ = some (.int .i64 0) from rfl)
      have c1:=(cell_of_heap hk 1).trans (show _ = some (.int .i64 0) from rfl)
      have cf:=frozen_of_heap hk
      clear hk hH
      exact hold_filB (w':=((wx.setCell ⟨(γ 14).2,0,none⟩ (.int .i64 tk)).setCell ⟨(γ 14).2,1,none⟩ (.int .i64 te))) (by clear hn hr hK hH2; generalize a.eval = ρ at *; simp [execOp,e10,e35,c0,c1,cf,go_sem]) rfl rfl ((hH2.set 0 (.int .i64 tk)).set 1 (.int .i64 te)) hK
    refine .cons (pN 12 36 rfl fun _=>⟨rfl,rfl⟩) ?_
    refine .cons (pN 13 37 rfl fun _=>⟨rfl,rfl⟩) ?_
    exact trivial
   case done1_1 =>
    intro f w9 g9 hv h9
    have er10:f 10 = .pointer (some ⟨(g9 14).2,0,none⟩):=hv 14 10 rfl
    have er11:f 11 = .slice (g9 9).1 ks.length (g9 9).2:=hv 16 11 rfl
    have er12:f 12 = .int .i64 t3:=hv 17 12 rfl
    have hd:Hd W w9 (Blk (g9 14).2 (.cells #[.int .i64 tk,.int .i64 te] 57 (0,0))::RowR 3 1 (.slice (g9 9).1 ks.length (g9 9).2) ks.length (nums .i64 ks)::RSto b L3 m::Blk p (.cells #[.pointer (some ⟨b,0,none⟩),.int .i64 xh,.int .i64 xs,.int .i64 xr,.int .i64 xv,.int .i64 ok,.int .i64 oe,.int .i64 sent,.int .i64 ik,.int .i64 ie,.int .u64 nx,.int .u64 bt,.slice ad es.length cap] 94 (0,0))::CaR (.slice ad es.length cap) es::Rs):=h9
    obtain ⟨⟨a11,c11⟩,hG9⟩:∃ x,g9 9 = x:=⟨_,rfl⟩
    obtain ⟨⟨_,p10⟩,hG14⟩:∃ x,g9 14 = x:=⟨_,rfl⟩
    simp only [hG9,hG14] at hd er10 er11 er12
    clear hv h9 hG9 hG14 cf30
    clear g9
    simp only [patchG,Nat.reduceAdd,Nat.reduceLeDiff,decide_true,decide_false,Bool.and_true,Bool.and_false,Bool.or_true,Bool.or_false,cond_true,cond_false,er10,er11,er12]
    clear er10 er11 er12
    clear H HT
    have H:=hid ((((((hd.front 4 rfl).front 4 rfl).front 3 rfl).front 3 rfl).front 4 rfl))
    clear hd
    go_wp2_with fail
    refine bodyPost_ret (v:=.tuple #[.string ⟨#[]⟩,.int .i64 t3]) (by simp [results,Try.results70,go_sem]) rfl ⟨ad,cap,rfl,?_⟩
    exact H.out.un2.un2
 subst h3
 rw [if_pos rfl] at hq
 obtain ⟨te1,te2,te3,hkl,te5,te6⟩:=to15_epoch (q:=((tk,te),ks,0,L3)) ht rfl HLO.out.1 HLO.out.2
 dsimp only at te1 hkl
 have hkl4:ks.length ≤ 4:=by omega
 have hk1:1 ≤ ks.length:=by have:=HIE.out; omega
 obtain ⟨R,hR⟩:∃ R,puts19 es ie nx bt ks = R:=⟨_,rfl⟩
 rw [hR] at hq
 have HR:=hid hR
 have HKL:=hid (And.intro hkl4 hk1)
 clear hR ht hkl hkl4 hk1 te1 te2 te3 te5 te6
 unfold now19 at hq
 dsimp only at hq
 rw [wTake_zero h0n] at hq
 dsimp only at hq
 rw [if_pos rfl] at hq
 obtain ⟨key,f2,L4,hp⟩:∃ p1 p2 Ly,put m L3 (keyT tk 1) = (p1,p2,Ly):=⟨_,_,_,rfl⟩
 rw [hp] at hq
 dsimp only at hq
 have HP:=hid hp
 clear hp
 by_cases h4':f2 = 0
 rotate_left
 · rw [if_neg h4'] at hq
   simp only [Prod.mk.injEq] at hq
   obtain ⟨⟨rfl,rfl⟩,rfl,rfl⟩:=hq
   have g1:(f2 != 0) = true:=by rw [bne_iff_ne]; exact h4'
   have g2:decide (f2 = 0) = false:=by simpa using h4'
   clear h4'
   go_enter Try.func70,Try.ntmps70
   go_wp2_with fail
   have cf30:∀ args w,(callFunc 30 args).run Try.prog w = .ok (.enter 30 args) w:=fun args w=>by kernel_rfl
   refine hold_coreB (P:=Try.prog) (W:=W) (Rs:=(Blk p (.cells #[.pointer (some ⟨b,0,none⟩),.int .i64 xh,.int .i64 xs,.int .i64 xr,.int .i64 xv,.int .i64 ok,.int .i64 oe,.int .i64 sent,.int .i64 ik,.int .i64 ie,.int .u64 nx,.int .u64 bt,.slice ad es.length cap] 94 (0,0))::CaR (.slice ad es.length cap) es::Rs)) [[],[0],[1],[2],[],[4],[5],[6],[],[3,7,8],[9],[10],[10],[10],[],[11,14],[12],[13]] [[],[],[],[],[],[],[],[],[],[9],[9],[],[9],[],[14],[14],[9],[]] ([some 25,some 26,some 27,some 28,some 29,some 30,some 31,some 32,some 33,some 34,some 24,some 35,some 36,some 37,some 10,none,some 11,some 12]:List (Option Nat)) ([none,none,none,none,none,none,none,none,none,none,none,none,none,none,some 15,none,none,none,some 9]:List (Option Nat)) ((fun _=>pt p 0)::(fun _=>pt p 0)::(fun _=>pt p 0)::(fun _=>pt b 0)::(fun _=>pt p 0)::(fun _=>pt p 0)::(fun _=>pt p 8)::(fun _=>.agg #[.int .i64 ik,.int .i64 ie])::(fun _=>.int .i64 e)::(fun gs=>.tuple #[.agg #[.int .i64 tk,.int .i64 te],.slice (gs.getD 0 default).1 ks.length (gs.getD 0 default).2,.int .i64 0])::(fun gs=>.tuple #[.agg #[.int .i64 tk,.int .i64 te],.slice (gs.getD 0 default).1 ks.length (gs.getD 0 default).2,.int .i64 0])::(fun _=>.agg #[.int .i64 tk,.int .i64 te])::(fun gs=>.slice (gs.getD 0 default).1 ks.length (gs.getD 0 default).2)::(fun _=>.int .i64 0)::(fun gs=>pt ((gs.getD 0 default).2) 0)::(fun _=>undef)::(fun gs=>.slice (gs.getD 0 default).1 ks.length (gs.getD 0 default).2)::(fun _=>.int .i64 0)::[]) (zR::zR::zR::zR::zR::zR::zR::zR::zR::zR::zR::zR::zR::zR::(fun gs=>[Blk (gs.getD 0 default).2 (.cells #[.int .i64 0,.int .i64 0] 57 (0,0))])::zR::zR::zR::(fun _=>[RSto b L m])::([]:List (List Gh → List Res))) (zR::zR::zR::zR::zR::zR::zR::zR::zR::zR::zR::zR::zR::zR::(fun gs=>[Blk (gs.getD 0 default).2 (.cells #[.int .i64 tk,.int .i64 te] 57 (0,0))])::zR::zR::zR::(fun gs=>[RowR 3 1 (.slice (gs.getD 0 default).1 ks.length (gs.getD 0 default).2) ks.length (nums .i64 ks),RSto b L3 m])::([]:List (List Gh → List Res))) (by kernel_rfl) rfl (hold_lt (n:=128) (by decide)) H.out rfl (by decide) (hold_nil (fs:=[15,9]) trivial rfl ?nil1_2) ?gd1_2 ?step1_2 (fun t=>(decide (10 ≤ t) && decide (t ≤ 12)) || (decide (24 ≤ t) && decide (t ≤ 37))) (by decide) ?done1_2 (fun I h0 st dn=>run_wpB mixed I h0 st dn)
   case nil1_2 =>
    intro s gs hs
    simp only [List.mem_cons,List.not_mem_nil,or_false] at hs
    rcases hs with rfl | rfl <;> rfl
   case gd1_2 =>
    repeat (refine StepAll.cons (by first | exact trivial | exact fun g=>rfl) ?_)
    exact trivial
   case step1_2 =>
    refine .cons (pR 0 rfl fun _=>⟨rfl,rfl⟩) ?_
    refine .cons (pN 0 25 rfl fun _=>⟨rfl,rfl⟩) ?_
    refine .cons (pF 1 26 0 rfl rfl (fun b q w=>by simp [go_sem]) fun _=>⟨⟨_,_,rfl,rfl⟩,rfl⟩) ?_
    refine StepAll.cons ?_ ?_
    · refine HoldStepB.val (by decide) fun a wx γ hn hr hres hpre Ss hH K hK=>?_
      have e27:a.eval (.tmp 27) = .pointer (some ⟨p,0,none⟩):=hn 2 (by decide) 27 rfl
      exact hold_run (v:=.pointer (some ⟨b,0,none⟩)) (by clear hn hr hK; generalize a.eval = ρ at *; simp [execOp,e27,cell_of_heap (Hd.nthk 0 hH.rear rfl),go_sem]) rfl rfl hH hK
    refine .cons (pR 0 rfl fun _=>⟨rfl,rfl⟩) ?_
    refine .cons (pN 4 29 rfl fun _=>⟨rfl,rfl⟩) ?_
    refine .cons (pF 5 30 8 rfl rfl (fun b q w=>by simp [go_sem]) fun _=>⟨⟨_,_,rfl,rfl⟩,rfl⟩) ?_
    refine StepAll.cons ?_ ?_
    · refine HoldStepB.val (by decide) fun a wx γ hn hr hres hpre Ss hH K hK=>?_
      have e31:a.eval (.tmp 31) = .pointer (some ⟨p,8,none⟩):=hn 6 (by decide) 31 rfl
      exact hold_run (v:=.agg #[.int .i64 ik,.int .i64 ie]) (by clear hn hr hK; generalize a.eval = ρ at *; simp [execOp,e31,cell_of_heap (Hd.nthk 0 hH.rear rfl),go_sem]) rfl rfl hH hK
    refine .cons (pR 1 rfl fun _=>⟨rfl,rfl⟩) ?_
    refine StepAll.cons ?_ ?_
    · refine HoldStepB.fil 18 (by decide) fun a wx γ hn hr hres hpre Ss hH K hK=>?_
      have e28:a.eval (.tmp 28) = .pointer (some ⟨b,0,none⟩):=hn 3 (by decide) 28 rfl
      have e32:a.eval (.tmp 32) = .agg #[.int .i64 ik,.int .i64 ie]:=hn 7 (by decide) 32 rfl
      have e33:a.eval (.tmp 33) = .int .i64 e:=hn 8 (by decide) 33 rfl
      have ef:a.eval (.func 30) = .func (.func 30) #[] #[]:=rfl
      refine hold_callB (b:=18) (f:=30) (args:=#[.pointer (some ⟨b,0,none⟩),.agg #[.int .i64 ik,.int .i64 ie],.int .i64 e]) (by clear hn hr hK hH; generalize a.eval = ρ at *; simp [execOp,e28,e32,e33,cf30,ef,go_sem]) ?_ hK
      refine (rto_calls ik ie e (by have:=HIE.out; have:=HLO.out; omega) (by have:=HIE.out; omega) (by have:=HLO.out; omega) (by have:=HLO.out; omega) hH HT.out).mono ?_
      rintro e9 w9 ⟨vv,rfl,h9⟩
      obtain ⟨a9,c9,rfl⟩:=h9.row_form
      exact ⟨(a9,c9),rfl,h9⟩
    refine .cons (pN 9 34 rfl fun _=>⟨rfl,rfl⟩) ?_
    refine .cons (pN 10 24 rfl fun _=>⟨rfl,rfl⟩) ?_
    refine .cons (pN 10 24 rfl fun _=>⟨rfl,rfl⟩) ?_
    refine .cons (pN 10 24 rfl fun _=>⟨rfl,rfl⟩) ?_
    refine StepAll.cons ?_ ?_
    · refine HoldStepB.val (by decide) fun a wx γ hn hr hres hpre Ss hH K hK=>?_
      exact hold_new (obj:=.cells #[.int .i64 0,.int .i64 0] 57 (0,0)) (v:=.pointer (some ⟨wx.heap.size,0,none⟩)) (by clear hn hr hK; generalize a.eval = ρ at *; simp [execOp,go_sem]) rfl rfl hH hK
    refine StepAll.cons ?_ ?_
    · refine HoldStepB.fil 14 (by decide) fun a wx γ hn hr hres hpre Ss hH K hK=>?_
      have e10:a.eval (.tmp 10) = .pointer (some ⟨(γ 14).2,0,none⟩):=hn 14 (by decide) 10 rfl
      have e35:a.eval (.tmp 35) = .agg #[.int .i64 tk,.int .i64 te]:=hn 11 (by decide) 35 rfl
      have hH2:Hd W wx (Blk (γ 14).2 (.cells #[.int .i64 0,.int .i64 0] 57 (0,0))::(Ss ++ (Blk p (.cells #[.pointer (some ⟨b,0,none⟩),.int .i64 xh,.int .i64 xs,.int .i64 xr,.int .i64 xv,.int .i64 ok,.int .i64 oe,.int .i64 sent,.int .i64 ik,.int .i64 ie,.int .u64 nx,.int .u64 bt,.slice ad es.length cap] 94 (0,0))::CaR (.slice ad es.length cap) es::Rs))):=hH
      have hk:=hH2.blk
      have c0:=(cell_of_heap hk 0).trans (show _ = some (.int .i64 0) from rfl)
      have c1:=(cell_of_heap hk 1).trans (show _ = some (.int .i64 0) from rfl)
      have cf:=frozen_of_heap hk
      clear hk hH
      exact hold_filB (w':=((wx.setCell ⟨(γ 14).2,0,none⟩ (.int .i64 tk)).setCell ⟨(γ 14).2,1,none⟩ (.int .i64 te))) (by clear hn hr hK hH2; generalize a.eval = ρ at *; simp [execOp,e10,e35,c0,c1,cf,go_sem]) rfl rfl ((hH2.set 0 (.int .i64 tk)).set 1 (.int .i64 te)) hK
    refine .cons (pN 12 36 rfl fun _=>⟨rfl,rfl⟩) ?_
    refine .cons (pN 13 37 rfl fun _=>⟨rfl,rfl⟩) ?_
    exact trivial
   case done1_2 =>
    intro f w9 g9 hv h9
    have er10:f 10 = .pointer (some ⟨(g9 14).2,0,none⟩):=hv 14 10 rfl
    have er11:f 11 = .slice (g9 9).1 ks.length (g9 9).2:=hv 16 11 rfl
    have er12:f 12 = .int .i64 0:=hv 17 12 rfl
    have hd:Hd W w9 (Blk (g9 14).2 (.cells #[.int .i64 tk,.int .i64 te] 57 (0,0))::RowR 3 1 (.slice (g9 9).1 ks.length (g9 9).2) ks.length (nums .i64 ks)::RSto b L3 m::Blk p (.cells #[.pointer (some ⟨b,0,none⟩),.int .i64 xh,.int .i64 xs,.int .i64 xr,.int .i64 xv,.int .i64 ok,.int .i64 oe,.int .i64 sent,.int .i64 ik,.int .i64 ie,.int .u64 nx,.int .u64 bt,.slice ad es.length cap] 94 (0,0))::CaR (.slice ad es.length cap) es::Rs):=h9
    obtain ⟨⟨a11,c11⟩,hG9⟩:∃ x,g9 9 = x:=⟨_,rfl⟩
    obtain ⟨⟨_,p10⟩,hG14⟩:∃ x,g9 14 = x:=⟨_,rfl⟩
    simp only [hG9,hG14] at hd er10 er11 er12
    clear hv h9 hG9 hG14 cf30
    clear g9
    simp only [patchG,Nat.reduceAdd,Nat.reduceLeDiff,decide_true,decide_false,Bool.and_true,Bool.and_false,Bool.or_true,Bool.or_false,cond_true,cond_false,er10,er11,er12]
    clear er10 er11 er12
    clear H HT
    have H:=hid ((((((hd.front 4 rfl).front 4 rfl).front 3 rfl).front 3 rfl).front 4 rfl))
    clear hd
    go_wp2_with fail
    have cf27:∀ args w,(callFunc 27 args).run Try.prog w = .ok (.enter 27 args) w:=fun args w=>by kernel_rfl
    refine hold_coreB (P:=Try.prog) (W:=W) (Rs:=(Blk p10 (.cells #[.int .i64 tk,.int .i64 te] 57 (0,0))::RowR 3 1 (.slice a11 ks.length c11) ks.length (nums .i64 ks)::Blk p (.cells #[.pointer (some ⟨b,0,none⟩),.int .i64 xh,.int .i64 xs,.int .i64 xr,.int .i64 xv,.int .i64 ok,.int .i64 oe,.int .i64 sent,.int .i64 ik,.int .i64 ie,.int .u64 nx,.int .u64 bt,.slice ad es.length cap] 94 (0,0))::CaR (.slice ad es.length cap) es::Rs)) [[],[0],[1],[2],[],[3,4],[5],[6],[6],[7],[8]] [[],[],[],[],[],[],[],[],[],[],[]] ([some 42,some 43,some 44,some 45,some 46,some 47,some 41,some 48,some 49,some 13,some 14]:List (Option Nat)) ([none,none,none,none,none,none,none,none,none,none,none,some 5]:List (Option Nat)) ((fun _=>pt p 0)::(fun _=>pt p 0)::(fun _=>pt p 0)::(fun _=>pt b 0)::(fun _=>.agg #[.int .i64 tk,.int .i64 te])::(fun _=>.tuple #[.int .i64 key,.int .i64 f2])::(fun _=>.tuple #[.int .i64 key,.int .i64 f2])::(fun _=>.int .i64 key)::(fun _=>.int .i64 f2)::(fun _=>.int .i64 key)::(fun _=>.int .i64 f2)::[]) (zR::zR::zR::zR::zR::zR::zR::zR::zR::zR::zR::(fun _=>[RSto b L3 m])::([]:List (List Gh → List Res))) (zR::zR::zR::zR::zR::zR::zR::zR::zR::zR::zR::(fun _=>[RSto b L4 m])::([]:List (List Gh → List Res))) (by kernel_rfl) rfl (hold_lt (n:=128) (by decide)) H.out rfl (by decide) (hold_nil (fs:=[5]) trivial rfl ?nil4_3) ?gd4_3 ?step4_3 (fun t=>(decide (13 ≤ t) && decide (t ≤ 14)) || (decide (41 ≤ t) && decide (t ≤ 49))) (by decide) ?done4_3 (fun I h0 st dn=>run_wpB mixed I h0 st dn)
    case nil4_3 =>
     intro s gs hs
     simp only [List.mem_cons,List.not_mem_nil,or_false] at hs
     subst hs; rfl
    case gd4_3 =>
     repeat (refine StepAll.cons (by first | exact trivial | exact fun g=>rfl) ?_)
     exact trivial
    case step4_3 =>
     refine .cons (pR 0 rfl fun _=>⟨rfl,rfl⟩) ?_
     refine .cons (pN 0 42 rfl fun _=>⟨rfl,rfl⟩) ?_
     refine .cons (pF 1 43 0 rfl rfl (fun b q w=>by simp [go_sem]) fun _=>⟨⟨_,_,rfl,rfl⟩,rfl⟩) ?_
     refine StepAll.cons ?_ ?_
     · refine HoldStepB.val (by decide) fun a wx γ hn hr hres hpre Ss hH K hK=>?_
       have e44:a.eval (.tmp 44) = .pointer (some ⟨p,0,none⟩):=hn 2 (by decide) 44 rfl
       exact hold_run (v:=.pointer (some ⟨b,0,none⟩)) (by clear hn hr hK; generalize a.eval = ρ at *; simp [execOp,e44,cell_of_heap (Hd.nthk 2 hH.rear rfl),go_sem]) rfl rfl hH hK
     refine StepAll.cons ?_ ?_
     · refine HoldStepB.val (by decide) fun a wx γ hn hr hres hpre Ss hH K hK=>?_
       have e10:a.eval (.tmp 10) = .pointer (some ⟨p10,0,none⟩):=(hr 10 (by decide)).trans rfl
       exact hold_run (v:=.agg #[.int .i64 tk,.int .i64 te]) (by clear hn hr hK; generalize a.eval = ρ at *; simp [execOp,e10,cell_of_heap (Hd.nthk 0 hH.rear rfl),go_sem]) rfl rfl hH hK
     refine StepAll.cons ?_ ?_
     · refine HoldStepB.fil 11 (by decide) fun a wx γ hn hr hres hpre Ss hH K hK=>?_
       have e45:a.eval (.tmp 45) = .pointer (some ⟨b,0,none⟩):=hn 3 (by decide) 45 rfl
       have e46:a.eval (.tmp 46) = .agg #[.int .i64 tk,.int .i64 te]:=hn 4 (by decide) 46 rfl
       have ef:a.eval (.func 27) = .func (.func 27) #[] #[]:=rfl
       refine hold_callB (b:=11) (f:=27) (args:=#[.pointer (some ⟨b,0,none⟩),.agg #[.int .i64 tk,.int .i64 te]]) (by clear hn hr hK hH; generalize a.eval = ρ at *; simp [execOp,e45,e46,cf27,ef,go_sem]) ?_ hK
       exact (rseal15_calls tk te HP.out hH).mono fun e2 w2 h=>⟨default,h.1,h.2⟩
     refine .cons (pN 5 47 rfl fun _=>⟨rfl,rfl⟩) ?_
     refine .cons (pN 6 41 rfl fun _=>⟨rfl,rfl⟩) ?_
     refine .cons (pN 6 41 rfl fun _=>⟨rfl,rfl⟩) ?_
     refine .cons (pN 7 48 rfl fun _=>⟨rfl,rfl⟩) ?_
     refine .cons (pN 8 49 rfl fun _=>⟨rfl,rfl⟩) ?_
     exact trivial
    case done4_3 =>
     intro f w9 g9 hv h9
     have er13:f 13 = .int .i64 key:=hv 9 13 rfl
     have er14:f 14 = .int .i64 f2:=hv 10 14 rfl
     have hd:Hd W w9 (RSto b L4 m::Blk p10 (.cells #[.int .i64 tk,.int .i64 te] 57 (0,0))::RowR 3 1 (.slice a11 ks.length c11) ks.length (nums .i64 ks)::Blk p (.cells #[.pointer (some ⟨b,0,none⟩),.int .i64 xh,.int .i64 xs,.int .i64 xr,.int .i64 xv,.int .i64 ok,.int .i64 oe,.int .i64 sent,.int .i64 ik,.int .i64 ie,.int .u64 nx,.int .u64 bt,.slice ad es.length cap] 94 (0,0))::CaR (.slice ad es.length cap) es::Rs):=h9
     clear hv h9 cf27
     clear g9
     simp only [patchG,Nat.reduceAdd,Nat.reduceLeDiff,decide_true,decide_false,Bool.and_true,Bool.and_false,Bool.or_true,Bool.or_false,cond_true,cond_false,er13,er14]
     clear er13 er14
     clear H HP
     have H:=hid hd
     clear hd
     go_wp2_with fail
     refine bodyPost_ret (v:=.tuple #[.string ⟨#[]⟩,.int .i64 f2]) (by simp [results,Try.results70,go_sem]) rfl ⟨ad,cap,rfl,?_⟩
     exact H.out.un2.un2
 subst h4'
 rw [if_pos rfl] at hq
 obtain ⟨txt,er2,hrd⟩:∃ t r,read5 L4 key n xh c = (t,r):=⟨_,_,rfl⟩
 rw [hrd] at hq
 dsimp only at hq
 have HRD:=hid hrd
 clear hrd
 by_cases h5:er2 = 0
 rotate_left
 · rw [if_neg h5] at hq
   simp only [Prod.mk.injEq] at hq
   obtain ⟨⟨rfl,rfl⟩,rfl,rfl⟩:=hq
   have g1:(er2 != 0) = true:=by rw [bne_iff_ne]; exact h5
   have g2:decide (er2 = 0) = false:=by simpa using h5
   clear h5
   go_enter Try.func70,Try.ntmps70
   go_wp2_with fail
   have cf30:∀ args w,(callFunc 30 args).run Try.prog w = .ok (.enter 30 args) w:=fun args w=>by kernel_rfl
   refine hold_coreB (P:=Try.prog) (W:=W) (Rs:=(Blk p (.cells #[.pointer (some ⟨b,0,none⟩),.int .i64 xh,.int .i64 xs,.int .i64 xr,.int .i64 xv,.int .i64 ok,.int .i64 oe,.int .i64 sent,.int .i64 ik,.int .i64 ie,.int .u64 nx,.int .u64 bt,.slice ad es.length cap] 94 (0,0))::CaR (.slice ad es.length cap) es::Rs)) [[],[0],[1],[2],[],[4],[5],[6],[],[3,7,8],[9],[10],[10],[10],[],[11,14],[12],[13]] [[],[],[],[],[],[],[],[],[],[9],[9],[],[9],[],[14],[14],[9],[]] ([some 25,some 26,some 27,some 28,some 29,some 30,some 31,some 32,some 33,some 34,some 24,some 35,some 36,some 37,some 10,none,some 11,some 12]:List (Option Nat)) ([none,none,none,none,none,none,none,none,none,none,none,none,none,none,some 15,none,none,none,some 9]:List (Option Nat)) ((fun _=>pt p 0)::(fun _=>pt p 0)::(fun _=>pt p 0)::(fun _=>pt b 0)::(fun _=>pt p 0)::(fun _=>pt p 0)::(fun _=>pt p 8)::(fun _=>.agg #[.int .i64 ik,.int .i64 ie])::(fun _=>.int .i64 e)::(fun gs=>.tuple #[.agg #[.int .i64 tk,.int .i64 te],.slice (gs.getD 0 default).1 ks.length (gs.getD 0 default).2,.int .i64 0])::(fun gs=>.tuple #[.agg #[.int .i64 tk,.int .i64 te],.slice (gs.getD 0 default).1 ks.length (gs.getD 0 default).2,.int .i64 0])::(fun _=>.agg #[.int .i64 tk,.int .i64 te])::(fun gs=>.slice (gs.getD 0 default).1 ks.length (gs.getD 0 default).2)::(fun _=>.int .i64 0)::(fun gs=>pt ((gs.getD 0 default).2) 0)::(fun _=>undef)::(fun gs=>.slice (gs.getD 0 default).1 ks.length (gs.getD 0 default).2)::(fun _=>.int .i64 0)::[]) (zR::zR::zR::zR::zR::zR::zR::zR::zR::zR::zR::zR::zR::zR::(fun gs=>[Blk (gs.getD 0 default).2 (.cells #[.int .i64 0,.int .i64 0] 57 (0,0))])::zR::zR::zR::(fun _=>[RSto b L m])::([]:List (List Gh → List Res))) (zR::zR::zR::zR::zR::zR::zR::zR::zR::zR::zR::zR::zR::zR::(fun gs=>[Blk (gs.getD 0 default).2 (.cells #[.int .i64 tk,.int .i64 te] 57 (0,0))])::zR::zR::zR::(fun gs=>[RowR 3 1 (.slice (gs.getD 0 default).1 ks.length (gs.getD 0 default).2) ks.length (nums .i64 ks),RSto b L3 m])::([]:List (List Gh → List Res))) (by kernel_rfl) rfl (hold_lt (n:=128) (by decide)) H.out rfl (by decide) (hold_nil (fs:=[15,9]) trivial rfl ?nil1_4) ?gd1_4 ?step1_4 (fun t=>(decide (10 ≤ t) && decide (t ≤ 12)) || (decide (24 ≤ t) && decide (t ≤ 37))) (by decide) ?done1_4 (fun I h0 st dn=>run_wpB mixed I h0 st dn)
   case nil1_4 =>
    intro s gs hs
    simp only [List.mem_cons,List.not_mem_nil,or_false] at hs
    rcases hs with rfl | rfl <;> rfl
   case gd1_4 =>
    repeat (refine StepAll.cons (by first | exact trivial | exact fun g=>rfl) ?_)
    exact trivial
   case step1_4 =>
    refine .cons (pR 0 rfl fun _=>⟨rfl,rfl⟩) ?_
    refine .cons (pN 0 25 rfl fun _=>⟨rfl,rfl⟩) ?_
    refine .cons (pF 1 26 0 rfl rfl (fun b q w=>by simp [go_sem]) fun _=>⟨⟨_,_,rfl,rfl⟩,rfl⟩) ?_
    refine StepAll.cons ?_ ?_
    · refine HoldStepB.val (by decide) fun a wx γ hn hr hres hpre Ss hH K hK=>?_
      have e27:a.eval (.tmp 27) = .pointer (some ⟨p,0,none⟩):=hn 2 (by decide) 27 rfl
      exact hold_run (v:=.pointer (some ⟨b,0,none⟩)) (by clear hn hr hK; generalize a.eval = ρ at *; simp [execOp,e27,cell_of_heap (Hd.nthk 0 hH.rear rfl),go_sem]) rfl rfl hH hK
    refine .cons (pR 0 rfl fun _=>⟨rfl,rfl⟩) ?_
    refine .cons (pN 4 29 rfl fun _=>⟨rfl,rfl⟩) ?_
    refine .cons (pF 5 30 8 rfl rfl (fun b q w=>by simp [go_sem]) fun _=>⟨⟨_,_,rfl,rfl⟩,rfl⟩) ?_
    refine StepAll.cons ?_ ?_
    · refine HoldStepB.val (by decide) fun a wx γ hn hr hres hpre Ss hH K hK=>?_
      have e31:a.eval (.tmp 31) = .pointer (some ⟨p,8,none⟩):=hn 6 (by decide) 31 rfl
      exact hold_run (v:=.agg #[.int .i64 ik,.int .i64 ie]) (by clear hn hr hK; generalize a.eval = ρ at *; simp [execOp,e31,cell_of_heap (Hd.nthk 0 hH.rear rfl),go_sem]) rfl rfl hH hK
    refine .cons (pR 1 rfl fun _=>⟨rfl,rfl⟩) ?_
    refine StepAll.cons ?_ ?_
    · refine HoldStepB.fil 18 (by decide) fun a wx γ hn hr hres hpre Ss hH K hK=>?_
      have e28:a.eval (.tmp 28) = .pointer (some ⟨b,0,none⟩):=hn 3 (by decide) 28 rfl
      have e32:a.eval (.tmp 32) = .agg #[.int .i64 ik,.int .i64 ie]:=hn 7 (by decide) 32 rfl
      have e33:a.eval (.tmp 33) = .int .i64 e:=hn 8 (by decide) 33 rfl
      have ef:a.eval (.func 30) = .func (.func 30) #[] #[]:=rfl
      refine hold_callB (b:=18) (f:=30) (args:=#[.pointer (some ⟨b,0,none⟩),.agg #[.int .i64 ik,.int .i64 ie],.int .i64 e]) (by clear hn hr hK hH; generalize a.eval = ρ at *; simp [execOp,e28,e32,e33,cf30,ef,go_sem]) ?_ hK
      refine (rto_calls ik ie e (by have:=HIE.out; have:=HLO.out; omega) (by have:=HIE.out; omega) (by have:=HLO.out; omega) (by have:=HLO.out; omega) hH HT.out).mono ?_
      rintro e9 w9 ⟨vv,rfl,h9⟩
      obtain ⟨a9,c9,rfl⟩:=h9.row_form
      exact ⟨(a9,c9),rfl,h9⟩
    refine .cons (pN 9 34 rfl fun _=>⟨rfl,rfl⟩) ?_
    refine .cons (pN 10 24 rfl fun _=>⟨rfl,rfl⟩) ?_
    refine .cons (pN 10 24 rfl fun _=>⟨rfl,rfl⟩) ?_
    refine .cons (pN 10 24 rfl fun _=>⟨rfl,rfl⟩) ?_
    refine StepAll.cons ?_ ?_
    · refine HoldStepB.val (by decide) fun a wx γ hn hr hres hpre Ss hH K hK=>?_
      exact hold_new (obj:=.cells #[.int .i64 0,.int .i64 0] 57 (0,0)) (v:=.pointer (some ⟨wx.heap.size,0,none⟩)) (by clear hn hr hK; generalize a.eval = ρ at *; simp [execOp,go_sem]) rfl rfl hH hK
    refine StepAll.cons ?_ ?_
    · refine HoldStepB.fil 14 (by decide) fun a wx γ hn hr hres hpre Ss hH K hK=>?_
      have e10:a.eval (.tmp 10) = .pointer (some ⟨(γ 14).2,0,none⟩):=hn 14 (by decide) 10 rfl
      have e35:a.eval (.tmp 35) = .agg #[.int .i64 tk,.int .i64 te]:=hn 11 (by decide) 35 rfl
      have hH2:Hd W wx (Blk (γ 14).2 (.cells #[.int .i64 0,.int .i64 0] 57 (0,0))::(Ss ++ (Blk p (.cells #[.pointer (some ⟨b,0,none⟩),.int .i64 xh,.int .i64 xs,.int .i64 xr,.int .i64 xv,.int .i64 ok,.int .i64 oe,.int .i64 sent,.int .i64 ik,.int .i64 ie,.int .u64 nx,.int .u64 bt,.slice ad es.length cap] 94 (0,0))::CaR (.slice ad es.length cap) es::Rs))):=hH
      have hk:=hH2.blk
      have c0:=(cell_of_heap hk 0).trans (show _ = some (.int .i64 0) from rfl)
      have c1:=(cell_of_heap hk 1).trans (show _ = some (.int .i64 0) from rfl)
      have cf:=frozen_of_heap hk
      clear hk hH
      exact hold_filB (w':=((wx.setCell ⟨(γ 14).2,0,none⟩ (.int .i64 tk)).setCell ⟨(γ 14).2,1,none⟩ (.int .i64 te))) (by clear hn hr hK hH2; generalize a.eval = ρ at *; simp [execOp,e10,e35,c0,c1,cf,go_sem]) rfl rfl ((hH2.set 0 (.int .i64 tk)).set 1 (.int .i64 te)) hK
    refine .cons (pN 12 36 rfl fun _=>⟨rfl,rfl⟩) ?_
    refine .cons (pN 13 37 rfl fun _=>⟨rfl,rfl⟩) ?_
    exact trivial
   case done1_4 =>
    intro f w9 g9 hv h9
    have er10:f 10 = .pointer (some ⟨(g9 14).2,0,none⟩):=hv 14 10 rfl
    have er11:f 11 = .slice (g9 9).1 ks.length (g9 9).2:=hv 16 11 rfl
    have er12:f 12 = .int .i64 0:=hv 17 12 rfl
    have hd:Hd W w9 (Blk (g9 14).2 (.cells #[.int .i64 tk,.int .i64 te] 57 (0,0))::RowR 3 1 (.slice (g9 9).1 ks.length (g9 9).2) ks.length (nums .i64 ks)::RSto b L3 m::Blk p (.cells #[.pointer (some ⟨b,0,none⟩),.int .i64 xh,.int .i64 xs,.int .i64 xr,.int .i64 xv,.int .i64 ok,.int .i64 oe,.int .i64 sent,.int .i64 ik,.int .i64 ie,.int .u64 nx,.int .u64 bt,.slice ad es.length cap] 94 (0,0))::CaR (.slice ad es.length cap) es::Rs):=h9
    obtain ⟨⟨a11,c11⟩,hG9⟩:∃ x,g9 9 = x:=⟨_,rfl⟩
    obtain ⟨⟨_,p10⟩,hG14⟩:∃ x,g9 14 = x:=⟨_,rfl⟩
    simp only [hG9,hG14] at hd er10 er11 er12
    clear hv h9 hG9 hG14 cf30
    clear g9
    simp only [patchG,Nat.reduceAdd,Nat.reduceLeDiff,decide_true,decide_false,Bool.and_true,Bool.and_false,Bool.or_true,Bool.or_false,cond_true,cond_false,er10,er11,er12]
    clear er10 er11 er12
    clear H HT
    have H:=hid ((((((hd.front 4 rfl).front 4 rfl).front 3 rfl).front 3 rfl).front 4 rfl))
    clear hd
    go_wp2_with fail
    have cf27:∀ args w,(callFunc 27 args).run Try.prog w = .ok (.enter 27 args) w:=fun args w=>by kernel_rfl
    refine hold_coreB (P:=Try.prog) (W:=W) (Rs:=(Blk p10 (.cells #[.int .i64 tk,.int .i64 te] 57 (0,0))::RowR 3 1 (.slice a11 ks.length c11) ks.length (nums .i64 ks)::Blk p (.cells #[.pointer (some ⟨b,0,none⟩),.int .i64 xh,.int .i64 xs,.int .i64 xr,.int .i64 xv,.int .i64 ok,.int .i64 oe,.int .i64 sent,.int .i64 ik,.int .i64 ie,.int .u64 nx,.int .u64 bt,.slice ad es.length cap] 94 (0,0))::CaR (.slice ad es.length cap) es::Rs)) [[],[0],[1],[2],[],[3,4],[5],[6],[6],[7],[8]] [[],[],[],[],[],[],[],[],[],[],[]] ([some 42,some 43,some 44,some 45,some 46,some 47,some 41,some 48,some 49,some 13,some 14]:List (Option Nat)) ([none,none,none,none,none,none,none,none,none,none,none,some 5]:List (Option Nat)) ((fun _=>pt p 0)::(fun _=>pt p 0)::(fun _=>pt p 0)::(fun _=>pt b 0)::(fun _=>.agg #[.int .i64 tk,.int .i64 te])::(fun _=>.tuple #[.int .i64 key,.int .i64 0])::(fun _=>.tuple #[.int .i64 key,.int .i64 0])::(fun _=>.int .i64 key)::(fun _=>.int .i64 0)::(fun _=>.int .i64 key)::(fun _=>.int .i64 0)::[]) (zR::zR::zR::zR::zR::zR::zR::zR::zR::zR::zR::(fun _=>[RSto b L3 m])::([]:List (List Gh → List Res))) (zR::zR::zR::zR::zR::zR::zR::zR::zR::zR::zR::(fun _=>[RSto b L4 m])::([]:List (List Gh → List Res))) (by kernel_rfl) rfl (hold_lt (n:=128) (by decide)) H.out rfl (by decide) (hold_nil (fs:=[5]) trivial rfl ?nil4_5) ?gd4_5 ?step4_5 (fun t=>(decide (13 ≤ t) && decide (t ≤ 14)) || (decide (41 ≤ t) && decide (t ≤ 49))) (by decide) ?done4_5 (fun I h0 st dn=>run_wpB mixed I h0 st dn)
    case nil4_5 =>
     intro s gs hs
     simp only [List.mem_cons,List.not_mem_nil,or_false] at hs
     subst hs; rfl
    case gd4_5 =>
     repeat (refine StepAll.cons (by first | exact trivial | exact fun g=>rfl) ?_)
     exact trivial
    case step4_5 =>
     refine .cons (pR 0 rfl fun _=>⟨rfl,rfl⟩) ?_
     refine .cons (pN 0 42 rfl fun _=>⟨rfl,rfl⟩) ?_
     refine .cons (pF 1 43 0 rfl rfl (fun b q w=>by simp [go_sem]) fun _=>⟨⟨_,_,rfl,rfl⟩,rfl⟩) ?_
     refine StepAll.cons ?_ ?_
     · refine HoldStepB.val (by decide) fun a wx γ hn hr hres hpre Ss hH K hK=>?_
       have e44:a.eval (.tmp 44) = .pointer (some ⟨p,0,none⟩):=hn 2 (by decide) 44 rfl
       exact hold_run (v:=.pointer (some ⟨b,0,none⟩)) (by clear hn hr hK; generalize a.eval = ρ at *; simp [execOp,e44,cell_of_heap (Hd.nthk 2 hH.rear rfl),go_sem]) rfl rfl hH hK
     refine StepAll.cons ?_ ?_
     · refine HoldStepB.val (by decide) fun a wx γ hn hr hres hpre Ss hH K hK=>?_
       have e10:a.eval (.tmp 10) = .pointer (some ⟨p10,0,none⟩):=(hr 10 (by decide)).trans rfl
       exact hold_run (v:=.agg #[.int .i64 tk,.int .i64 te]) (by clear hn hr hK; generalize a.eval = ρ at *; simp [execOp,e10,cell_of_heap (Hd.nthk 0 hH.rear rfl),go_sem]) rfl rfl hH hK
     refine StepAll.cons ?_ ?_
     · refine HoldStepB.fil 11 (by decide) fun a wx γ hn hr hres hpre Ss hH K hK=>?_
       have e45:a.eval (.tmp 45) = .pointer (some ⟨b,0,none⟩):=hn 3 (by decide) 45 rfl
       have e46:a.eval (.tmp 46) = .agg #[.int .i64 tk,.int .i64 te]:=hn 4 (by decide) 46 rfl
       have ef:a.eval (.func 27) = .func (.func 27) #[] #[]:=rfl
       refine hold_callB (b:=11) (f:=27) (args:=#[.pointer (some ⟨b,0,none⟩),.agg #[.int .i64 tk,.int .i64 te]]) (by clear hn hr hK hH; generalize a.eval = ρ at *; simp [execOp,e45,e46,cf27,ef,go_sem]) ?_ hK
       exact (rseal15_calls tk te HP.out hH).mono fun e2 w2 h=>⟨default,h.1,h.2⟩
     refine .cons (pN 5 47 rfl fun _=>⟨rfl,rfl⟩) ?_
     refine .cons (pN 6 41 rfl fun _=>⟨rfl,rfl⟩) ?_
     refine .cons (pN 6 41 rfl fun _=>⟨rfl,rfl⟩) ?_
     refine .cons (pN 7 48 rfl fun _=>⟨rfl,rfl⟩) ?_
     refine .cons (pN 8 49 rfl fun _=>⟨rfl,rfl⟩) ?_
     exact trivial
    case done4_5 =>
     intro f w9 g9 hv h9
     have er13:f 13 = .int .i64 key:=hv 9 13 rfl
     have er14:f 14 = .int .i64 0:=hv 10 14 rfl
     have hd:Hd W w9 (RSto b L4 m::Blk p10 (.cells #[.int .i64 tk,.int .i64 te] 57 (0,0))::RowR 3 1 (.slice a11 ks.length c11) ks.length (nums .i64 ks)::Blk p (.cells #[.pointer (some ⟨b,0,none⟩),.int .i64 xh,.int .i64 xs,.int .i64 xr,.int .i64 xv,.int .i64 ok,.int .i64 oe,.int .i64 sent,.int .i64 ik,.int .i64 ie,.int .u64 nx,.int .u64 bt,.slice ad es.length cap] 94 (0,0))::CaR (.slice ad es.length cap) es::Rs):=h9
     clear hv h9 cf27
     clear g9
     simp only [patchG,Nat.reduceAdd,Nat.reduceLeDiff,decide_true,decide_false,Bool.and_true,Bool.and_false,Bool.or_true,Bool.or_false,cond_true,cond_false,er13,er14]
     clear er13 er14
     clear H HP
     have H:=hid hd
     clear hd
     go_wp2_with fail
     have cf73:∀ args w,(callFunc 73 args).run Try.prog w = .ok (.enter 73 args) w:=fun args w=>by kernel_rfl
     refine hold_coreB (P:=Try.prog) (W:=W) (Rs:=(Blk p10 (.cells #[.int .i64 tk,.int .i64 te] 57 (0,0))::RowR 3 1 (.slice a11 ks.length c11) ks.length (nums .i64 ks)::Blk p (.cells #[.pointer (some ⟨b,0,none⟩),.int .i64 xh,.int .i64 xs,.int .i64 xr,.int .i64 xv,.int .i64 ok,.int .i64 oe,.int .i64 sent,.int .i64 ik,.int .i64 ie,.int .u64 nx,.int .u64 bt,.slice ad es.length cap] 94 (0,0))::CaR (.slice ad es.length cap) es::Rs)) [[],[0],[1],[2],[],[],[5],[],[7],[8],[9],[10],[],[3,4,6,11,12],[13],[14],[14],[15],[16]] [[],[],[],[],[],[],[],[],[],[],[],[],[],[],[],[],[],[],[]] ([some 54,some 55,some 56,some 57,some 58,some 59,some 60,some 61,some 62,some 63,some 64,some 65,some 66,some 67,some 53,some 68,some 69,some 15,some 16]:List (Option Nat)) ([none,none,none,none,none,none,none,none,none,none,none,none,none,none,none,none,none,none,none,some 13]:List (Option Nat)) ((fun _=>pt p 0)::(fun _=>pt p 0)::(fun _=>pt p 0)::(fun _=>pt b 0)::(fun _=>.int .i64 key)::(fun _=>.int .i64 n)::(fun _=>.int .u64 n)::(fun _=>pt p 0)::(fun _=>pt p 0)::(fun _=>pt p 1)::(fun _=>pt p 1)::(fun _=>.int .i64 xh)::(fun _=>.int .i64 c)::(fun _=>.tuple #[.string txt,.int .i64 er2])::(fun _=>.tuple #[.string txt,.int .i64 er2])::(fun _=>.string txt)::(fun _=>.int .i64 er2)::(fun _=>.string txt)::(fun _=>.int .i64 er2)::[]) (zR::zR::zR::zR::zR::zR::zR::zR::zR::zR::zR::zR::zR::zR::zR::zR::zR::zR::zR::(fun _=>[RSto b L4 m])::([]:List (List Gh → List Res))) (zR::zR::zR::zR::zR::zR::zR::zR::zR::zR::zR::zR::zR::zR::zR::zR::zR::zR::zR::(fun _=>[RSto b L4 m])::([]:List (List Gh → List Res))) (by kernel_rfl) rfl (hold_lt (n:=128) (by decide)) H.out rfl (by decide) (hold_nil (fs:=[13]) trivial rfl ?nil7_6) ?gd7_6 ?step7_6 (fun t=>(decide (15 ≤ t) && decide (t ≤ 16)) || (decide (53 ≤ t) && decide (t ≤ 69))) (by decide) ?done7_6 (fun I h0 st dn=>run_wpB mixed I h0 st dn)
     case nil7_6 =>
      intro s gs hs
      simp only [List.mem_cons,List.not_mem_nil,or_false] at hs
      subst hs; rfl
     case gd7_6 =>
      repeat (refine StepAll.cons (by first | exact trivial | exact fun g=>rfl) ?_)
      exact trivial
     case step7_6 =>
      refine .cons (pR 0 rfl fun _=>⟨rfl,rfl⟩) ?_
      refine .cons (pN 0 54 rfl fun _=>⟨rfl,rfl⟩) ?_
      refine .cons (pF 1 55 0 rfl rfl (fun b q w=>by simp [go_sem]) fun _=>⟨⟨_,_,rfl,rfl⟩,rfl⟩) ?_
      refine StepAll.cons ?_ ?_
      · refine HoldStepB.val (by decide) fun a wx γ hn hr hres hpre Ss hH K hK=>?_
        have e56:a.eval (.tmp 56) = .pointer (some ⟨p,0,none⟩):=hn 2 (by decide) 56 rfl
        exact hold_run (v:=.pointer (some ⟨b,0,none⟩)) (by clear hn hr hK; generalize a.eval = ρ at *; simp [execOp,e56,cell_of_heap (Hd.nthk 2 hH.rear rfl),go_sem]) rfl rfl hH hK
      refine .cons (pR 13 rfl fun _=>⟨rfl,rfl⟩) ?_
      refine .cons (pR 2 rfl fun _=>⟨rfl,rfl⟩) ?_
      refine StepAll.cons ?_ ?_
      · refine HoldStepB.val (by decide) fun a wx γ hn hr hres hpre Ss hH K hK=>?_
        have e59:a.eval (.tmp 59) = .int .i64 n:=hn 5 (by decide) 59 rfl
        exact hold_run (v:=.int .u64 n) (by clear hn hr hK; generalize a.eval = ρ at *; simp [execOp,e59,zcv,go_sem]) rfl rfl hH hK
      refine .cons (pR 0 rfl fun _=>⟨rfl,rfl⟩) ?_
      refine .cons (pN 7 61 rfl fun _=>⟨rfl,rfl⟩) ?_
      refine .cons (pF 8 62 1 rfl rfl (fun b q w=>by simp [go_sem]) fun _=>⟨⟨_,_,rfl,rfl⟩,rfl⟩) ?_
      refine .cons (pF 9 63 0 rfl rfl (fun b q w=>by simp [go_sem]) fun _=>⟨⟨_,_,rfl,rfl⟩,rfl⟩) ?_
      refine StepAll.cons ?_ ?_
      · refine HoldStepB.val (by decide) fun a wx γ hn hr hres hpre Ss hH K hK=>?_
        have e64:a.eval (.tmp 64) = .pointer (some ⟨p,1,none⟩):=hn 10 (by decide) 64 rfl
        exact hold_run (v:=.int .i64 xh) (by clear hn hr hK; generalize a.eval = ρ at *; simp [execOp,e64,cell_of_heap (Hd.nthk 2 hH.rear rfl),go_sem]) rfl rfl hH hK
      refine .cons (pR 3 rfl fun _=>⟨rfl,rfl⟩) ?_
      refine StepAll.cons ?_ ?_
      · refine HoldStepB.fil 19 (by decide) fun a wx γ hn hr hres hpre Ss hH K hK=>?_
        have e57:a.eval (.tmp 57) = .pointer (some ⟨b,0,none⟩):=hn 3 (by decide) 57 rfl
        have e58:a.eval (.tmp 58) = .int .i64 key:=hn 4 (by decide) 58 rfl
        have e60:a.eval (.tmp 60) = .int .u64 n:=hn 6 (by decide) 60 rfl
        have e65:a.eval (.tmp 65) = .int .i64 xh:=hn 11 (by decide) 65 rfl
        have e66:a.eval (.tmp 66) = .int .i64 c:=hn 12 (by decide) 66 rfl
        have ef:a.eval (.func 73) = .func (.func 73) #[] #[]:=rfl
        refine hold_callB (b:=19) (f:=73) (args:=#[.pointer (some ⟨b,0,none⟩),.int .i64 key,.int .u64 n,.int .i64 xh,.int .i64 c]) (by clear hn hr hK hH; generalize a.eval = ρ at *; simp [execOp,e57,e58,e60,e65,e66,cf73,ef,go_sem]) ?_ hK
        refine (rread_calls key n xh c hH).mono fun e2 w2 h=>?_
        rw [HRD.out] at h
        exact ⟨default,h.1,h.2⟩
      refine .cons (pN 13 67 rfl fun _=>⟨rfl,rfl⟩) ?_
      refine .cons (pN 14 53 rfl fun _=>⟨rfl,rfl⟩) ?_
      refine .cons (pN 14 53 rfl fun _=>⟨rfl,rfl⟩) ?_
      refine .cons (pN 15 68 rfl fun _=>⟨rfl,rfl⟩) ?_
      refine .cons (pN 16 69 rfl fun _=>⟨rfl,rfl⟩) ?_
      exact trivial
     case done7_6 =>
      intro f w9 g9 hv h9
      have er15:f 15 = .string txt:=hv 17 15 rfl
      have er16:f 16 = .int .i64 er2:=hv 18 16 rfl
      have hd:Hd W w9 (RSto b L4 m::Blk p10 (.cells #[.int .i64 tk,.int .i64 te] 57 (0,0))::RowR 3 1 (.slice a11 ks.length c11) ks.length (nums .i64 ks)::Blk p (.cells #[.pointer (some ⟨b,0,none⟩),.int .i64 xh,.int .i64 xs,.int .i64 xr,.int .i64 xv,.int .i64 ok,.int .i64 oe,.int .i64 sent,.int .i64 ik,.int .i64 ie,.int .u64 nx,.int .u64 bt,.slice ad es.length cap] 94 (0,0))::CaR (.slice ad es.length cap) es::Rs):=h9
      clear hv h9 cf73
      clear g9
      simp only [patchG,Nat.reduceAdd,Nat.reduceLeDiff,decide_true,decide_false,Bool.and_true,Bool.and_false,Bool.or_true,Bool.or_false,cond_true,cond_false,er15,er16]
      clear er15 er16
      clear H HRD
      have H:=hid hd
      clear hd
      go_wp2_with fail
      refine bodyPost_ret (v:=.tuple #[.string ⟨#[]⟩,.int .i64 er2]) (by simp [results,Try.results70,go_sem]) rfl ⟨ad,cap,rfl,?_⟩
      exact H.out.un2.un2
 subst h5
 rw [if_pos rfl] at hq
 simp only [Prod.mk.injEq] at hq
 obtain ⟨⟨rfl,rfl⟩,rfl,rfl⟩:=hq
 go_enter Try.func70,Try.ntmps70
 go_wp2_with fail
 have cf30:∀ args w,(callFunc 30 args).run Try.prog w = .ok (.enter 30 args) w:=fun args w=>by kernel_rfl
 refine hold_coreB (P:=Try.prog) (W:=W) (Rs:=(Blk p (.cells #[.pointer (some ⟨b,0,none⟩),.int .i64 xh,.int .i64 xs,.int .i64 xr,.int .i64 xv,.int .i64 ok,.int .i64 oe,.int .i64 sent,.int .i64 ik,.int .i64 ie,.int .u64 nx,.int .u64 bt,.slice ad es.length cap] 94 (0,0))::CaR (.slice ad es.length cap) es::Rs)) [[],[0],[1],[2],[],[4],[5],[6],[],[3,7,8],[9],[10],[10],[10],[],[11,14],[12],[13]] [[],[],[],[],[],[],[],[],[],[9],[9],[],[9],[],[14],[14],[9],[]] ([some 25,some 26,some 27,some 28,some 29,some 30,some 31,some 32,some 33,some 34,some 24,some 35,some 36,some 37,some 10,none,some 11,some 12]:List (Option Nat)) ([none,none,none,none,none,none,none,none,none,none,none,none,none,none,some 15,none,none,none,some 9]:List (Option Nat)) ((fun _=>pt p 0)::(fun _=>pt p 0)::(fun _=>pt p 0)::(fun _=>pt b 0)::(fun _=>pt p 0)::(fun _=>pt p 0)::(fun _=>pt p 8)::(fun _=>.agg #[.int .i64 ik,.int .i64 ie])::(fun _=>.int .i64 e)::(fun gs=>.tuple #[.agg #[.int .i64 tk,.int .i64 te],.slice (gs.getD 0 default).1 ks.length (gs.getD 0 default).2,.int .i64 0])::(fun gs=>.tuple #[.agg #[.int .i64 tk,.int .i64 te],.slice (gs.getD 0 default).1 ks.length (gs.getD 0 default).2,.int .i64 0])::(fun _=>.agg #[.int .i64 tk,.int .i64 te])::(fun gs=>.slice (gs.getD 0 default).1 ks.length (gs.getD 0 default).2)::(fun _=>.int .i64 0)::(fun gs=>pt ((gs.getD 0 default).2) 0)::(fun _=>undef)::(fun gs=>.slice (gs.getD 0 default).1 ks.length (gs.getD 0 default).2)::(fun _=>.int .i64 0)::[]) (zR::zR::zR::zR::zR::zR::zR::zR::zR::zR::zR::zR::zR::zR::(fun gs=>[Blk (gs.getD 0 default).2 (.cells #[.int .i64 0,.int .i64 0] 57 (0,0))])::zR::zR::zR::(fun _=>[RSto b L m])::([]:List (List Gh → List Res))) (zR::zR::zR::zR::zR::zR::zR::zR::zR::zR::zR::zR::zR::zR::(fun gs=>[Blk (gs.getD 0 default).2 (.cells #[.int .i64 tk,.int .i64 te] 57 (0,0))])::zR::zR::zR::(fun gs=>[RowR 3 1 (.slice (gs.getD 0 default).1 ks.length (gs.getD 0 default).2) ks.length (nums .i64 ks),RSto b L3 m])::([]:List (List Gh → List Res))) (by kernel_rfl) rfl (hold_lt (n:=128) (by decide)) H.out rfl (by decide) (hold_nil (fs:=[15,9]) trivial rfl ?nil1_7) ?gd1_7 ?step1_7 (fun t=>(decide (10 ≤ t) && decide (t ≤ 12)) || (decide (24 ≤ t) && decide (t ≤ 37))) (by decide) ?done1_7 (fun I h0 st dn=>run_wpB mixed I h0 st dn)
 case nil1_7 =>
  intro s gs hs
  simp only [List.mem_cons,List.not_mem_nil,or_false] at hs
  rcases hs with rfl | rfl <;> rfl
 case gd1_7 =>
  repeat (refine StepAll.cons (by first | exact trivial | exact fun g=>rfl) ?_)
  exact trivial
 case step1_7 =>
  refine .cons (pR 0 rfl fun _=>⟨rfl,rfl⟩) ?_
  refine .cons (pN 0 25 rfl fun _=>⟨rfl,rfl⟩) ?_
  refine .cons (pF 1 26 0 rfl rfl (fun b q w=>by simp [go_sem]) fun _=>⟨⟨_,_,rfl,rfl⟩,rfl⟩) ?_
  refine StepAll.cons ?_ ?_
  · refine HoldStepB.val (by decide) fun a wx γ hn hr hres hpre Ss hH K hK=>?_
    have e27:a.eval (.tmp 27) = .pointer (some ⟨p,0,none⟩):=hn 2 (by decide) 27 rfl
    exact hold_run (v:=.pointer (some ⟨b,0,none⟩)) (by clear hn hr hK; generalize a.eval = ρ at *; simp [execOp,e27,cell_of_heap (Hd.nthk 0 hH.rear rfl),go_sem]) rfl rfl hH hK
  refine .cons (pR 0 rfl fun _=>⟨rfl,rfl⟩) ?_
  refine .cons (pN 4 29 rfl fun _=>⟨rfl,rfl⟩) ?_
  refine .cons (pF 5 30 8 rfl rfl (fun b q w=>by simp [go_sem]) fun _=>⟨⟨_,_,rfl,rfl⟩,rfl⟩) ?_
  refine StepAll.cons ?_ ?_
  · refine HoldStepB.val (by decide) fun a wx γ hn hr hres hpre Ss hH K hK=>?_
    have e31:a.eval (.tmp 31) = .pointer (some ⟨p,8,none⟩):=hn 6 (by decide) 31 rfl
    exact hold_run (v:=.agg #[.int .i64 ik,.int .i64 ie]) (by clear hn hr hK; generalize a.eval = ρ at *; simp [execOp,e31,cell_of_heap (Hd.nthk 0 hH.rear rfl),go_sem]) rfl rfl hH hK
  refine .cons (pR 1 rfl fun _=>⟨rfl,rfl⟩) ?_
  refine StepAll.cons ?_ ?_
  · refine HoldStepB.fil 18 (by decide) fun a wx γ hn hr hres hpre Ss hH K hK=>?_
    have e28:a.eval (.tmp 28) = .pointer (some ⟨b,0,none⟩):=hn 3 (by decide) 28 rfl
    have e32:a.eval (.tmp 32) = .agg #[.int .i64 ik,.int .i64 ie]:=hn 7 (by decide) 32 rfl
    have e33:a.eval (.tmp 33) = .int .i64 e:=hn 8 (by decide) 33 rfl
    have ef:a.eval (.func 30) = .func (.func 30) #[] #[]:=rfl
    refine hold_callB (b:=18) (f:=30) (args:=#[.pointer (some ⟨b,0,none⟩),.agg #[.int .i64 ik,.int .i64 ie],.int .i64 e]) (by clear hn hr hK hH; generalize a.eval = ρ at *; simp [execOp,e28,e32,e33,cf30,ef,go_sem]) ?_ hK
    refine (rto_calls ik ie e (by have:=HIE.out; have:=HLO.out; omega) (by have:=HIE.out; omega) (by have:=HLO.out; omega) (by have:=HLO.out; omega) hH HT.out).mono ?_
    rintro e9 w9 ⟨vv,rfl,h9⟩
    obtain ⟨a9,c9,rfl⟩:=h9.row_form
    exact ⟨(a9,c9),rfl,h9⟩
  refine .cons (pN 9 34 rfl fun _=>⟨rfl,rfl⟩) ?_
  refine .cons (pN 10 24 rfl fun _=>⟨rfl,rfl⟩) ?_
  refine .cons (pN 10 24 rfl fun _=>⟨rfl,rfl⟩) ?_
  refine .cons (pN 10 24 rfl fun _=>⟨rfl,rfl⟩) ?_
  refine StepAll.cons ?_ ?_
  · refine HoldStepB.val (by decide) fun a wx γ hn hr hres hpre Ss hH K hK=>?_
    exact hold_new (obj:=.cells #[.int .i64 0,.int .i64 0] 57 (0,0)) (v:=.pointer (some ⟨wx.heap.size,0,none⟩)) (by clear hn hr hK; generalize a.eval = ρ at *; simp [execOp,go_sem]) rfl rfl hH hK
  refine StepAll.cons ?_ ?_
  · refine HoldStepB.fil 14 (by decide) fun a wx γ hn hr hres hpre Ss hH K hK=>?_
    have e10:a.eval (.tmp 10) = .pointer (some ⟨(γ 14).2,0,none⟩):=hn 14 (by decide) 10 rfl
    have e35:a.eval (.tmp 35) = .agg #[.int .i64 tk,.int .i64 te]:=hn 11 (by decide) 35 rfl
    have hH2:Hd W wx (Blk (γ 14).2 (.cells #[.int .i64 0,.int .i64 0] 57 (0,0))::(Ss ++ (Blk p (.cells #[.pointer (some ⟨b,0,none⟩),.int .i64 xh,.int .i64 xs,.int .i64 xr,.int .i64 xv,.int .i64 ok,.int .i64 oe,.int .i64 sent,.int .i64 ik,.int .i64 ie,.int .u64 nx,.int .u64 bt,.slice ad es.length cap] 94 (0,0))::CaR (.slice ad es.length cap) es::Rs))):=hH
    have hk:=hH2.blk
    have c0:=(cell_of_heap hk 0).trans (show _ = some (.int .i64 0) from rfl)
    have c1:=(cell_of_heap hk 1).trans (show _ = some (.int .i64 0) from rfl)
    have cf:=frozen_of_heap hk
    clear hk hH
    exact hold_filB (w':=((wx.setCell ⟨(γ 14).2,0,none⟩ (.int .i64 tk)).setCell ⟨(γ 14).2,1,none⟩ (.int .i64 te))) (by clear hn hr hK hH2; generalize a.eval = ρ at *; simp [execOp,e10,e35,c0,c1,cf,go_sem]) rfl rfl ((hH2.set 0 (.int .i64 tk)).set 1 (.int .i64 te)) hK
  refine .cons (pN 12 36 rfl fun _=>⟨rfl,rfl⟩) ?_
  refine .cons (pN 13 37 rfl fun _=>⟨rfl,rfl⟩) ?_
  exact trivial
 case done1_7 =>
  intro f w9 g9 hv h9
  have er10:f 10 = .pointer (some ⟨(g9 14).2,0,none⟩):=hv 14 10 rfl
  have er11:f 11 = .slice (g9 9).1 ks.length (g9 9).2:=hv 16 11 rfl
  have er12:f 12 = .int .i64 0:=hv 17 12 rfl
  have hd:Hd W w9 (Blk (g9 14).2 (.cells #[.int .i64 tk,.int .i64 te] 57 (0,0))::RowR 3 1 (.slice (g9 9).1 ks.length (g9 9).2) ks.length (nums .i64 ks)::RSto b L3 m::Blk p (.cells #[.pointer (some ⟨b,0,none⟩),.int .i64 xh,.int .i64 xs,.int .i64 xr,.int .i64 xv,.int .i64 ok,.int .i64 oe,.int .i64 sent,.int .i64 ik,.int .i64 ie,.int .u64 nx,.int .u64 bt,.slice ad es.length cap] 94 (0,0))::CaR (.slice ad es.length cap) es::Rs):=h9
  obtain ⟨⟨a11,c11⟩,hG9⟩:∃ x,g9 9 = x:=⟨_,rfl⟩
  obtain ⟨⟨_,p10⟩,hG14⟩:∃ x,g9 14 = x:=⟨_,rfl⟩
  simp only [hG9,hG14] at hd er10 er11 er12
  clear hv h9 hG9 hG14 cf30
  clear g9
  simp only [patchG,Nat.reduceAdd,Nat.reduceLeDiff,decide_true,decide_false,Bool.and_true,Bool.and_false,Bool.or_true,Bool.or_false,cond_true,cond_false,er10,er11,er12]
  clear er10 er11 er12
  clear H HT
  have H:=hid ((((((hd.front 4 rfl).front 4 rfl).front 3 rfl).front 3 rfl).front 4 rfl))
  clear hd
  go_wp2_with fail
  have cf27:∀ args w,(callFunc 27 args).run Try.prog w = .ok (.enter 27 args) w:=fun args w=>by kernel_rfl
  refine hold_coreB (P:=Try.prog) (W:=W) (Rs:=(Blk p10 (.cells #[.int .i64 tk,.int .i64 te] 57 (0,0))::RowR 3 1 (.slice a11 ks.length c11) ks.length (nums .i64 ks)::Blk p (.cells #[.pointer (some ⟨b,0,none⟩),.int .i64 xh,.int .i64 xs,.int .i64 xr,.int .i64 xv,.int .i64 ok,.int .i64 oe,.int .i64 sent,.int .i64 ik,.int .i64 ie,.int .u64 nx,.int .u64 bt,.slice ad es.length cap] 94 (0,0))::CaR (.slice ad es.length cap) es::Rs)) [[],[0],[1],[2],[],[3,4],[5],[6],[6],[7],[8]] [[],[],[],[],[],[],[],[],[],[],[]] ([some 42,some 43,some 44,some 45,some 46,some 47,some 41,some 48,some 49,some 13,some 14]:List (Option Nat)) ([none,none,none,none,none,none,none,none,none,none,none,some 5]:List (Option Nat)) ((fun _=>pt p 0)::(fun _=>pt p 0)::(fun _=>pt p 0)::(fun _=>pt b 0)::(fun _=>.agg #[.int .i64 tk,.int .i64 te])::(fun _=>.tuple #[.int .i64 key,.int .i64 0])::(fun _=>.tuple #[.int .i64 key,.int .i64 0])::(fun _=>.int .i64 key)::(fun _=>.int .i64 0)::(fun _=>.int .i64 key)::(fun _=>.int .i64 0)::[]) (zR::zR::zR::zR::zR::zR::zR::zR::zR::zR::zR::(fun _=>[RSto b L3 m])::([]:List (List Gh → List Res))) (zR::zR::zR::zR::zR::zR::zR::zR::zR::zR::zR::(fun _=>[RSto b L4 m])::([]:List (List Gh → List Res))) (by kernel_rfl) rfl (hold_lt (n:=128) (by decide)) H.out rfl (by decide) (hold_nil (fs:=[5]) trivial rfl ?nil4_8) ?gd4_8 ?step4_8 (fun t=>(decide (13 ≤ t) && decide (t ≤ 14)) || (decide (41 ≤ t) && decide (t ≤ 49))) (by decide) ?done4_8 (fun I h0 st dn=>run_wpB mixed I h0 st dn)
  case nil4_8 =>
   intro s gs hs
   simp only [List.mem_cons,List.not_mem_nil,or_false] at hs
   subst hs; rfl
  case gd4_8 =>
   repeat (refine StepAll.cons (by first | exact trivial | exact fun g=>rfl) ?_)
   exact trivial
  case step4_8 =>
   refine .cons (pR 0 rfl fun _=>⟨rfl,rfl⟩) ?_
   refine .cons (pN 0 42 rfl fun _=>⟨rfl,rfl⟩) ?_
   refine .cons (pF 1 43 0 rfl rfl (fun b q w=>by simp [go_sem]) fun _=>⟨⟨_,_,rfl,rfl⟩,rfl⟩) ?_
   refine StepAll.cons ?_ ?_
   · refine HoldStepB.val (by decide) fun a wx γ hn hr hres hpre Ss hH K hK=>?_
     have e44:a.eval (.tmp 44) = .pointer (some ⟨p,0,none⟩):=hn 2 (by decide) 44 rfl
     exact hold_run (v:=.pointer (some ⟨b,0,none⟩)) (by clear hn hr hK; generalize a.eval = ρ at *; simp [execOp,e44,cell_of_heap (Hd.nthk 2 hH.rear rfl),go_sem]) rfl rfl hH hK
   refine StepAll.cons ?_ ?_
   · refine HoldStepB.val (by decide) fun a wx γ hn hr hres hpre Ss hH K hK=>?_
     have e10:a.eval (.tmp 10) = .pointer (some ⟨p10,0,none⟩):=(hr 10 (by decide)).trans rfl
     exact hold_run (v:=.agg #[.int .i64 tk,.int .i64 te]) (by clear hn hr hK; generalize a.eval = ρ at *; simp [execOp,e10,cell_of_heap (Hd.nthk 0 hH.rear rfl),go_sem]) rfl rfl hH hK
   refine StepAll.cons ?_ ?_
   · refine HoldStepB.fil 11 (by decide) fun a wx γ hn hr hres hpre Ss hH K hK=>?_
     have e45:a.eval (.tmp 45) = .pointer (some ⟨b,0,none⟩):=hn 3 (by decide) 45 rfl
     have e46:a.eval (.tmp 46) = .agg #[.int .i64 tk,.int .i64 te]:=hn 4 (by decide) 46 rfl
     have ef:a.eval (.func 27) = .func (.func 27) #[] #[]:=rfl
     refine hold_callB (b:=11) (f:=27) (args:=#[.pointer (some ⟨b,0,none⟩),.agg #[.int .i64 tk,.int .i64 te]]) (by clear hn hr hK hH; generalize a.eval = ρ at *; simp [execOp,e45,e46,cf27,ef,go_sem]) ?_ hK
     exact (rseal15_calls tk te HP.out hH).mono fun e2 w2 h=>⟨default,h.1,h.2⟩
   refine .cons (pN 5 47 rfl fun _=>⟨rfl,rfl⟩) ?_
   refine .cons (pN 6 41 rfl fun _=>⟨rfl,rfl⟩) ?_
   refine .cons (pN 6 41 rfl fun _=>⟨rfl,rfl⟩) ?_
   refine .cons (pN 7 48 rfl fun _=>⟨rfl,rfl⟩) ?_
   refine .cons (pN 8 49 rfl fun _=>⟨rfl,rfl⟩) ?_
   exact trivial
  case done4_8 =>
   intro f w9 g9 hv h9
   have er13:f 13 = .int .i64 key:=hv 9 13 rfl
   have er14:f 14 = .int .i64 0:=hv 10 14 rfl
   have hd:Hd W w9 (RSto b L4 m::Blk p10 (.cells #[.int .i64 tk,.int .i64 te] 57 (0,0))::RowR 3 1 (.slice a11 ks.length c11) ks.length (nums .i64 ks)::Blk p (.cells #[.pointer (some ⟨b,0,none⟩),.int .i64 xh,.int .i64 xs,.int .i64 xr,.int .i64 xv,.int .i64 ok,.int .i64 oe,.int .i64 sent,.int .i64 ik,.int .i64 ie,.int .u64 nx,.int .u64 bt,.slice ad es.length cap] 94 (0,0))::CaR (.slice ad es.length cap) es::Rs):=h9
   clear hv h9 cf27
   clear g9
   simp only [patchG,Nat.reduceAdd,Nat.reduceLeDiff,decide_true,decide_false,Bool.and_true,Bool.and_false,Bool.or_true,Bool.or_false,cond_true,cond_false,er13,er14]
   clear er13 er14
   clear H HP
   have H:=hid hd
   clear hd
   go_wp2_with fail
   have cf73:∀ args w,(callFunc 73 args).run Try.prog w = .ok (.enter 73 args) w:=fun args w=>by kernel_rfl
   refine hold_coreB (P:=Try.prog) (W:=W) (Rs:=(Blk p10 (.cells #[.int .i64 tk,.int .i64 te] 57 (0,0))::RowR 3 1 (.slice a11 ks.length c11) ks.length (nums .i64 ks)::Blk p (.cells #[.pointer (some ⟨b,0,none⟩),.int .i64 xh,.int .i64 xs,.int .i64 xr,.int .i64 xv,.int .i64 ok,.int .i64 oe,.int .i64 sent,.int .i64 ik,.int .i64 ie,.int .u64 nx,.int .u64 bt,.slice ad es.length cap] 94 (0,0))::CaR (.slice ad es.length cap) es::Rs)) [[],[0],[1],[2],[],[],[5],[],[7],[8],[9],[10],[],[3,4,6,11,12],[13],[14],[14],[15],[16]] [[],[],[],[],[],[],[],[],[],[],[],[],[],[],[],[],[],[],[]] ([some 54,some 55,some 56,some 57,some 58,some 59,some 60,some 61,some 62,some 63,some 64,some 65,some 66,some 67,some 53,some 68,some 69,some 15,some 16]:List (Option Nat)) ([none,none,none,none,none,none,none,none,none,none,none,none,none,none,none,none,none,none,none,some 13]:List (Option Nat)) ((fun _=>pt p 0)::(fun _=>pt p 0)::(fun _=>pt p 0)::(fun _=>pt b 0)::(fun _=>.int .i64 key)::(fun _=>.int .i64 n)::(fun _=>.int .u64 n)::(fun _=>pt p 0)::(fun _=>pt p 0)::(fun _=>pt p 1)::(fun _=>pt p 1)::(fun _=>.int .i64 xh)::(fun _=>.int .i64 c)::(fun _=>.tuple #[.string txt,.int .i64 0])::(fun _=>.tuple #[.string txt,.int .i64 0])::(fun _=>.string txt)::(fun _=>.int .i64 0)::(fun _=>.string txt)::(fun _=>.int .i64 0)::[]) (zR::zR::zR::zR::zR::zR::zR::zR::zR::zR::zR::zR::zR::zR::zR::zR::zR::zR::zR::(fun _=>[RSto b L4 m])::([]:List (List Gh → List Res))) (zR::zR::zR::zR::zR::zR::zR::zR::zR::zR::zR::zR::zR::zR::zR::zR::zR::zR::zR::(fun _=>[RSto b L4 m])::([]:List (List Gh → List Res))) (by kernel_rfl) rfl (hold_lt (n:=128) (by decide)) H.out rfl (by decide) (hold_nil (fs:=[13]) trivial rfl ?nil7_9) ?gd7_9 ?step7_9 (fun t=>(decide (15 ≤ t) && decide (t ≤ 16)) || (decide (53 ≤ t) && decide (t ≤ 69))) (by decide) ?done7_9 (fun I h0 st dn=>run_wpB mixed I h0 st dn)
   case nil7_9 =>
    intro s gs hs
    simp only [List.mem_cons,List.not_mem_nil,or_false] at hs
    subst hs; rfl
   case gd7_9 =>
    repeat (refine StepAll.cons (by first | exact trivial | exact fun g=>rfl) ?_)
    exact trivial
   case step7_9 =>
    refine .cons (pR 0 rfl fun _=>⟨rfl,rfl⟩) ?_
    refine .cons (pN 0 54 rfl fun _=>⟨rfl,rfl⟩) ?_
    refine .cons (pF 1 55 0 rfl rfl (fun b q w=>by simp [go_sem]) fun _=>⟨⟨_,_,rfl,rfl⟩,rfl⟩) ?_
    refine StepAll.cons ?_ ?_
    · refine HoldStepB.val (by decide) fun a wx γ hn hr hres hpre Ss hH K hK=>?_
      have e56:a.eval (.tmp 56) = .pointer (some ⟨p,0,none⟩):=hn 2 (by decide) 56 rfl
      exact hold_run (v:=.pointer (some ⟨b,0,none⟩)) (by clear hn hr hK; generalize a.eval = ρ at *; simp [execOp,e56,cell_of_heap (Hd.nthk 2 hH.rear rfl),go_sem]) rfl rfl hH hK
    refine .cons (pR 13 rfl fun _=>⟨rfl,rfl⟩) ?_
    refine .cons (pR 2 rfl fun _=>⟨rfl,rfl⟩) ?_
    refine StepAll.cons ?_ ?_
    · refine HoldStepB.val (by decide) fun a wx γ hn hr hres hpre Ss hH K hK=>?_
      have e59:a.eval (.tmp 59) = .int .i64 n:=hn 5 (by decide) 59 rfl
      exact hold_run (v:=.int .u64 n) (by clear hn hr hK; generalize a.eval = ρ at *; simp [execOp,e59,zcv,go_sem]) rfl rfl hH hK
    refine .cons (pR 0 rfl fun _=>⟨rfl,rfl⟩) ?_
    refine .cons (pN 7 61 rfl fun _=>⟨rfl,rfl⟩) ?_
    refine .cons (pF 8 62 1 rfl rfl (fun b q w=>by simp [go_sem]) fun _=>⟨⟨_,_,rfl,rfl⟩,rfl⟩) ?_
    refine .cons (pF 9 63 0 rfl rfl (fun b q w=>by simp [go_sem]) fun _=>⟨⟨_,_,rfl,rfl⟩,rfl⟩) ?_
    refine StepAll.cons ?_ ?_
    · refine HoldStepB.val (by decide) fun a wx γ hn hr hres hpre Ss hH K hK=>?_
      have e64:a.eval (.tmp 64) = .pointer (some ⟨p,1,none⟩):=hn 10 (by decide) 64 rfl
      exact hold_run (v:=.int .i64 xh) (by clear hn hr hK; generalize a.eval = ρ at *; simp [execOp,e64,cell_of_heap (Hd.nthk 2 hH.rear rfl),go_sem]) rfl rfl hH hK
    refine .cons (pR 3 rfl fun _=>⟨rfl,rfl⟩) ?_
    refine StepAll.cons ?_ ?_
    · refine HoldStepB.fil 19 (by decide) fun a wx γ hn hr hres hpre Ss hH K hK=>?_
      have e57:a.eval (.tmp 57) = .pointer (some ⟨b,0,none⟩):=hn 3 (by decide) 57 rfl
      have e58:a.eval (.tmp 58) = .int .i64 key:=hn 4 (by decide) 58 rfl
      have e60:a.eval (.tmp 60) = .int .u64 n:=hn 6 (by decide) 60 rfl
      have e65:a.eval (.tmp 65) = .int .i64 xh:=hn 11 (by decide) 65 rfl
      have e66:a.eval (.tmp 66) = .int .i64 c:=hn 12 (by decide) 66 rfl
      have ef:a.eval (.func 73) = .func (.func 73) #[] #[]:=rfl
      refine hold_callB (b:=19) (f:=73) (args:=#[.pointer (some ⟨b,0,none⟩),.int .i64 key,.int .u64 n,.int .i64 xh,.int .i64 c]) (by clear hn hr hK hH; generalize a.eval = ρ at *; simp [execOp,e57,e58,e60,e65,e66,cf73,ef,go_sem]) ?_ hK
      refine (rread_calls key n xh c hH).mono fun e2 w2 h=>?_
      rw [HRD.out] at h
      exact ⟨default,h.1,h.2⟩
    refine .cons (pN 13 67 rfl fun _=>⟨rfl,rfl⟩) ?_
    refine .cons (pN 14 53 rfl fun _=>⟨rfl,rfl⟩) ?_
    refine .cons (pN 14 53 rfl fun _=>⟨rfl,rfl⟩) ?_
    refine .cons (pN 15 68 rfl fun _=>⟨rfl,rfl⟩) ?_
    refine .cons (pN 16 69 rfl fun _=>⟨rfl,rfl⟩) ?_
    exact trivial
   case done7_9 =>
    intro f w9 g9 hv h9
    have er15:f 15 = .string txt:=hv 17 15 rfl
    have er16:f 16 = .int .i64 0:=hv 18 16 rfl
    have hd:Hd W w9 (RSto b L4 m::Blk p10 (.cells #[.int .i64 tk,.int .i64 te] 57 (0,0))::RowR 3 1 (.slice a11 ks.length c11) ks.length (nums .i64 ks)::Blk p (.cells #[.pointer (some ⟨b,0,none⟩),.int .i64 xh,.int .i64 xs,.int .i64 xr,.int .i64 xv,.int .i64 ok,.int .i64 oe,.int .i64 sent,.int .i64 ik,.int .i64 ie,.int .u64 nx,.int .u64 bt,.slice ad es.length cap] 94 (0,0))::CaR (.slice ad es.length cap) es::Rs):=h9
    clear hv h9 cf73
    clear g9
    simp only [patchG,Nat.reduceAdd,Nat.reduceLeDiff,decide_true,decide_false,Bool.and_true,Bool.and_false,Bool.or_true,Bool.or_false,cond_true,cond_false,er15,er16]
    clear er15 er16
    clear H HRD
    have H:=hid hd
    clear hd
    obtain ⟨gK,hgK⟩:∃ gK,a11 = some ⟨gK,0,none⟩:=by
     have hk0:ks[0]? = some (ks[0]'(by have:=HKL.out; omega)):=List.getElem?_eq_getElem _
     obtain ⟨gq,cq,eq9,_⟩:=(H.out.front 2 rfl).row_cell (j:=0) (u:=.int .i64 (ks[0]'(by have:=HKL.out; omega))) (by simp [nums,hk0])
     simp only [Value.slice.injEq] at eq9
     exact ⟨gq,eq9.1⟩
    subst hgK
    go_wp2_with fail
    go_loopw [17] (fun q wr=>∃ (i:Nat) (adi:Option Addr) (capi:Nat) (esi:List En),i ≤ ks.length ∧ q = .int .i64 i ∧ Hid (puts19 es ie nx bt (ks.take i) = esi) ∧ Hid (Rises esi ∧ esi.length ≤ 4) ∧ Hid (Hd W wr (RSto b L4 m::Blk p10 (.cells #[.int .i64 tk,.int .i64 te] 57 (0,0))::RowR 3 1 (.slice (some ⟨gK,0,none⟩) ks.length c11) ks.length (nums .i64 ks)::Blk p (.cells #[.pointer (some ⟨b,0,none⟩),.int .i64 xh,.int .i64 xs,.int .i64 xr,.int .i64 xv,.int .i64 ok,.int .i64 oe,.int .i64 sent,.int .i64 ik,.int .i64 ie,.int .u64 nx,.int .u64 bt,.slice adi esi.length capi] 94 (0,0))::CaR (.slice adi esi.length capi) esi::Rs))) (fun q _=>ks.length - (intOf q).toNat)
    case atStart=>exact ⟨0,ad,cap,es,by omega,rfl,hid rfl,hid ⟨HX.out.rc.rises,HX.out.rc.len⟩,H⟩
    case round =>
     clear H
     obtain ⟨i,adi,capi,esi,hi,rfl,HPu,HRi,H⟩:=hrel
     obtain ⟨wl,hwl⟩:∃ wl:World,wl = wr:=⟨_,rfl⟩
     rw [← hwl] at H ⊢
     clear hwl wr
     by_cases hlt:i < ks.length
     · have hd1:decide ((i:Int) < (ks.length:Int)) = true:=by simpa using hlt
       have hd1':decide (i < ks.length) = true:=by simpa using hlt
       have zi0:(0:Int) ≤ (i:Int):=by omega
       have zi1:(i:Int) < (ks.length:Int):=by omega
       have z1:IntKind.i64.wrap (ie + (i:Int)) = ie + i:=IntWalk.i64_in _ (by have:=HLO.out; have:=HKL.out; omega)
       have z4:IntKind.i64.wrap ((i:Int) + 1) = (i:Int) + 1:=IntWalk.i64_in _ (by have:=HKL.out; omega)
       obtain ⟨k,hk⟩:∃ k,ks[i]? = some k:=⟨ks[i],List.getElem?_eq_getElem hlt⟩
       have HU:=hid (show (nums .i64 ks)[i]? = some (.int .i64 k) by simp [nums,hk])
       have htk:ks.take (i + 1) = ks.take i ++ [k]:=by rw [List.take_add_one,hk]; rfl
       have hempty:ks.take i = [] ↔ i = 0:=by
        constructor
        · intro h
          have:=congrArg List.length h
          simp only [List.length_take,List.length_nil] at this
          omega
        · rintro rfl; rfl
       have hnext:puts19 es ie nx bt (ks.take (i + 1)) = (kPut esi ⟨ie + i,k,if i = 0 then nx else 0,if i = 0 then bt else 0⟩).1:=by
        rw [htk,puts19_snoc,HPu.out,List.length_take,show min i ks.length = i by omega]
        simp only [hempty]
       have HNX:=hid hnext
       have HLT:=hid hlt
       clear hlt hi hk htk hempty hnext
       by_cases hi0:i = 0
       · have e0:((i:Int) == 0) = true:=by simp; omega
         rw [if_pos hi0,if_pos hi0] at HNX
         clear hi0
         obtain ⟨⟨es2,⟨ga,gk,gx,gy⟩,gb⟩,hp⟩:∃ t,kPut esi ⟨ie + i,k,nx,bt⟩ = t:=⟨_,rfl⟩
         have hnx:=HNX.out
         rw [hp] at hnx
         have HNX2:Hid (puts19 es ie nx bt (ks.take (i + 1)) = es2):=hid hnx
         have hr1:=kPut_rises HRi.out.1 HRi.out.2 ⟨ie + i,k,nx,bt⟩
         have hr2:=kPut_length HRi.out.1 HRi.out.2 ⟨ie + i,k,nx,bt⟩
         rw [hp] at hr1 hr2
         rw [kPut_eq HRi.out.1 HRi.out.2] at hp
         have HP2:=hid hp
         have HR2:Hid (Rises es2 ∧ es2.length ≤ 4):=hid ⟨hr1,hr2⟩
         clear hp hnx HNX hr1 hr2
         go_wp2_with fail
         refine hold_coreB (P:=Try.prog) (W:=W) (Rs:=(RSto b L4 m::Blk p10 (.cells #[.int .i64 tk,.int .i64 te] 57 (0,0))::RowR 3 1 (.slice (some ⟨gK,0,none⟩) ks.length c11) ks.length (nums .i64 ks)::Blk p (.cells #[.pointer (some ⟨b,0,none⟩),.int .i64 xh,.int .i64 xs,.int .i64 xr,.int .i64 xv,.int .i64 ok,.int .i64 oe,.int .i64 sent,.int .i64 ik,.int .i64 ie,.int .u64 nx,.int .u64 bt,.slice adi esi.length capi] 94 (0,0))::CaR (.slice adi esi.length capi) esi::Rs)) [[],[0],[1],[2],[3],[],[4,5],[],[],[7,8],[9],[6,10],[],[11,12]] [[],[],[],[],[],[],[],[],[],[],[],[],[12],[12]] ([some 79,some 80,some 81,some 82,some 83,some 84,some 85,some 86,some 87,some 88,some 89,some 90,some 18,none]:List (Option Nat)) ([none,none,none,none,none,none,none,none,none,none,none,none,some 13,none]:List (Option Nat)) ((fun _=>pt p 0)::(fun _=>pt p 0)::(fun _=>pt p 8)::(fun _=>pt p 9)::(fun _=>.int .i64 ie)::(fun _=>.int .i64 (i:Int))::(fun _=>.int .i64 (ie + (i:Int)))::(fun _=>.slice (some ⟨gK,0,none⟩) ks.length c11)::(fun _=>.int .i64 (i:Int))::(fun _=>.pointer (some ⟨gK,i,none⟩))::(fun _=>.int .i64 k)::(fun _=>.agg #[.int .i64 (ie + (i:Int)),.int .i64 k,.int .u64 0,.int .u64 0])::(fun gs=>pt ((gs.getD 0 default).2) 0)::(fun _=>undef)::[]) (zR::zR::zR::zR::zR::zR::zR::zR::zR::zR::zR::zR::(fun gs=>[Blk (gs.getD 0 default).2 (.cells #[.int .i64 0,.int .i64 0,.int .u64 0,.int .u64 0] 160 (0,0))])::zR::([]:List (List Gh → List Res))) (zR::zR::zR::zR::zR::zR::zR::zR::zR::zR::zR::zR::(fun gs=>[Blk (gs.getD 0 default).2 (.cells #[.int .i64 (ie + (i:Int)),.int .i64 k,.int .u64 0,.int .u64 0] 160 (0,0))])::zR::([]:List (List Gh → List Res))) (by kernel_rfl) rfl (hold_lt (n:=128) (by decide)) H.out rfl (by decide) (hold_nil (fs:=[13]) trivial rfl ?nil13_1) ?gd13_1 ?step13_1 (fun t=>decide (t = 18) || (decide (79 ≤ t) && decide (t ≤ 90))) (by decide) ?done13_1 (fun I h0 st dn=>run_wpB mixed I h0 st dn)
         case nil13_1 =>
          intro s gs hs
          simp only [List.mem_cons,List.not_mem_nil,or_false] at hs
          subst hs; rfl
         case gd13_1 =>
          repeat (refine StepAll.cons (by first | exact trivial | exact fun g=>rfl) ?_)
          exact trivial
         case step13_1 =>
          refine .cons (pR 0 rfl fun _=>⟨rfl,rfl⟩) ?_
          refine .cons (pN 0 79 rfl fun _=>⟨rfl,rfl⟩) ?_
          refine .cons (pF 1 80 8 rfl rfl (fun b q w=>by simp [go_sem]) fun _=>⟨⟨_,_,rfl,rfl⟩,rfl⟩) ?_
          refine .cons (pF 2 81 1 rfl rfl (fun b q w=>by simp [go_sem]) fun _=>⟨⟨_,_,rfl,rfl⟩,rfl⟩) ?_
          refine StepAll.cons ?_ ?_
          · refine HoldStepB.val (by decide) fun a wx γ hn hr hres hpre Ss hH K hK=>?_
            have e82:a.eval (.tmp 82) = .pointer (some ⟨p,9,none⟩):=hn 3 (by decide) 82 rfl
            exact hold_run (v:=.int .i64 ie) (by clear hn hr hK; generalize a.eval = ρ at *; simp [execOp,e82,cell_of_heap (Hd.nthk 3 hH.rear rfl),go_sem]) rfl rfl hH hK
          refine .cons (pR 17 rfl fun _=>⟨rfl,rfl⟩) ?_
          refine StepAll.cons ?_ ?_
          · refine HoldStepB.val (by decide) fun a wx γ hn hr hres hpre Ss hH K hK=>?_
            have e83:a.eval (.tmp 83) = .int .i64 ie:=hn 4 (by decide) 83 rfl
            have e84:a.eval (.tmp 84) = .int .i64 (i:Int):=hn 5 (by decide) 84 rfl
            exact hold_run (v:=.int .i64 (ie + (i:Int))) (by clear hn hr hK; generalize a.eval = ρ at *; simp [execOp,e83,e84,z1,go_sem]) rfl rfl hH hK
          refine .cons (pR 11 rfl fun _=>⟨rfl,rfl⟩) ?_
          refine .cons (pR 17 rfl fun _=>⟨rfl,rfl⟩) ?_
          refine StepAll.cons ?_ ?_
          · refine HoldStepB.val (by decide) fun a wx γ hn hr hres hpre Ss hH K hK=>?_
            have e86:a.eval (.tmp 86) = .slice (some ⟨gK,0,none⟩) ks.length c11:=hn 7 (by decide) 86 rfl
            have e87:a.eval (.tmp 87) = .int .i64 (i:Int):=hn 8 (by decide) 87 rfl
            exact hold_run (v:=.pointer (some ⟨gK,i,none⟩)) (by clear hn hr hK; generalize a.eval = ρ at *; simp [execOp,e86,e87,zi0,zi1,go_sem]) rfl rfl hH hK
          refine StepAll.cons ?_ ?_
          · refine HoldStepB.val (by decide) fun a wx γ hn hr hres hpre Ss hH K hK=>?_
            have e88:a.eval (.tmp 88) = .pointer (some ⟨gK,i,none⟩):=hn 9 (by decide) 88 rfl
            obtain ⟨gq,cq,eq9,c0⟩:=(hH.rear.front 2 rfl).row_cell (j:=i) HU.out
            simp only [Value.slice.injEq,Option.some.injEq,Addr.mk.injEq,and_true,true_and] at eq9
            rw [← eq9.1] at c0
            exact hold_run (v:=.int .i64 k) (by clear hn hr hK; generalize a.eval = ρ at *; simp [execOp,e88,c0,go_sem]) rfl rfl hH hK
          refine StepAll.cons ?_ ?_
          · refine HoldStepB.val (by decide) fun a wx γ hn hr hres hpre Ss hH K hK=>?_
            have e85:a.eval (.tmp 85) = .int .i64 (ie + (i:Int)):=hn 6 (by decide) 85 rfl
            have e89:a.eval (.tmp 89) = .int .i64 k:=hn 10 (by decide) 89 rfl
            exact hold_run (v:=.agg #[.int .i64 (ie + (i:Int)),.int .i64 k,.int .u64 0,.int .u64 0]) (by clear hn hr hK; generalize a.eval = ρ at *; simp [execOp,e85,e89,go_sem]) rfl rfl hH hK
          refine StepAll.cons ?_ ?_
          · refine HoldStepB.val (by decide) fun a wx γ hn hr hres hpre Ss hH K hK=>?_
            exact hold_new (obj:=.cells #[.int .i64 0,.int .i64 0,.int .u64 0,.int .u64 0] 160 (0,0)) (v:=.pointer (some ⟨wx.heap.size,0,none⟩)) (by clear hn hr hK; generalize a.eval = ρ at *; simp [execOp,go_sem]) rfl rfl hH hK
          refine StepAll.cons ?_ ?_
          · refine HoldStepB.fil 12 (by decide) fun a wx γ hn hr hres hpre Ss hH K hK=>?_
            have e18:a.eval (.tmp 18) = .pointer (some ⟨(γ 12).2,0,none⟩):=hn 12 (by decide) 18 rfl
            have e90:a.eval (.tmp 90) = .agg #[.int .i64 (ie + (i:Int)),.int .i64 k,.int .u64 0,.int .u64 0]:=hn 11 (by decide) 90 rfl
            have hH2:Hd W wx (Blk (γ 12).2 (.cells #[.int .i64 0,.int .i64 0,.int .u64 0,.int .u64 0] 160 (0,0))::(Ss ++ (RSto b L4 m::Blk p10 (.cells #[.int .i64 tk,.int .i64 te] 57 (0,0))::RowR 3 1 (.slice (some ⟨gK,0,none⟩) ks.length c11) ks.length (nums .i64 ks)::Blk p (.cells #[.pointer (some ⟨b,0,none⟩),.int .i64 xh,.int .i64 xs,.int .i64 xr,.int .i64 xv,.int .i64 ok,.int .i64 oe,.int .i64 sent,.int .i64 ik,.int .i64 ie,.int .u64 nx,.int .u64 bt,.slice adi esi.length capi] 94 (0,0))::CaR (.slice adi esi.length capi) esi::Rs))):=hH
            have hk:=hH2.blk
            have c0:=(cell_of_heap hk 0).trans (show _ = some (.int .i64 0) from rfl)
            have c1:=(cell_of_heap hk 1).trans (show _ = some (.int .i64 0) from rfl)
            have c2:=(cell_of_heap hk 2).trans (show _ = some (.int .u64 0) from rfl)
            have c3:=(cell_of_heap hk 3).trans (show _ = some (.int .u64 0) from rfl)
            have cf:=frozen_of_heap hk
            clear hk hH
            exact hold_filB (w':=((((wx.setCell ⟨(γ 12).2,0,none⟩ (.int .i64 (ie + (i:Int)))).setCell ⟨(γ 12).2,1,none⟩ (.int .i64 k)).setCell ⟨(γ 12).2,2,none⟩ (.int .u64 0)).setCell ⟨(γ 12).2,3,none⟩ (.int .u64 0))) (by clear hn hr hK hH2; generalize a.eval = ρ at *; simp [execOp,e18,e90,c0,c1,c2,c3,cf,go_sem]) rfl rfl ((((hH2.set 0 (.int .i64 (ie + (i:Int)))).set 1 (.int .i64 k)).set 2 (.int .u64 0)).set 3 (.int .u64 0)) hK
          exact trivial
         case done13_1 =>
          intro f w9 g9 hv h9
          have er18:f 18 = .pointer (some ⟨(g9 12).2,0,none⟩):=hv 12 18 rfl
          have hd:Hd W w9 (Blk (g9 12).2 (.cells #[.int .i64 (ie + (i:Int)),.int .i64 k,.int .u64 0,.int .u64 0] 160 (0,0))::RSto b L4 m::Blk p10 (.cells #[.int .i64 tk,.int .i64 te] 57 (0,0))::RowR 3 1 (.slice (some ⟨gK,0,none⟩) ks.length c11) ks.length (nums .i64 ks)::Blk p (.cells #[.pointer (some ⟨b,0,none⟩),.int .i64 xh,.int .i64 xs,.int .i64 xr,.int .i64 xv,.int .i64 ok,.int .i64 oe,.int .i64 sent,.int .i64 ik,.int .i64 ie,.int .u64 nx,.int .u64 bt,.slice adi esi.length capi] 94 (0,0))::CaR (.slice adi esi.length capi) esi::Rs):=h9
          obtain ⟨⟨_,p18⟩,hG12⟩:∃ x,g9 12 = x:=⟨_,rfl⟩
          simp only [hG12] at hd er18
          clear hv h9 hG12 
          clear g9
          simp only [patchG,Nat.reduceAdd,Nat.reduceLeDiff,Nat.reduceEqDiff,decide_true,decide_false,Bool.and_true,Bool.and_false,Bool.or_true,Bool.or_false,cond_true,cond_false,er18]
          clear er18
          clear H
          have H:=hid hd
          clear hd
          have hk:=Hd.nthk 0 H.out rfl
          have c0:=(cell_of_heap hk 0).trans (show _ = some (.int .i64 (ie + (i:Int))) from rfl)
          have c1:=(cell_of_heap hk 1).trans (show _ = some (.int .i64 k) from rfl)
          have c2:=(cell_of_heap hk 2).trans (show _ = some (.int .u64 0) from rfl)
          have c3:=(cell_of_heap hk 3).trans (show _ = some (.int .u64 0) from rfl)
          have cs:=(Array.getElem?_eq_some_iff.1 hk).1
          have cf:=frozen_of_heap hk
          clear hk
          have hk:=Hd.nthk 4 H.out rfl
          obtain ⟨g0,g1,g2,g3,g4,g5,g6,g7,g8,g9,g10,g11,g12⟩:=cells13 hk
          have gs:=(Array.getElem?_eq_some_iff.1 hk).1
          clear hk
          have hne:=blks_ne (((((((H.out.front 5 rfl).front 4 rfl).front 4 rfl).front 4 rfl).front 5 rfl).front 5 rfl))
          have hne2:¬ p = p18:=fun e=>hne e.symm
          go_wp2_with fail
          have H2:=hid ((H.out.set 2 (.int .u64 nx)).set 3 (.int .u64 bt))
          obtain ⟨w5,hw5⟩:∃ w5,(w9.setCell ⟨p18,2,none⟩ (.int .u64 nx)).setCell ⟨p18,3,none⟩ (.int .u64 bt) = w5:=⟨_,rfl⟩
          rw [hw5] at H2 ⊢
          clear H hw5 hne hne2 c0 c1 c2 c3 cs cf g0 g1 g2 g3 g4 g5 g6 g7 g8 g9 g10 g11 g12 gs
          have H:Hid (Hd W w5 (Blk p18 (.cells #[.int .i64 (ie + (i:Int)),.int .i64 k,.int .u64 nx,.int .u64 bt] 160 (0,0))::RSto b L4 m::Blk p10 (.cells #[.int .i64 tk,.int .i64 te] 57 (0,0))::RowR 3 1 (.slice (some ⟨gK,0,none⟩) ks.length c11) ks.length (nums .i64 ks)::Blk p (.cells #[.pointer (some ⟨b,0,none⟩),.int .i64 xh,.int .i64 xs,.int .i64 xr,.int .i64 xv,.int .i64 ok,.int .i64 oe,.int .i64 sent,.int .i64 ik,.int .i64 ie,.int .u64 nx,.int .u64 bt,.slice adi esi.length capi] 94 (0,0))::CaR (.slice adi esi.length capi) esi::Rs)):=H2
          clear H2
          have cf75:∀ args w,(callFunc 75 args).run Try.prog w = .ok (.enter 75 args) w:=fun args w=>by kernel_rfl
          refine hold_coreB (P:=Try.prog) (W:=W) (Rs:=(Blk p18 (.cells #[.int .i64 (ie + (i:Int)),.int .i64 k,.int .u64 nx,.int .u64 bt] 160 (0,0))::RSto b L4 m::Blk p10 (.cells #[.int .i64 tk,.int .i64 te] 57 (0,0))::RowR 3 1 (.slice (some ⟨gK,0,none⟩) ks.length c11) ks.length (nums .i64 ks)::Blk p (.cells #[.pointer (some ⟨b,0,none⟩),.int .i64 xh,.int .i64 xs,.int .i64 xr,.int .i64 xv,.int .i64 ok,.int .i64 oe,.int .i64 sent,.int .i64 ik,.int .i64 ie,.int .u64 nx,.int .u64 bt,.slice adi esi.length capi] 94 (0,0))::Rs)) [[],[0],[1],[2],[],[3,4],[5],[6],[6],[6],[],[7],[8,10],[9]] [[],[],[],[],[],[5],[5],[5],[],[],[10],[5],[10],[]] ([some 99,some 100,some 101,some 102,some 103,some 104,some 98,some 105,some 106,some 107,some 20,some 19,none,some 21]:List (Option Nat)) ([none,none,none,none,none,none,none,none,none,none,some 12,none,none,none,some 5]:List (Option Nat)) ((fun _=>pt p 0)::(fun _=>pt p 0)::(fun _=>pt p 12)::(fun _=>.slice adi esi.length capi)::(fun _=>.agg #[.int .i64 (ie + (i:Int)),.int .i64 k,.int .u64 nx,.int .u64 bt])::(fun gs=>.tuple #[.slice (gs.getD 0 default).1 es2.length (gs.getD 0 default).2,.agg #[.int .i64 ga,.int .i64 gk,.int .u64 gx,.int .u64 gy],.bool gb])::(fun gs=>.tuple #[.slice (gs.getD 0 default).1 es2.length (gs.getD 0 default).2,.agg #[.int .i64 ga,.int .i64 gk,.int .u64 gx,.int .u64 gy],.bool gb])::(fun gs=>.slice (gs.getD 0 default).1 es2.length (gs.getD 0 default).2)::(fun _=>.agg #[.int .i64 ga,.int .i64 gk,.int .u64 gx,.int .u64 gy])::(fun _=>.bool gb)::(fun gs=>pt ((gs.getD 0 default).2) 0)::(fun gs=>.slice (gs.getD 0 default).1 es2.length (gs.getD 0 default).2)::(fun _=>undef)::(fun _=>.bool gb)::[]) (zR::zR::zR::zR::zR::zR::zR::zR::zR::zR::(fun gs=>[Blk (gs.getD 0 default).2 (.cells #[.int .i64 0,.int .i64 0,.int .u64 0,.int .u64 0] 160 (0,0))])::zR::zR::zR::(fun _=>[CaR (.slice adi esi.length capi) esi])::([]:List (List Gh → List Res))) (zR::zR::zR::zR::zR::zR::zR::zR::zR::zR::(fun gs=>[Blk (gs.getD 0 default).2 (.cells #[.int .i64 ga,.int .i64 gk,.int .u64 gx,.int .u64 gy] 160 (0,0))])::zR::zR::zR::(fun gs=>[CaR (.slice (gs.getD 0 default).1 es2.length (gs.getD 0 default).2) es2,CaR (.slice adi esi.length capi) esi])::([]:List (List Gh → List Res))) (by kernel_rfl) rfl (hold_lt (n:=128) (by decide)) ((((((H.out.front 4 rfl).front 4 rfl).front 4 rfl).front 4 rfl).front 4 rfl).front 5 rfl) rfl (by decide) (hold_nil (fs:=[12,5]) trivial rfl ?nil16_1) ?gd16_1 ?step16_1 (fun t=>(decide (19 ≤ t) && decide (t ≤ 21)) || (decide (98 ≤ t) && decide (t ≤ 107))) (by decide) ?done16_1 (fun I h0 st dn=>run_wpB mixed I h0 st dn)
          case nil16_1 =>
           intro s gs hs
           simp only [List.mem_cons,List.not_mem_nil,or_false] at hs
           rcases hs with rfl | rfl <;> rfl
          case gd16_1 =>
           repeat (refine StepAll.cons (by first | exact trivial | exact fun g=>rfl) ?_)
           exact trivial
          case step16_1 =>
           refine .cons (pR 0 rfl fun _=>⟨rfl,rfl⟩) ?_
           refine .cons (pN 0 99 rfl fun _=>⟨rfl,rfl⟩) ?_
           refine .cons (pF 1 100 12 rfl rfl (fun b q w=>by simp [go_sem]) fun _=>⟨⟨_,_,rfl,rfl⟩,rfl⟩) ?_
           refine StepAll.cons ?_ ?_
           · refine HoldStepB.val (by decide) fun a wx γ hn hr hres hpre Ss hH K hK=>?_
             have e101:a.eval (.tmp 101) = .pointer (some ⟨p,12,none⟩):=hn 2 (by decide) 101 rfl
             exact hold_run (v:=.slice adi esi.length capi) (by clear hn hr hK; generalize a.eval = ρ at *; simp [execOp,e101,cell_of_heap (Hd.nthk 4 hH.rear rfl),go_sem]) rfl rfl hH hK
           refine StepAll.cons ?_ ?_
           · refine HoldStepB.val (by decide) fun a wx γ hn hr hres hpre Ss hH K hK=>?_
             have e18:a.eval (.tmp 18) = .pointer (some ⟨p18,0,none⟩):=(hr 18 (by decide)).trans rfl
             exact hold_run (v:=.agg #[.int .i64 (ie + (i:Int)),.int .i64 k,.int .u64 nx,.int .u64 bt]) (by clear hn hr hK; generalize a.eval = ρ at *; simp [execOp,e18,cell_of_heap (Hd.nthk 0 hH.rear rfl),go_sem]) rfl rfl hH hK
           refine StepAll.cons ?_ ?_
           · refine HoldStepB.fil 14 (by decide) fun a wx γ hn hr hres hpre Ss hH K hK=>?_
             have e102:a.eval (.tmp 102) = .slice adi esi.length capi:=hn 3 (by decide) 102 rfl
             have e103:a.eval (.tmp 103) = .agg #[.int .i64 (ie + (i:Int)),.int .i64 k,.int .u64 nx,.int .u64 bt]:=hn 4 (by decide) 103 rfl
             have ef:a.eval (.func 75) = .func (.func 75) #[] #[]:=rfl
             refine hold_callB (b:=14) (f:=75) (args:=#[.slice adi esi.length capi,.agg #[.int .i64 (ie + (i:Int)),.int .i64 k,.int .u64 nx,.int .u64 bt]]) (by clear hn hr hK hH; generalize a.eval = ρ at *; simp [execOp,e102,e103,cf75,ef,go_sem]) ?_ hK
             refine (rput16_is (ie + i) k nx bt HP2.out HRi.out.1 (by have:=HRi.out.2; omega) (Hd.la hH) hH).mono ?_
             rintro e2 w2 ⟨adN,capN,rfl,h1⟩
             exact ⟨(adN,capN),rfl,h1⟩
           refine .cons (pN 5 104 rfl fun _=>⟨rfl,rfl⟩) ?_
           refine .cons (pN 6 98 rfl fun _=>⟨rfl,rfl⟩) ?_
           refine .cons (pN 6 98 rfl fun _=>⟨rfl,rfl⟩) ?_
           refine .cons (pN 6 98 rfl fun _=>⟨rfl,rfl⟩) ?_
           refine StepAll.cons ?_ ?_
           · refine HoldStepB.val (by decide) fun a wx γ hn hr hres hpre Ss hH K hK=>?_
             exact hold_new (obj:=.cells #[.int .i64 0,.int .i64 0,.int .u64 0,.int .u64 0] 160 (0,0)) (v:=.pointer (some ⟨wx.heap.size,0,none⟩)) (by clear hn hr hK; generalize a.eval = ρ at *; simp [execOp,go_sem]) rfl rfl hH hK
           refine .cons (pN 7 105 rfl fun _=>⟨rfl,rfl⟩) ?_
           refine StepAll.cons ?_ ?_
           · refine HoldStepB.fil 10 (by decide) fun a wx γ hn hr hres hpre Ss hH K hK=>?_
             have e20:a.eval (.tmp 20) = .pointer (some ⟨(γ 10).2,0,none⟩):=hn 10 (by decide) 20 rfl
             have e106:a.eval (.tmp 106) = .agg #[.int .i64 ga,.int .i64 gk,.int .u64 gx,.int .u64 gy]:=hn 8 (by decide) 106 rfl
             have hH2:Hd W wx (Blk (γ 10).2 (.cells #[.int .i64 0,.int .i64 0,.int .u64 0,.int .u64 0] 160 (0,0))::(Ss ++ (Blk p18 (.cells #[.int .i64 (ie + (i:Int)),.int .i64 k,.int .u64 nx,.int .u64 bt] 160 (0,0))::RSto b L4 m::Blk p10 (.cells #[.int .i64 tk,.int .i64 te] 57 (0,0))::RowR 3 1 (.slice (some ⟨gK,0,none⟩) ks.length c11) ks.length (nums .i64 ks)::Blk p (.cells #[.pointer (some ⟨b,0,none⟩),.int .i64 xh,.int .i64 xs,.int .i64 xr,.int .i64 xv,.int .i64 ok,.int .i64 oe,.int .i64 sent,.int .i64 ik,.int .i64 ie,.int .u64 nx,.int .u64 bt,.slice adi esi.length capi] 94 (0,0))::Rs))):=hH
             have hk:=hH2.blk
             have c0:=(cell_of_heap hk 0).trans (show _ = some (.int .i64 0) from rfl)
             have c1:=(cell_of_heap hk 1).trans (show _ = some (.int .i64 0) from rfl)
             have c2:=(cell_of_heap hk 2).trans (show _ = some (.int .u64 0) from rfl)
             have c3:=(cell_of_heap hk 3).trans (show _ = some (.int .u64 0) from rfl)
             have cf:=frozen_of_heap hk
             clear hk hH
             exact hold_filB (w':=((((wx.setCell ⟨(γ 10).2,0,none⟩ (.int .i64 ga)).setCell ⟨(γ 10).2,1,none⟩ (.int .i64 gk)).setCell ⟨(γ 10).2,2,none⟩ (.int .u64 gx)).setCell ⟨(γ 10).2,3,none⟩ (.int .u64 gy))) (by clear hn hr hK hH2; generalize a.eval = ρ at *; simp [execOp,e20,e106,c0,c1,c2,c3,cf,go_sem]) rfl rfl ((((hH2.set 0 (.int .i64 ga)).set 1 (.int .i64 gk)).set 2 (.int .u64 gx)).set 3 (.int .u64 gy)) hK
           refine .cons (pN 9 107 rfl fun _=>⟨rfl,rfl⟩) ?_
           exact trivial
          case done16_1 =>
           intro f w9 g9 hv h9
           have er19:f 19 = .slice (g9 5).1 es2.length (g9 5).2:=hv 11 19 rfl
           have er20:f 20 = .pointer (some ⟨(g9 10).2,0,none⟩):=hv 10 20 rfl
           have er21:f 21 = .bool gb:=hv 13 21 rfl
           have hd:Hd W w9 (Blk (g9 10).2 (.cells #[.int .i64 ga,.int .i64 gk,.int .u64 gx,.int .u64 gy] 160 (0,0))::CaR (.slice (g9 5).1 es2.length (g9 5).2) es2::CaR (.slice adi esi.length capi) esi::Blk p18 (.cells #[.int .i64 (ie + (i:Int)),.int .i64 k,.int .u64 nx,.int .u64 bt] 160 (0,0))::RSto b L4 m::Blk p10 (.cells #[.int .i64 tk,.int .i64 te] 57 (0,0))::RowR 3 1 (.slice (some ⟨gK,0,none⟩) ks.length c11) ks.length (nums .i64 ks)::Blk p (.cells #[.pointer (some ⟨b,0,none⟩),.int .i64 xh,.int .i64 xs,.int .i64 xr,.int .i64 xv,.int .i64 ok,.int .i64 oe,.int .i64 sent,.int .i64 ik,.int .i64 ie,.int .u64 nx,.int .u64 bt,.slice adi esi.length capi] 94 (0,0))::Rs):=h9
           obtain ⟨⟨ad2,cap2⟩,hG5⟩:∃ x,g9 5 = x:=⟨_,rfl⟩
           obtain ⟨⟨_,p20⟩,hG10⟩:∃ x,g9 10 = x:=⟨_,rfl⟩
           simp only [hG5,hG10] at hd er19 er20 er21
           clear hv h9 hG5 hG10 cf75
           clear g9
           simp only [patchG,Nat.reduceAdd,Nat.reduceLeDiff,decide_true,decide_false,Bool.and_true,Bool.and_false,Bool.or_true,Bool.or_false,cond_true,cond_false,er19,er20,er21]
           clear er19 er20 er21
           clear H
           have H:=hid hd
           clear hd
           have hk:=Hd.nthk 7 H.out rfl
           obtain ⟨g0,g1,g2,g3,g4,g5,g6,g7,g8,g9,g10,g11,g12⟩:=cells13 hk
           have gs:=(Array.getElem?_eq_some_iff.1 hk).1
           have gf:=frozen_of_heap hk
           clear hk
           go_wp2_with fail
           go_roundw
           case rel =>
            refine ⟨i + 1,ad2,cap2,es2,HLT.out,by go_num,HNX2,HR2,hid ?_⟩
            have h8:=(((((((((H.out.front 1 rfl).front 6 rfl).front 6 rfl).front 6 rfl).front 6 rfl).front 6 rfl).front 6 rfl).front 7 rfl).set 12 (.slice ad2 es2.length cap2))
            exact (((((((((h8.front 7 rfl).front 1 rfl).front 7 rfl).front 7 rfl).front 7 rfl).front 7 rfl).front 7 rfl).front 7 rfl)).drop.drop.drop
           case measure=>have:=HLT.out; simp [intOf]; omega
       · have e0:((i:Int) == 0) = false:=by simp; omega
         rw [if_neg hi0,if_neg hi0] at HNX
         clear hi0
         obtain ⟨⟨es2,⟨ga,gk,gx,gy⟩,gb⟩,hp⟩:∃ t,kPut esi ⟨ie + i,k,0,0⟩ = t:=⟨_,rfl⟩
         have hnx:=HNX.out
         rw [hp] at hnx
         have HNX2:Hid (puts19 es ie nx bt (ks.take (i + 1)) = es2):=hid hnx
         have hr1:=kPut_rises HRi.out.1 HRi.out.2 ⟨ie + i,k,0,0⟩
         have hr2:=kPut_length HRi.out.1 HRi.out.2 ⟨ie + i,k,0,0⟩
         rw [hp] at hr1 hr2
         rw [kPut_eq HRi.out.1 HRi.out.2] at hp
         have HP2:=hid hp
         have HR2:Hid (Rises es2 ∧ es2.length ≤ 4):=hid ⟨hr1,hr2⟩
         clear hp hnx HNX hr1 hr2
         go_wp2_with fail
         refine hold_coreB (P:=Try.prog) (W:=W) (Rs:=(RSto b L4 m::Blk p10 (.cells #[.int .i64 tk,.int .i64 te] 57 (0,0))::RowR 3 1 (.slice (some ⟨gK,0,none⟩) ks.length c11) ks.length (nums .i64 ks)::Blk p (.cells #[.pointer (some ⟨b,0,none⟩),.int .i64 xh,.int .i64 xs,.int .i64 xr,.int .i64 xv,.int .i64 ok,.int .i64 oe,.int .i64 sent,.int .i64 ik,.int .i64 ie,.int .u64 nx,.int .u64 bt,.slice adi esi.length capi] 94 (0,0))::CaR (.slice adi esi.length capi) esi::Rs)) [[],[0],[1],[2],[3],[],[4,5],[],[],[7,8],[9],[6,10],[],[11,12]] [[],[],[],[],[],[],[],[],[],[],[],[],[12],[12]] ([some 79,some 80,some 81,some 82,some 83,some 84,some 85,some 86,some 87,some 88,some 89,some 90,some 18,none]:List (Option Nat)) ([none,none,none,none,none,none,none,none,none,none,none,none,some 13,none]:List (Option Nat)) ((fun _=>pt p 0)::(fun _=>pt p 0)::(fun _=>pt p 8)::(fun _=>pt p 9)::(fun _=>.int .i64 ie)::(fun _=>.int .i64 (i:Int))::(fun _=>.int .i64 (ie + (i:Int)))::(fun _=>.slice (some ⟨gK,0,none⟩) ks.length c11)::(fun _=>.int .i64 (i:Int))::(fun _=>.pointer (some ⟨gK,i,none⟩))::(fun _=>.int .i64 k)::(fun _=>.agg #[.int .i64 (ie + (i:Int)),.int .i64 k,.int .u64 0,.int .u64 0])::(fun gs=>pt ((gs.getD 0 default).2) 0)::(fun _=>undef)::[]) (zR::zR::zR::zR::zR::zR::zR::zR::zR::zR::zR::zR::(fun gs=>[Blk (gs.getD 0 default).2 (.cells #[.int .i64 0,.int .i64 0,.int .u64 0,.int .u64 0] 160 (0,0))])::zR::([]:List (List Gh → List Res))) (zR::zR::zR::zR::zR::zR::zR::zR::zR::zR::zR::zR::(fun gs=>[Blk (gs.getD 0 default).2 (.cells #[.int .i64 (ie + (i:Int)),.int .i64 k,.int .u64 0,.int .u64 0] 160 (0,0))])::zR::([]:List (List Gh → List Res))) (by kernel_rfl) rfl (hold_lt (n:=128) (by decide)) H.out rfl (by decide) (hold_nil (fs:=[13]) trivial rfl ?nil13_2) ?gd13_2 ?step13_2 (fun t=>decide (t = 18) || (decide (79 ≤ t) && decide (t ≤ 90))) (by decide) ?done13_2 (fun I h0 st dn=>run_wpB mixed I h0 st dn)
         case nil13_2 =>
          intro s gs hs
          simp only [List.mem_cons,List.not_mem_nil,or_false] at hs
          subst hs; rfl
         case gd13_2 =>
          repeat (refine StepAll.cons (by first | exact trivial | exact fun g=>rfl) ?_)
          exact trivial
         case step13_2 =>
          refine .cons (pR 0 rfl fun _=>⟨rfl,rfl⟩) ?_
          refine .cons (pN 0 79 rfl fun _=>⟨rfl,rfl⟩) ?_
          refine .cons (pF 1 80 8 rfl rfl (fun b q w=>by simp [go_sem]) fun _=>⟨⟨_,_,rfl,rfl⟩,rfl⟩) ?_
          refine .cons (pF 2 81 1 rfl rfl (fun b q w=>by simp [go_sem]) fun _=>⟨⟨_,_,rfl,rfl⟩,rfl⟩) ?_
          refine StepAll.cons ?_ ?_
          · refine HoldStepB.val (by decide) fun a wx γ hn hr hres hpre Ss hH K hK=>?_
            have e82:a.eval (.tmp 82) = .pointer (some ⟨p,9,none⟩):=hn 3 (by decide) 82 rfl
            exact hold_run (v:=.int .i64 ie) (by clear hn hr hK; generalize a.eval = ρ at *; simp [execOp,e82,cell_of_heap (Hd.nthk 3 hH.rear rfl),go_sem]) rfl rfl hH hK
          refine .cons (pR 17 rfl fun _=>⟨rfl,rfl⟩) ?_
          refine StepAll.cons ?_ ?_
          · refine HoldStepB.val (by decide) fun a wx γ hn hr hres hpre Ss hH K hK=>?_
            have e83:a.eval (.tmp 83) = .int .i64 ie:=hn 4 (by decide) 83 rfl
            have e84:a.eval (.tmp 84) = .int .i64 (i:Int):=hn 5 (by decide) 84 rfl
            exact hold_run (v:=.int .i64 (ie + (i:Int))) (by clear hn hr hK; generalize a.eval = ρ at *; simp [execOp,e83,e84,z1,go_sem]) rfl rfl hH hK
          refine .cons (pR 11 rfl fun _=>⟨rfl,rfl⟩) ?_
          refine .cons (pR 17 rfl fun _=>⟨rfl,rfl⟩) ?_
          refine StepAll.cons ?_ ?_
          · refine HoldStepB.val (by decide) fun a wx γ hn hr hres hpre Ss hH K hK=>?_
            have e86:a.eval (.tmp 86) = .slice (some ⟨gK,0,none⟩) ks.length c11:=hn 7 (by decide) 86 rfl
            have e87:a.eval (.tmp 87) = .int .i64 (i:Int):=hn 8 (by decide) 87 rfl
            exact hold_run (v:=.pointer (some ⟨gK,i,none⟩)) (by clear hn hr hK; generalize a.eval = ρ at *; simp [execOp,e86,e87,zi0,zi1,go_sem]) rfl rfl hH hK
          refine StepAll.cons ?_ ?_
          · refine HoldStepB.val (by decide) fun a wx γ hn hr hres hpre Ss hH K hK=>?_
            have e88:a.eval (.tmp 88) = .pointer (some ⟨gK,i,none⟩):=hn 9 (by decide) 88 rfl
            obtain ⟨gq,cq,eq9,c0⟩:=(hH.rear.front 2 rfl).row_cell (j:=i) HU.out
            simp only [Value.slice.injEq,Option.some.injEq,Addr.mk.injEq,and_true,true_and] at eq9
            rw [← eq9.1] at c0
            exact hold_run (v:=.int .i64 k) (by clear hn hr hK; generalize a.eval = ρ at *; simp [execOp,e88,c0,go_sem]) rfl rfl hH hK
          refine StepAll.cons ?_ ?_
          · refine HoldStepB.val (by decide) fun a wx γ hn hr hres hpre Ss hH K hK=>?_
            have e85:a.eval (.tmp 85) = .int .i64 (ie + (i:Int)):=hn 6 (by decide) 85 rfl
            have e89:a.eval (.tmp 89) = .int .i64 k:=hn 10 (by decide) 89 rfl
            exact hold_run (v:=.agg #[.int .i64 (ie + (i:Int)),.int .i64 k,.int .u64 0,.int .u64 0]) (by clear hn hr hK; generalize a.eval = ρ at *; simp [execOp,e85,e89,go_sem]) rfl rfl hH hK
          refine StepAll.cons ?_ ?_
          · refine HoldStepB.val (by decide) fun a wx γ hn hr hres hpre Ss hH K hK=>?_
            exact hold_new (obj:=.cells #[.int .i64 0,.int .i64 0,.int .u64 0,.int .u64 0] 160 (0,0)) (v:=.pointer (some ⟨wx.heap.size,0,none⟩)) (by clear hn hr hK; generalize a.eval = ρ at *; simp [execOp,go_sem]) rfl rfl hH hK
          refine StepAll.cons ?_ ?_
          · refine HoldStepB.fil 12 (by decide) fun a wx γ hn hr hres hpre Ss hH K hK=>?_
            have e18:a.eval (.tmp 18) = .pointer (some ⟨(γ 12).2,0,none⟩):=hn 12 (by decide) 18 rfl
            have e90:a.eval (.tmp 90) = .agg #[.int .i64 (ie + (i:Int)),.int .i64 k,.int .u64 0,.int .u64 0]:=hn 11 (by decide) 90 rfl
            have hH2:Hd W wx (Blk (γ 12).2 (.cells #[.int .i64 0,.int .i64 0,.int .u64 0,.int .u64 0] 160 (0,0))::(Ss ++ (RSto b L4 m::Blk p10 (.cells #[.int .i64 tk,.int .i64 te] 57 (0,0))::RowR 3 1 (.slice (some ⟨gK,0,none⟩) ks.length c11) ks.length (nums .i64 ks)::Blk p (.cells #[.pointer (some ⟨b,0,none⟩),.int .i64 xh,.int .i64 xs,.int .i64 xr,.int .i64 xv,.int .i64 ok,.int .i64 oe,.int .i64 sent,.int .i64 ik,.int .i64 ie,.int .u64 nx,.int .u64 bt,.slice adi esi.length capi] 94 (0,0))::CaR (.slice adi esi.length capi) esi::Rs))):=hH
            have hk:=hH2.blk
            have c0:=(cell_of_heap hk 0).trans (show _ = some (.int .i64 0) from rfl)
            have c1:=(cell_of_heap hk 1).trans (show _ = some (.int .i64 0) from rfl)
            have c2:=(cell_of_heap hk 2).trans (show _ = some (.int .u64 0) from rfl)
            have c3:=(cell_of_heap hk 3).trans (show _ = some (.int .u64 0) from rfl)
            have cf:=frozen_of_heap hk
            clear hk hH
            exact hold_filB (w':=((((wx.setCell ⟨(γ 12).2,0,none⟩ (.int .i64 (ie + (i:Int)))).setCell ⟨(γ 12).2,1,none⟩ (.int .i64 k)).setCell ⟨(γ 12).2,2,none⟩ (.int .u64 0)).setCell ⟨(γ 12).2,3,none⟩ (.int .u64 0))) (by clear hn hr hK hH2; generalize a.eval = ρ at *; simp [execOp,e18,e90,c0,c1,c2,c3,cf,go_sem]) rfl rfl ((((hH2.set 0 (.int .i64 (ie + (i:Int)))).set 1 (.int .i64 k)).set 2 (.int .u64 0)).set 3 (.int .u64 0)) hK
          exact trivial
         case done13_2 =>
          intro f w9 g9 hv h9
          have er18:f 18 = .pointer (some ⟨(g9 12).2,0,none⟩):=hv 12 18 rfl
          have hd:Hd W w9 (Blk (g9 12).2 (.cells #[.int .i64 (ie + (i:Int)),.int .i64 k,.int .u64 0,.int .u64 0] 160 (0,0))::RSto b L4 m::Blk p10 (.cells #[.int .i64 tk,.int .i64 te] 57 (0,0))::RowR 3 1 (.slice (some ⟨gK,0,none⟩) ks.length c11) ks.length (nums .i64 ks)::Blk p (.cells #[.pointer (some ⟨b,0,none⟩),.int .i64 xh,.int .i64 xs,.int .i64 xr,.int .i64 xv,.int .i64 ok,.int .i64 oe,.int .i64 sent,.int .i64 ik,.int .i64 ie,.int .u64 nx,.int .u64 bt,.slice adi esi.length capi] 94 (0,0))::CaR (.slice adi esi.length capi) esi::Rs):=h9
          obtain ⟨⟨_,p18⟩,hG12⟩:∃ x,g9 12 = x:=⟨_,rfl⟩
          simp only [hG12] at hd er18
          clear hv h9 hG12 
          clear g9
          simp only [patchG,Nat.reduceAdd,Nat.reduceLeDiff,Nat.reduceEqDiff,decide_true,decide_false,Bool.and_true,Bool.and_false,Bool.or_true,Bool.or_false,cond_true,cond_false,er18]
          clear er18
          clear H
          have H:=hid hd
          clear hd
          go_wp2_with fail
          have cf75:∀ args w,(callFunc 75 args).run Try.prog w = .ok (.enter 75 args) w:=fun args w=>by kernel_rfl
          refine hold_coreB (P:=Try.prog) (W:=W) (Rs:=(Blk p18 (.cells #[.int .i64 (ie + (i:Int)),.int .i64 k,.int .u64 0,.int .u64 0] 160 (0,0))::RSto b L4 m::Blk p10 (.cells #[.int .i64 tk,.int .i64 te] 57 (0,0))::RowR 3 1 (.slice (some ⟨gK,0,none⟩) ks.length c11) ks.length (nums .i64 ks)::Blk p (.cells #[.pointer (some ⟨b,0,none⟩),.int .i64 xh,.int .i64 xs,.int .i64 xr,.int .i64 xv,.int .i64 ok,.int .i64 oe,.int .i64 sent,.int .i64 ik,.int .i64 ie,.int .u64 nx,.int .u64 bt,.slice adi esi.length capi] 94 (0,0))::Rs)) [[],[0],[1],[2],[],[3,4],[5],[6],[6],[6],[],[7],[8,10],[9]] [[],[],[],[],[],[5],[5],[5],[],[],[10],[5],[10],[]] ([some 99,some 100,some 101,some 102,some 103,some 104,some 98,some 105,some 106,some 107,some 20,some 19,none,some 21]:List (Option Nat)) ([none,none,none,none,none,none,none,none,none,none,some 12,none,none,none,some 5]:List (Option Nat)) ((fun _=>pt p 0)::(fun _=>pt p 0)::(fun _=>pt p 12)::(fun _=>.slice adi esi.length capi)::(fun _=>.agg #[.int .i64 (ie + (i:Int)),.int .i64 k,.int .u64 0,.int .u64 0])::(fun gs=>.tuple #[.slice (gs.getD 0 default).1 es2.length (gs.getD 0 default).2,.agg #[.int .i64 ga,.int .i64 gk,.int .u64 gx,.int .u64 gy],.bool gb])::(fun gs=>.tuple #[.slice (gs.getD 0 default).1 es2.length (gs.getD 0 default).2,.agg #[.int .i64 ga,.int .i64 gk,.int .u64 gx,.int .u64 gy],.bool gb])::(fun gs=>.slice (gs.getD 0 default).1 es2.length (gs.getD 0 default).2)::(fun _=>.agg #[.int .i64 ga,.int .i64 gk,.int .u64 gx,.int .u64 gy])::(fun _=>.bool gb)::(fun gs=>pt ((gs.getD 0 default).2) 0)::(fun gs=>.slice (gs.getD 0 default).1 es2.length (gs.getD 0 default).2)::(fun _=>undef)::(fun _=>.bool gb)::[]) (zR::zR::zR::zR::zR::zR::zR::zR::zR::zR::(fun gs=>[Blk (gs.getD 0 default).2 (.cells #[.int .i64 0,.int .i64 0,.int .u64 0,.int .u64 0] 160 (0,0))])::zR::zR::zR::(fun _=>[CaR (.slice adi esi.length capi) esi])::([]:List (List Gh → List Res))) (zR::zR::zR::zR::zR::zR::zR::zR::zR::zR::(fun gs=>[Blk (gs.getD 0 default).2 (.cells #[.int .i64 ga,.int .i64 gk,.int .u64 gx,.int .u64 gy] 160 (0,0))])::zR::zR::zR::(fun gs=>[CaR (.slice (gs.getD 0 default).1 es2.length (gs.getD 0 default).2) es2,CaR (.slice adi esi.length capi) esi])::([]:List (List Gh → List Res))) (by kernel_rfl) rfl (hold_lt (n:=128) (by decide)) ((((((H.out.front 4 rfl).front 4 rfl).front 4 rfl).front 4 rfl).front 4 rfl).front 5 rfl) rfl (by decide) (hold_nil (fs:=[12,5]) trivial rfl ?nil16_2) ?gd16_2 ?step16_2 (fun t=>(decide (19 ≤ t) && decide (t ≤ 21)) || (decide (98 ≤ t) && decide (t ≤ 107))) (by decide) ?done16_2 (fun I h0 st dn=>run_wpB mixed I h0 st dn)
          case nil16_2 =>
           intro s gs hs
           simp only [List.mem_cons,List.not_mem_nil,or_false] at hs
           rcases hs with rfl | rfl <;> rfl
          case gd16_2 =>
           repeat (refine StepAll.cons (by first | exact trivial | exact fun g=>rfl) ?_)
           exact trivial
          case step16_2 =>
           refine .cons (pR 0 rfl fun _=>⟨rfl,rfl⟩) ?_
           refine .cons (pN 0 99 rfl fun _=>⟨rfl,rfl⟩) ?_
           refine .cons (pF 1 100 12 rfl rfl (fun b q w=>by simp [go_sem]) fun _=>⟨⟨_,_,rfl,rfl⟩,rfl⟩) ?_
           refine StepAll.cons ?_ ?_
           · refine HoldStepB.val (by decide) fun a wx γ hn hr hres hpre Ss hH K hK=>?_
             have e101:a.eval (.tmp 101) = .pointer (some ⟨p,12,none⟩):=hn 2 (by decide) 101 rfl
             exact hold_run (v:=.slice adi esi.length capi) (by clear hn hr hK; generalize a.eval = ρ at *; simp [execOp,e101,cell_of_heap (Hd.nthk 4 hH.rear rfl),go_sem]) rfl rfl hH hK
           refine StepAll.cons ?_ ?_
           · refine HoldStepB.val (by decide) fun a wx γ hn hr hres hpre Ss hH K hK=>?_
             have e18:a.eval (.tmp 18) = .pointer (some ⟨p18,0,none⟩):=(hr 18 (by decide)).trans rfl
             exact hold_run (v:=.agg #[.int .i64 (ie + (i:Int)),.int .i64 k,.int .u64 0,.int .u64 0]) (by clear hn hr hK; generalize a.eval = ρ at *; simp [execOp,e18,cell_of_heap (Hd.nthk 0 hH.rear rfl),go_sem]) rfl rfl hH hK
           refine StepAll.cons ?_ ?_
           · refine HoldStepB.fil 14 (by decide) fun a wx γ hn hr hres hpre Ss hH K hK=>?_
             have e102:a.eval (.tmp 102) = .slice adi esi.length capi:=hn 3 (by decide) 102 rfl
             have e103:a.eval (.tmp 103) = .agg #[.int .i64 (ie + (i:Int)),.int .i64 k,.int .u64 0,.int .u64 0]:=hn 4 (by decide) 103 rfl
             have ef:a.eval (.func 75) = .func (.func 75) #[] #[]:=rfl
             refine hold_callB (b:=14) (f:=75) (args:=#[.slice adi esi.length capi,.agg #[.int .i64 (ie + (i:Int)),.int .i64 k,.int .u64 0,.int .u64 0]]) (by clear hn hr hK hH; generalize a.eval = ρ at *; simp [execOp,e102,e103,cf75,ef,go_sem]) ?_ hK
             refine (rput16_is (ie + i) k 0 0 HP2.out HRi.out.1 (by have:=HRi.out.2; omega) (Hd.la hH) hH).mono ?_
             rintro e2 w2 ⟨adN,capN,rfl,h1⟩
             exact ⟨(adN,capN),rfl,h1⟩
           refine .cons (pN 5 104 rfl fun _=>⟨rfl,rfl⟩) ?_
           refine .cons (pN 6 98 rfl fun _=>⟨rfl,rfl⟩) ?_
           refine .cons (pN 6 98 rfl fun _=>⟨rfl,rfl⟩) ?_
           refine .cons (pN 6 98 rfl fun _=>⟨rfl,rfl⟩) ?_
           refine StepAll.cons ?_ ?_
           · refine HoldStepB.val (by decide) fun a wx γ hn hr hres hpre Ss hH K hK=>?_
             exact hold_new (obj:=.cells #[.int .i64 0,.int .i64 0,.int .u64 0,.int .u64 0] 160 (0,0)) (v:=.pointer (some ⟨wx.heap.size,0,none⟩)) (by clear hn hr hK; generalize a.eval = ρ at *; simp [execOp,go_sem]) rfl rfl hH hK
           refine .cons (pN 7 105 rfl fun _=>⟨rfl,rfl⟩) ?_
           refine StepAll.cons ?_ ?_
           · refine HoldStepB.fil 10 (by decide) fun a wx γ hn hr hres hpre Ss hH K hK=>?_
             have e20:a.eval (.tmp 20) = .pointer (some ⟨(γ 10).2,0,none⟩):=hn 10 (by decide) 20 rfl
             have e106:a.eval (.tmp 106) = .agg #[.int .i64 ga,.int .i64 gk,.int .u64 gx,.int .u64 gy]:=hn 8 (by decide) 106 rfl
             have hH2:Hd W wx (Blk (γ 10).2 (.cells #[.int .i64 0,.int .i64 0,.int .u64 0,.int .u64 0] 160 (0,0))::(Ss ++ (Blk p18 (.cells #[.int .i64 (ie + (i:Int)),.int .i64 k,.int .u64 0,.int .u64 0] 160 (0,0))::RSto b L4 m::Blk p10 (.cells #[.int .i64 tk,.int .i64 te] 57 (0,0))::RowR 3 1 (.slice (some ⟨gK,0,none⟩) ks.length c11) ks.length (nums .i64 ks)::Blk p (.cells #[.pointer (some ⟨b,0,none⟩),.int .i64 xh,.int .i64 xs,.int .i64 xr,.int .i64 xv,.int .i64 ok,.int .i64 oe,.int .i64 sent,.int .i64 ik,.int .i64 ie,.int .u64 nx,.int .u64 bt,.slice adi esi.length capi] 94 (0,0))::Rs))):=hH
             have hk:=hH2.blk
             have c0:=(cell_of_heap hk 0).trans (show _ = some (.int .i64 0) from rfl)
             have c1:=(cell_of_heap hk 1).trans (show _ = some (.int .i64 0) from rfl)
             have c2:=(cell_of_heap hk 2).trans (show _ = some (.int .u64 0) from rfl)
             have c3:=(cell_of_heap hk 3).trans (show _ = some (.int .u64 0) from rfl)
             have cf:=frozen_of_heap hk
             clear hk hH
             exact hold_filB (w':=((((wx.setCell ⟨(γ 10).2,0,none⟩ (.int .i64 ga)).setCell ⟨(γ 10).2,1,none⟩ (.int .i64 gk)).setCell ⟨(γ 10).2,2,none⟩ (.int .u64 gx)).setCell ⟨(γ 10).2,3,none⟩ (.int .u64 gy))) (by clear hn hr hK hH2; generalize a.eval = ρ at *; simp [execOp,e20,e106,c0,c1,c2,c3,cf,go_sem]) rfl rfl ((((hH2.set 0 (.int .i64 ga)).set 1 (.int .i64 gk)).set 2 (.int .u64 gx)).set 3 (.int .u64 gy)) hK
           refine .cons (pN 9 107 rfl fun _=>⟨rfl,rfl⟩) ?_
           exact trivial
          case done16_2 =>
           intro f w9 g9 hv h9
           have er19:f 19 = .slice (g9 5).1 es2.length (g9 5).2:=hv 11 19 rfl
           have er20:f 20 = .pointer (some ⟨(g9 10).2,0,none⟩):=hv 10 20 rfl
           have er21:f 21 = .bool gb:=hv 13 21 rfl
           have hd:Hd W w9 (Blk (g9 10).2 (.cells #[.int .i64 ga,.int .i64 gk,.int .u64 gx,.int .u64 gy] 160 (0,0))::CaR (.slice (g9 5).1 es2.length (g9 5).2) es2::CaR (.slice adi esi.length capi) esi::Blk p18 (.cells #[.int .i64 (ie + (i:Int)),.int .i64 k,.int .u64 0,.int .u64 0] 160 (0,0))::RSto b L4 m::Blk p10 (.cells #[.int .i64 tk,.int .i64 te] 57 (0,0))::RowR 3 1 (.slice (some ⟨gK,0,none⟩) ks.length c11) ks.length (nums .i64 ks)::Blk p (.cells #[.pointer (some ⟨b,0,none⟩),.int .i64 xh,.int .i64 xs,.int .i64 xr,.int .i64 xv,.int .i64 ok,.int .i64 oe,.int .i64 sent,.int .i64 ik,.int .i64 ie,.int .u64 nx,.int .u64 bt,.slice adi esi.length capi] 94 (0,0))::Rs):=h9
           obtain ⟨⟨ad2,cap2⟩,hG5⟩:∃ x,g9 5 = x:=⟨_,rfl⟩
           obtain ⟨⟨_,p20⟩,hG10⟩:∃ x,g9 10 = x:=⟨_,rfl⟩
           simp only [hG5,hG10] at hd er19 er20 er21
           clear hv h9 hG5 hG10 cf75
           clear g9
           simp only [patchG,Nat.reduceAdd,Nat.reduceLeDiff,decide_true,decide_false,Bool.and_true,Bool.and_false,Bool.or_true,Bool.or_false,cond_true,cond_false,er19,er20,er21]
           clear er19 er20 er21
           clear H
           have H:=hid hd
           clear hd
           have hk:=Hd.nthk 7 H.out rfl
           obtain ⟨g0,g1,g2,g3,g4,g5,g6,g7,g8,g9,g10,g11,g12⟩:=cells13 hk
           have gs:=(Array.getElem?_eq_some_iff.1 hk).1
           have gf:=frozen_of_heap hk
           clear hk
           go_wp2_with fail
           go_roundw
           case rel =>
            refine ⟨i + 1,ad2,cap2,es2,HLT.out,by go_num,HNX2,HR2,hid ?_⟩
            have h8:=(((((((((H.out.front 1 rfl).front 6 rfl).front 6 rfl).front 6 rfl).front 6 rfl).front 6 rfl).front 6 rfl).front 7 rfl).set 12 (.slice ad2 es2.length cap2))
            exact (((((((((h8.front 7 rfl).front 1 rfl).front 7 rfl).front 7 rfl).front 7 rfl).front 7 rfl).front 7 rfl).front 7 rfl)).drop.drop.drop
           case measure=>have:=HLT.out; simp [intOf]; omega
     · obtain rfl:i = ks.length:=by omega
       have hd1:decide ((ks.length:Int) < (ks.length:Int)) = false:=by simp
       have hd1':decide (ks.length < ks.length) = false:=by simp
       have hR2:esi = R:=by rw [← HPu.out,List.take_length]; exact HR.out
       subst hR2
       clear HPu hlt hi
       go_wp2_with fail
       refine (rtake_calls wIn_zero wFit_zero h0n h1n _).mono ?_
       rw [wTake_zero h0n]
       rintro e9 w9 ⟨rfl,h1⟩
       replace H:=hid (H.out.still h1)
       clear h1
       obtain ⟨p22,hp22⟩:∃ q,w9.heap.size = q:=⟨_,rfl⟩
       have H2:=hid (H.out.boxk (o:=.cells #[.int .u64 (n + 1),.int .u64 1] 91 (0,0)) p22 hp22)
       obtain ⟨w5,hw5⟩:∃ w5,w9.alloc (.cells #[.int .u64 (n + 1),.int .u64 1] 91 (0,0)) = w5:=⟨_,rfl⟩
       rw [hw5] at H2
       clear H
       have H:=H2
       clear H2
       have hk:=Hd.nthk 0 H.out rfl
       have q0:=(cell_of_heap hk 0).trans (show _ = some (.int .u64 (n + 1)) from rfl)
       have q1:=(cell_of_heap hk 1).trans (show _ = some (.int .u64 1) from rfl)
       have qs:=(Array.getElem?_eq_some_iff.1 hk).1
       clear hk
       have hk:=Hd.nthk 2 H.out rfl
       have c0:=(cell_of_heap hk 0).trans (show _ = some (.int .i64 tk) from rfl)
       have c1:=(cell_of_heap hk 1).trans (show _ = some (.int .i64 te) from rfl)
       have cs:=(Array.getElem?_eq_some_iff.1 hk).1
       clear hk
       have hk:=Hd.nthk 4 H.out rfl
       obtain ⟨g0,g1,g2,g3,g4,g5,g6,g7,g8,g9,g10,g11,g12⟩:=cells13 hk
       have gs:=(Array.getElem?_eq_some_iff.1 hk).1
       have gf:=frozen_of_heap hk
       clear hk
       go_wp2_with fail
       refine bodyPost_ret (v:=.tuple #[.string txt,.int .i64 0]) (by simp [results,Try.results70,go_sem]) rfl ⟨adi,capi,rfl,?_⟩
       have h8:=(((((((((((H.out.front 5 rfl).front 2 rfl).front 4 rfl).front 4 rfl).front 4 rfl).front 5 rfl).set 8 (.int .i64 tk)).set 9 (.int .i64 te)).set 10 (.int .u64 (n + 1))).set 11 (.int .u64 1)))
       exact (((((((h8.front 5 rfl).front 1 rfl).front 5 rfl).front 5 rfl).front 5 rfl).front 5 rfl)).drop.drop.drop
end
end Go.Proofs.Ytpcfmafokkffgaa
