/-
  Walks and laws that the proof stands on, one behind another: RSessD. For every input.
-/
import Derived.Test.YtpcfmafokkffgaaD14
import Derived.Test.YtpcfmafokkffgaaD15
namespace Go.Proofs.Ytpcfmafokkffgaa
open Go.RowKit

/-- No window has a digit ahead of its numbers. -/
structure RcFit (y:Rc):Prop where
 w:WFit y.nx y.bt
 ws:∀ e ∈ y.es,WFit e.nx e.bt

section
variable {W w:World} {Rs:List Res} {b p:Nat} {L L2:List T} {m:Int}
set_option maxRecDepth 100000 in
set_option maxHeartbeats 32000000 in
theorem ropen19_bad {x x':Se} {e n c er:Int} {s:ByteArray} {ad:Option Addr} {cap:Nat} (hx:SeOk x) (hf:RcFit x.rc) (_be : -9223372036854775808 ≤ e) (_be':e ≤ 9223372036854775807) (_bn : -9223372036854775808 ≤ n) (_bn':n ≤ 9223372036854775807) (hok:¬ (getB L c = true ∧ 0 ≤ e ∧ 0 ≤ n ∧ n < 256)) (hq:open19 m L x e n c = ((s,er),x',L2)) (h:Hd W w (RSto b L m::Blk p (rsO b x (.slice ad x.rc.es.length cap))::CaR (.slice ad x.rc.es.length cap) x.rc.es::Rs)) :
 Calls Try.prog 42 #[.pointer (some ⟨p,0,none⟩),.int .i64 e,.int .i64 n,.int .i64 c] w fun e' w'=>∃ ad' cap',e' = .returned (.tuple #[.string s,.int .i64 er]) ∧ Hd W w' (RSto b L2 m::Blk p (rsO b x' (.slice ad' x'.rc.es.length cap'))::CaR (.slice ad' x'.rc.es.length cap') x'.rc.es::Rs):=by
 have mixed:Try.prog.follows .mixedOrders = true:=by kernel_rfl
 obtain ⟨ok,oe,sent,⟨ik,ie,nx,bt,es⟩,xh,xs,xr,xv⟩:=x
 have HX:=hid hx
 have HF:=hid hf
 dsimp only at h
 have H:Hid (Hd W w (RSto b L m::Blk p (.cells #[.pointer (some ⟨b,0,none⟩),.int .i64 xh,.int .i64 xs,.int .i64 xr,.int .i64 xv,.int .i64 ok,.int .i64 oe,.int .i64 sent,.int .i64 ik,.int .i64 ie,.int .u64 nx,.int .u64 bt,.slice ad es.length cap] 94 (0,0))::CaR (.slice ad es.length cap) es::Rs)):=hid h
 clear h
 unfold open19 at hq
 rw [if_neg hok] at hq
 simp only [Prod.mk.injEq] at hq
 obtain ⟨⟨rfl,rfl⟩,rfl,rfl⟩:=hq
 by_cases h1:e < 0
 · have d1:decide (e < 0) = true:=by simpa using h1
   clear hx hf _be _be' _bn _bn' hok h1
   go_enter Try.func42,Try.ntmps42
   go_wp2_with fail
   refine bodyPost_ret (v:=.tuple #[.string ⟨#[]⟩,.int .i64 1]) (by simp [results,Try.results42,go_sem]) rfl ?_
   first
    | exact ⟨ad,cap,rfl,H.out⟩
    | exact ⟨rfl,ad,cap,H.out⟩
 have d1:decide (e < 0) = false:=by simpa using h1
 by_cases h2:n < 0
 · have d2:decide (n < 0) = true:=by simpa using h2
   clear hx hf _be _be' _bn _bn' hok h1 h2
   go_enter Try.func42,Try.ntmps42
   go_wp2_with fail
   refine bodyPost_ret (v:=.tuple #[.string ⟨#[]⟩,.int .i64 1]) (by simp [results,Try.results42,go_sem]) rfl ?_
   first
    | exact ⟨ad,cap,rfl,H.out⟩
    | exact ⟨rfl,ad,cap,H.out⟩
 have d2:decide (n < 0) = false:=by simpa using h2
 by_cases h3:255 < n
 · have d3:decide (255 < n) = true:=by simpa using h3
   clear hx hf _be _be' _bn _bn' hok h1 h2 h3
   go_enter Try.func42,Try.ntmps42
   go_wp2_with fail
   refine bodyPost_ret (v:=.tuple #[.string ⟨#[]⟩,.int .i64 1]) (by simp [results,Try.results42,go_sem]) rfl ?_
   first
    | exact ⟨ad,cap,rfl,H.out⟩
    | exact ⟨rfl,ad,cap,H.out⟩
 have d3:decide (255 < n) = false:=by simpa using h3
 have hgb:getB L c = false:=by
  cases hg:getB L c
  · rfl
  · exact absurd ⟨hg,by omega,by omega,by omega⟩ hok
 have HGB:=hid hgb
 clear hx hf _be _be' _bn _bn' hok h1 h2 h3 hgb
 go_enter Try.func42,Try.ntmps42
 have hk:=Hd.nthk 1 H.out rfl
 obtain ⟨g0,g1,g2,g3,g4,g5,g6,g7,g8,g9,g10,g11,g12⟩:=cells13 hk
 have gs:=(Array.getElem?_eq_some_iff.1 hk).1
 have gf:=frozen_of_heap hk
 clear hk
 go_wp2_with fail
 refine (rthere19_c c H.out).mono ?_
 rw [HGB.out]
 rintro e1 w1 ⟨rfl,h1⟩
 clear H g0 g1 g2 g3 g4 g5 g6 g7 g8 g9 g10 g11 g12 gs gf
 have H:=hid h1
 clear h1
 go_wp2_with fail
 refine bodyPost_ret (v:=.tuple #[.string ⟨#[]⟩,.int .i64 1]) (by simp [results,Try.results42,go_sem]) rfl ?_
 first
  | exact ⟨ad,cap,rfl,H.out⟩
  | exact ⟨rfl,ad,cap,H.out⟩
set_option maxRecDepth 100000 in
set_option maxHeartbeats 32000000 in
theorem ropen19_now {x x':Se} {e n c er:Int} {s:ByteArray} {ad:Option Addr} {cap:Nat} (hx:SeOk x) (hf:RcFit x.rc) (_be : -9223372036854775808 ≤ e) (_be':e ≤ 9223372036854775807) (_bn : -9223372036854775808 ≤ n) (_bn':n ≤ 9223372036854775807) (hok:getB L c = true ∧ 0 ≤ e ∧ 0 ≤ n ∧ n < 256) (hie:e = x.rc.ie) (hq:open19 m L x e n c = ((s,er),x',L2)) (h:Hd W w (RSto b L m::Blk p (rsO b x (.slice ad x.rc.es.length cap))::CaR (.slice ad x.rc.es.length cap) x.rc.es::Rs)) :
 Calls Try.prog 42 #[.pointer (some ⟨p,0,none⟩),.int .i64 e,.int .i64 n,.int .i64 c] w fun e' w'=>∃ ad' cap',e' = .returned (.tuple #[.string s,.int .i64 er]) ∧ Hd W w' (RSto b L2 m::Blk p (rsO b x' (.slice ad' x'.rc.es.length cap'))::CaR (.slice ad' x'.rc.es.length cap') x'.rc.es::Rs):=by
 have mixed:Try.prog.follows .mixedOrders = true:=by kernel_rfl
 obtain ⟨ok,oe,sent,⟨ik,ie,nx,bt,es⟩,xh,xs,xr,xv⟩:=x
 have HX:=hid hx
 have HF:=hid hf
 dsimp only at h
 have H:Hid (Hd W w (RSto b L m::Blk p (.cells #[.pointer (some ⟨b,0,none⟩),.int .i64 xh,.int .i64 xs,.int .i64 xr,.int .i64 xv,.int .i64 ok,.int .i64 oe,.int .i64 sent,.int .i64 ik,.int .i64 ie,.int .u64 nx,.int .u64 bt,.slice ad es.length cap] 94 (0,0))::CaR (.slice ad es.length cap) es::Rs)):=hid h
 clear h
 obtain ⟨hg,h0e,h0n,h1n⟩:=hok
 have HGB:=hid hg
 have d1:decide (e < 0) = false:=by simp; omega
 have d2:decide (n < 0) = false:=by simp; omega
 have d3:decide (255 < n) = false:=by simp; omega
 have zcv:IntKind.u64.wrap n = n:=IntWalk.u64_in _ (by omega)
 have h255:n ≤ 255:=by omega
 unfold open19 at hq
 rw [if_pos ⟨hg,h0e,h0n,h1n⟩] at hq
 dsimp only at hq
 unfold recv19 at hq
 dsimp only at hq
 have he0:e = ie:=hie
 clear hie
 rw [if_pos he0] at hq
 unfold now19 at hq
 dsimp only at hq
 have d4:decide (ie < e) = false:=by simp; omega
 have e4:(e == ie) = true:=by simpa using he0
 clear he0 _be _be' _bn _bn' hx hf hg h1n h0e
 obtain ⟨⟨ga,gk,gx,gy⟩,gb,hgt⟩:∃ g gb,rGet es e = (g,gb):=⟨_,_,rfl⟩
 have HGT:=hid hgt
 clear hgt
 cases hcan:wCan nx bt n
 · have HCAN:=hid hcan
   rw [if_neg (show ¬ (wTake nx bt n).2 = 0 by rw [wTake_no hcan]; decide)] at hq
   rw [wTake_no hcan] at hq
   simp only [show ¬ ((12:Int) = 0) from by decide,if_false,Prod.mk.injEq] at hq
   obtain ⟨⟨rfl,rfl⟩,rfl,rfl⟩:=hq
   clear hcan
   go_enter Try.func42,Try.ntmps42
   have hk:=Hd.nthk 1 H.out rfl
   obtain ⟨g0,g1,g2,g3,g4,g5,g6,g7,g8,g9,g10,g11,g12⟩:=cells13 hk
   have gs:=(Array.getElem?_eq_some_iff.1 hk).1
   have gf:=frozen_of_heap hk
   clear hk
   go_wp2_with fail
   refine (rthere19_c c H.out).mono ?_
   rw [HGB.out]
   rintro e1 w1 ⟨rfl,h1⟩
   clear H g0 g1 g2 g3 g4 g5 g6 g7 g8 g9 g10 g11 g12 gs gf
   have H:=hid h1
   clear h1
   have hk:=Hd.nthk 1 H.out rfl
   obtain ⟨g0,g1,g2,g3,g4,g5,g6,g7,g8,g9,g10,g11,g12⟩:=cells13 hk
   have gs:=(Array.getElem?_eq_some_iff.1 hk).1
   have gf:=frozen_of_heap hk
   clear hk
   go_wp2_with fail
   refine (rget16_is e HGT.out (by have h9:es.length ≤ 4:=HX.out.rc.len; omega) (Hd.la (H.out.front 2 rfl)) H.out).mono ?_
   rintro e2 w2 ⟨rfl,h1⟩
   clear H g0 g1 g2 g3 g4 g5 g6 g7 g8 g9 g10 g11 g12 gs gf
   have H:=hid h1
   clear h1
   obtain ⟨p10,hp10⟩:∃ q,w2.heap.size = q:=⟨_,rfl⟩
   have hk:=Hd.nthk 1 H.out rfl
   obtain ⟨g0,g1,g2,g3,g4,g5,g6,g7,g8,g9,g10,g11,g12⟩:=cells13 hk
   have gs:=(Array.getElem?_eq_some_iff.1 hk).1
   have gf:=frozen_of_heap hk
   clear hk
   have gsp:p < p10:=by rw [← hp10]; exact gs
   have gnp:¬ p = p10:=by omega
   have gnp2:¬ p10 = p:=by omega
   go_wp2_with fail
   clear gsp gnp gnp2
   have H2:=hid (H.out.boxk (o:=.cells #[.int .i64 e,.int .i64 0,.int .u64 nx,.int .u64 bt] 160 (0,0)) p10 hp10)
   clear H g0 g1 g2 g3 g4 g5 g6 g7 g8 g9 g10 g11 g12 gs gf
   refine (rcan_calls (HX.out.rc.w) h0n h255 _).mono ?_
   rw [HCAN.out]
   rintro e3 w3 ⟨rfl,h1⟩
   have H:Hid (Hd W w3 (Blk p10 (.cells #[.int .i64 e,.int .i64 0,.int .u64 nx,.int .u64 bt] 160 (0,0))::RSto b L m::Blk p (.cells #[.pointer (some ⟨b,0,none⟩),.int .i64 xh,.int .i64 xs,.int .i64 xr,.int .i64 xv,.int .i64 ok,.int .i64 oe,.int .i64 sent,.int .i64 ik,.int .i64 ie,.int .u64 nx,.int .u64 bt,.slice ad es.length cap] 94 (0,0))::CaR (.slice ad es.length cap) es::Rs)):=hid (H2.out.still h1)
   clear h1 H2 hp10
   go_wp2_with fail
   refine bodyPost_ret (v:=.tuple #[.string ⟨#[]⟩,.int .i64 12]) (by simp [results,Try.results42,go_sem]) rfl ?_
   first
    | exact ⟨ad,cap,rfl,H.out.drop⟩
    | exact ⟨rfl,ad,cap,H.out.drop⟩
 · have HCAN:=hid hcan
   obtain ⟨⟨tx,ty⟩,tr,hwt⟩:∃ t r,wTake nx bt n = (t,r):=⟨_,_,rfl⟩
   have htr:tr = 0:=by have:=wTake_yes hcan; rw [hwt] at this; exact this
   subst htr
   rw [hwt] at hq
   dsimp only at hq
   rw [if_pos rfl] at hq
   have HWT:=hid hwt
   clear hcan hwt
   obtain ⟨key,f2,L4,hp⟩:∃ p1 p2 Ly,put m L (keyT ik 1) = (p1,p2,Ly):=⟨_,_,_,rfl⟩
   rw [hp] at hq
   dsimp only at hq
   have HP:=hid hp
   clear hp
   by_cases h4':f2 = 0
   rotate_left
   · rw [if_neg h4'] at hq
     simp only [Prod.mk.injEq] at hq
     obtain ⟨⟨rfl,rfl⟩,rfl,rfl⟩:=hq
     have g1:(f2 != 0) = true:=by rw [bne_iff_ne]; exact h4'
     have g2:decide (f2 = 0) = false:=by simpa using h4'
     clear h4'
     go_enter Try.func42,Try.ntmps42
     have hk:=Hd.nthk 1 H.out rfl
     obtain ⟨g0,g1,g2,g3,g4,g5,g6,g7,g8,g9,g10,g11,g12⟩:=cells13 hk
     have gs:=(Array.getElem?_eq_some_iff.1 hk).1
     have gf:=frozen_of_heap hk
     clear hk
     go_wp2_with fail
     refine (rthere19_c c H.out).mono ?_
     rw [HGB.out]
     rintro e1 w1 ⟨rfl,h1⟩
     clear H g0 g1 g2 g3 g4 g5 g6 g7 g8 g9 g10 g11 g12 gs gf
     have H:=hid h1
     clear h1
     have hk:=Hd.nthk 1 H.out rfl
     obtain ⟨g0,g1,g2,g3,g4,g5,g6,g7,g8,g9,g10,g11,g12⟩:=cells13 hk
     have gs:=(Array.getElem?_eq_some_iff.1 hk).1
     have gf:=frozen_of_heap hk
     clear hk
     go_wp2_with fail
     refine (rget16_is e HGT.out (by have h9:es.length ≤ 4:=HX.out.rc.len; omega) (Hd.la (H.out.front 2 rfl)) H.out).mono ?_
     rintro e2 w2 ⟨rfl,h1⟩
     clear H g0 g1 g2 g3 g4 g5 g6 g7 g8 g9 g10 g11 g12 gs gf
     have H:=hid h1
     clear h1
     obtain ⟨p10,hp10⟩:∃ q,w2.heap.size = q:=⟨_,rfl⟩
     have hk:=Hd.nthk 1 H.out rfl
     obtain ⟨g0,g1,g2,g3,g4,g5,g6,g7,g8,g9,g10,g11,g12⟩:=cells13 hk
     have gs:=(Array.getElem?_eq_some_iff.1 hk).1
     have gf:=frozen_of_heap hk
     clear hk
     have gsp:p < p10:=by rw [← hp10]; exact gs
     have gnp:¬ p = p10:=by omega
     have gnp2:¬ p10 = p:=by omega
     go_wp2_with fail
     clear gsp gnp gnp2
     have H2:=hid (H.out.boxk (o:=.cells #[.int .i64 e,.int .i64 0,.int .u64 nx,.int .u64 bt] 160 (0,0)) p10 hp10)
     clear H g0 g1 g2 g3 g4 g5 g6 g7 g8 g9 g10 g11 g12 gs gf
     refine (rcan_calls (HX.out.rc.w) h0n h255 _).mono ?_
     rw [HCAN.out]
     rintro e3 w3 ⟨rfl,h1⟩
     have H:Hid (Hd W w3 (Blk p10 (.cells #[.int .i64 e,.int .i64 0,.int .u64 nx,.int .u64 bt] 160 (0,0))::RSto b L m::Blk p (.cells #[.pointer (some ⟨b,0,none⟩),.int .i64 xh,.int .i64 xs,.int .i64 xr,.int .i64 xv,.int .i64 ok,.int .i64 oe,.int .i64 sent,.int .i64 ik,.int .i64 ie,.int .u64 nx,.int .u64 bt,.slice ad es.length cap] 94 (0,0))::CaR (.slice ad es.length cap) es::Rs)):=hid (H2.out.still h1)
     clear h1 H2 hp10
     have hk:=Hd.nthk 2 H.out rfl
     obtain ⟨g0,g1,g2,g3,g4,g5,g6,g7,g8,g9,g10,g11,g12⟩:=cells13 hk
     have gs:=(Array.getElem?_eq_some_iff.1 hk).1
     have gf:=frozen_of_heap hk
     clear hk
     go_wp2_with fail
     clear g0 g1 g2 g3 g4 g5 g6 g7 g8 g9 g10 g11 g12 gs gf
     have cf27:∀ args w,(callFunc 27 args).run Try.prog w = .ok (.enter 27 args) w:=fun args w=>by kernel_rfl
     refine hold_coreB (P:=Try.prog) (W:=W) (Rs:=(Blk p10 (.cells #[.int .i64 e,.int .i64 0,.int .u64 nx,.int .u64 bt] 160 (0,0))::Blk p (.cells #[.pointer (some ⟨b,0,none⟩),.int .i64 xh,.int .i64 xs,.int .i64 xr,.int .i64 xv,.int .i64 ok,.int .i64 oe,.int .i64 sent,.int .i64 ik,.int .i64 ie,.int .u64 nx,.int .u64 bt,.slice ad es.length cap] 94 (0,0))::CaR (.slice ad es.length cap) es::Rs)) [[],[0],[1],[2],[],[4],[5],[6],[3,7],[8],[9],[9],[10],[11]] [[],[],[],[],[],[],[],[],[],[],[],[],[],[]] ([some 94,some 95,some 96,some 97,some 98,some 99,some 100,some 101,some 102,some 93,some 103,some 104,some 12,some 13]:List (Option Nat)) ([none,none,none,none,none,none,none,none,none,none,none,none,none,none,some 8]:List (Option Nat)) ((fun _=>pt p 0)::(fun _=>pt p 0)::(fun _=>pt p 0)::(fun _=>pt b 0)::(fun _=>pt p 0)::(fun _=>pt p 0)::(fun _=>pt p 8)::(fun _=>.agg #[.int .i64 ik,.int .i64 ie])::(fun _=>.tuple #[.int .i64 key,.int .i64 f2])::(fun _=>.tuple #[.int .i64 key,.int .i64 f2])::(fun _=>.int .i64 key)::(fun _=>.int .i64 f2)::(fun _=>.int .i64 key)::(fun _=>.int .i64 f2)::[]) (zR::zR::zR::zR::zR::zR::zR::zR::zR::zR::zR::zR::zR::zR::(fun _=>[RSto b L m])::([]:List (List Gh → List Res))) (zR::zR::zR::zR::zR::zR::zR::zR::zR::zR::zR::zR::zR::zR::(fun _=>[RSto b L4 m])::([]:List (List Gh → List Res))) (by kernel_rfl) rfl (hold_lt (n:=167) (by decide)) ((((H.out.front 3 rfl).front 3 rfl).front 2 rfl).front 3 rfl) rfl (by decide) (hold_nil (fs:=[8]) trivial rfl ?nil12_1) ?gd12_1 ?step12_1 (fun t=>(decide (12 ≤ t) && decide (t ≤ 13)) || (decide (93 ≤ t) && decide (t ≤ 104))) (by decide) ?done12_1 (fun I h0 st dn=>run_wpB mixed I h0 st dn)
     case nil12_1 =>
      intro s gs hs
      simp only [List.mem_cons,List.not_mem_nil,or_false] at hs
      subst hs; rfl
     case gd12_1 =>
      repeat (refine StepAll.cons (by first | exact trivial | exact fun g=>rfl) ?_)
      exact trivial
     case step12_1 =>
      refine .cons (pR 0 rfl fun _=>⟨rfl,rfl⟩) ?_
      refine .cons (pN 0 94 rfl fun _=>⟨rfl,rfl⟩) ?_
      refine .cons (pF 1 95 0 rfl rfl (fun b q w=>by simp [go_sem]) fun _=>⟨⟨_,_,rfl,rfl⟩,rfl⟩) ?_
      refine StepAll.cons ?_ ?_
      · refine HoldStepB.val (by decide) fun a wx γ hn hr hres hpre Ss hH K hK=>?_
        have e96:a.eval (.tmp 96) = .pointer (some ⟨p,0,none⟩):=hn 2 (by decide) 96 rfl
        exact hold_run (v:=.pointer (some ⟨b,0,none⟩)) (by clear hn hr hK; generalize a.eval = ρ at *; simp [execOp,e96,cell_of_heap (Hd.nthk 1 hH.rear rfl),go_sem]) rfl rfl hH hK
      refine .cons (pR 0 rfl fun _=>⟨rfl,rfl⟩) ?_
      refine .cons (pN 4 98 rfl fun _=>⟨rfl,rfl⟩) ?_
      refine .cons (pF 5 99 8 rfl rfl (fun b q w=>by simp [go_sem]) fun _=>⟨⟨_,_,rfl,rfl⟩,rfl⟩) ?_
      refine StepAll.cons ?_ ?_
      · refine HoldStepB.val (by decide) fun a wx γ hn hr hres hpre Ss hH K hK=>?_
        have e100:a.eval (.tmp 100) = .pointer (some ⟨p,8,none⟩):=hn 6 (by decide) 100 rfl
        exact hold_run (v:=.agg #[.int .i64 ik,.int .i64 ie]) (by clear hn hr hK; generalize a.eval = ρ at *; simp [execOp,e100,cell_of_heap (Hd.nthk 1 hH.rear rfl),go_sem]) rfl rfl hH hK
      refine StepAll.cons ?_ ?_
      · refine HoldStepB.fil 14 (by decide) fun a wx γ hn hr hres hpre Ss hH K hK=>?_
        have e97:a.eval (.tmp 97) = .pointer (some ⟨b,0,none⟩):=hn 3 (by decide) 97 rfl
        have e101:a.eval (.tmp 101) = .agg #[.int .i64 ik,.int .i64 ie]:=hn 7 (by decide) 101 rfl
        have ef:a.eval (.func 27) = .func (.func 27) #[] #[]:=rfl
        refine hold_callB (b:=14) (f:=27) (args:=#[.pointer (some ⟨b,0,none⟩),.agg #[.int .i64 ik,.int .i64 ie]]) (by clear hn hr hK hH; generalize a.eval = ρ at *; simp [execOp,e97,e101,cf27,ef,go_sem]) ?_ hK
        exact (rseal15_calls ik ie HP.out hH).mono fun e2 w2 h=>⟨default,h.1,h.2⟩
      refine .cons (pN 8 102 rfl fun _=>⟨rfl,rfl⟩) ?_
      refine .cons (pN 9 93 rfl fun _=>⟨rfl,rfl⟩) ?_
      refine .cons (pN 9 93 rfl fun _=>⟨rfl,rfl⟩) ?_
      refine .cons (pN 10 103 rfl fun _=>⟨rfl,rfl⟩) ?_
      refine .cons (pN 11 104 rfl fun _=>⟨rfl,rfl⟩) ?_
      exact trivial
     case done12_1 =>
      intro f w9 g9 hv h9
      have er12:f 12 = .int .i64 key:=hv 12 12 rfl
      have er13:f 13 = .int .i64 f2:=hv 13 13 rfl
      have hd:Hd W w9 (RSto b L4 m::Blk p10 (.cells #[.int .i64 e,.int .i64 0,.int .u64 nx,.int .u64 bt] 160 (0,0))::Blk p (.cells #[.pointer (some ⟨b,0,none⟩),.int .i64 xh,.int .i64 xs,.int .i64 xr,.int .i64 xv,.int .i64 ok,.int .i64 oe,.int .i64 sent,.int .i64 ik,.int .i64 ie,.int .u64 nx,.int .u64 bt,.slice ad es.length cap] 94 (0,0))::CaR (.slice ad es.length cap) es::Rs):=h9
      clear hv h9 cf27
      clear g9
      simp only [patchG,Nat.reduceAdd,Nat.reduceLeDiff,decide_true,decide_false,Bool.and_true,Bool.and_false,Bool.or_true,Bool.or_false,cond_true,cond_false,er12,er13]
      clear er12 er13
      clear H HP
      have H:=hid hd
      clear hd
      go_wp2_with fail
      refine bodyPost_ret (v:=.tuple #[.string ⟨#[]⟩,.int .i64 f2]) (by simp [results,Try.results42,go_sem]) rfl ?_
      first
       | exact ⟨ad,cap,rfl,H.out.un2⟩
       | exact ⟨rfl,ad,cap,H.out.un2⟩
   subst h4'
   rw [if_pos rfl] at hq
   obtain ⟨txt,er2,hrd⟩:∃ t r,read5 L4 key n xh c = (t,r):=⟨_,_,rfl⟩
   rw [hrd] at hq
   dsimp only at hq
   have HRD:=hid hrd
   clear hrd
   by_cases h5:er2 = 0
   rotate_left
   · rw [if_neg h5] at hq
     simp only [Prod.mk.injEq] at hq
     obtain ⟨⟨rfl,rfl⟩,rfl,rfl⟩:=hq
     have g1:(er2 != 0) = true:=by rw [bne_iff_ne]; exact h5
     have g2:decide (er2 = 0) = false:=by simpa using h5
     clear h5
     go_enter Try.func42,Try.ntmps42
     have hk:=Hd.nthk 1 H.out rfl
     obtain ⟨g0,g1,g2,g3,g4,g5,g6,g7,g8,g9,g10,g11,g12⟩:=cells13 hk
     have gs:=(Array.getElem?_eq_some_iff.1 hk).1
     have gf:=frozen_of_heap hk
     clear hk
     go_wp2_with fail
     refine (rthere19_c c H.out).mono ?_
     rw [HGB.out]
     rintro e1 w1 ⟨rfl,h1⟩
     clear H g0 g1 g2 g3 g4 g5 g6 g7 g8 g9 g10 g11 g12 gs gf
     have H:=hid h1
     clear h1
     have hk:=Hd.nthk 1 H.out rfl
     obtain ⟨g0,g1,g2,g3,g4,g5,g6,g7,g8,g9,g10,g11,g12⟩:=cells13 hk
     have gs:=(Array.getElem?_eq_some_iff.1 hk).1
     have gf:=frozen_of_heap hk
     clear hk
     go_wp2_with fail
     refine (rget16_is e HGT.out (by have h9:es.length ≤ 4:=HX.out.rc.len; omega) (Hd.la (H.out.front 2 rfl)) H.out).mono ?_
     rintro e2 w2 ⟨rfl,h1⟩
     clear H g0 g1 g2 g3 g4 g5 g6 g7 g8 g9 g10 g11 g12 gs gf
     have H:=hid h1
     clear h1
     obtain ⟨p10,hp10⟩:∃ q,w2.heap.size = q:=⟨_,rfl⟩
     have hk:=Hd.nthk 1 H.out rfl
     obtain ⟨g0,g1,g2,g3,g4,g5,g6,g7,g8,g9,g10,g11,g12⟩:=cells13 hk
     have gs:=(Array.getElem?_eq_some_iff.1 hk).1
     have gf:=frozen_of_heap hk
     clear hk
     have gsp:p < p10:=by rw [← hp10]; exact gs
     have gnp:¬ p = p10:=by omega
     have gnp2:¬ p10 = p:=by omega
     go_wp2_with fail
     clear gsp gnp gnp2
     have H2:=hid (H.out.boxk (o:=.cells #[.int .i64 e,.int .i64 0,.int .u64 nx,.int .u64 bt] 160 (0,0)) p10 hp10)
     clear H g0 g1 g2 g3 g4 g5 g6 g7 g8 g9 g10 g11 g12 gs gf
     refine (rcan_calls (HX.out.rc.w) h0n h255 _).mono ?_
     rw [HCAN.out]
     rintro e3 w3 ⟨rfl,h1⟩
     have H:Hid (Hd W w3 (Blk p10 (.cells #[.int .i64 e,.int .i64 0,.int .u64 nx,.int .u64 bt] 160 (0,0))::RSto b L m::Blk p (.cells #[.pointer (some ⟨b,0,none⟩),.int .i64 xh,.int .i64 xs,.int .i64 xr,.int .i64 xv,.int .i64 ok,.int .i64 oe,.int .i64 sent,.int .i64 ik,.int .i64 ie,.int .u64 nx,.int .u64 bt,.slice ad es.length cap] 94 (0,0))::CaR (.slice ad es.length cap) es::Rs)):=hid (H2.out.still h1)
     clear h1 H2 hp10
     have hk:=Hd.nthk 2 H.out rfl
     obtain ⟨g0,g1,g2,g3,g4,g5,g6,g7,g8,g9,g10,g11,g12⟩:=cells13 hk
     have gs:=(Array.getElem?_eq_some_iff.1 hk).1
     have gf:=frozen_of_heap hk
     clear hk
     go_wp2_with fail
     clear g0 g1 g2 g3 g4 g5 g6 g7 g8 g9 g10 g11 g12 gs gf
     have cf27:∀ args w,(callFunc 27 args).run Try.prog w = .ok (.enter 27 args) w:=fun args w=>by kernel_rfl
     refine hold_coreB (P:=Try.prog) (W:=W) (Rs:=(Blk p10 (.cells #[.int .i64 e,.int .i64 0,.int .u64 nx,.int .u64 bt] 160 (0,0))::Blk p (.cells #[.pointer (some ⟨b,0,none⟩),.int .i64 xh,.int .i64 xs,.int .i64 xr,.int .i64 xv,.int .i64 ok,.int .i64 oe,.int .i64 sent,.int .i64 ik,.int .i64 ie,.int .u64 nx,.int .u64 bt,.slice ad es.length cap] 94 (0,0))::CaR (.slice ad es.length cap) es::Rs)) [[],[0],[1],[2],[],[4],[5],[6],[3,7],[8],[9],[9],[10],[11]] [[],[],[],[],[],[],[],[],[],[],[],[],[],[]] ([some 94,some 95,some 96,some 97,some 98,some 99,some 100,some 101,some 102,some 93,some 103,some 104,some 12,some 13]:List (Option Nat)) ([none,none,none,none,none,none,none,none,none,none,none,none,none,none,some 8]:List (Option Nat)) ((fun _=>pt p 0)::(fun _=>pt p 0)::(fun _=>pt p 0)::(fun _=>pt b 0)::(fun _=>pt p 0)::(fun _=>pt p 0)::(fun _=>pt p 8)::(fun _=>.agg #[.int .i64 ik,.int .i64 ie])::(fun _=>.tuple #[.int .i64 key,.int .i64 0])::(fun _=>.tuple #[.int .i64 key,.int .i64 0])::(fun _=>.int .i64 key)::(fun _=>.int .i64 0)::(fun _=>.int .i64 key)::(fun _=>.int .i64 0)::[]) (zR::zR::zR::zR::zR::zR::zR::zR::zR::zR::zR::zR::zR::zR::(fun _=>[RSto b L m])::([]:List (List Gh → List Res))) (zR::zR::zR::zR::zR::zR::zR::zR::zR::zR::zR::zR::zR::zR::(fun _=>[RSto b L4 m])::([]:List (List Gh → List Res))) (by kernel_rfl) rfl (hold_lt (n:=167) (by decide)) ((((H.out.front 3 rfl).front 3 rfl).front 2 rfl).front 3 rfl) rfl (by decide) (hold_nil (fs:=[8]) trivial rfl ?nil12_2) ?gd12_2 ?step12_2 (fun t=>(decide (12 ≤ t) && decide (t ≤ 13)) || (decide (93 ≤ t) && decide (t ≤ 104))) (by decide) ?done12_2 (fun I h0 st dn=>run_wpB mixed I h0 st dn)
     case nil12_2 =>
      intro s gs hs
      simp only [List.mem_cons,List.not_mem_nil,or_false] at hs
      subst hs; rfl
     case gd12_2 =>
      repeat (refine StepAll.cons (by first | exact trivial | exact fun g=>rfl) ?_)
      exact trivial
     case step12_2 =>
      refine .cons (pR 0 rfl fun _=>⟨rfl,rfl⟩) ?_
      refine .cons (pN 0 94 rfl fun _=>⟨rfl,rfl⟩) ?_
      refine .cons (pF 1 95 0 rfl rfl (fun b q w=>by simp [go_sem]) fun _=>⟨⟨_,_,rfl,rfl⟩,rfl⟩) ?_
      refine StepAll.cons ?_ ?_
      · refine HoldStepB.val (by decide) fun a wx γ hn hr hres hpre Ss hH K hK=>?_
        have e96:a.eval (.tmp 96) = .pointer (some ⟨p,0,none⟩):=hn 2 (by decide) 96 rfl
        exact hold_run (v:=.pointer (some ⟨b,0,none⟩)) (by clear hn hr hK; generalize a.eval = ρ at *; simp [execOp,e96,cell_of_heap (Hd.nthk 1 hH.rear rfl),go_sem]) rfl rfl hH hK
      refine .cons (pR 0 rfl fun _=>⟨rfl,rfl⟩) ?_
      refine .cons (pN 4 98 rfl fun _=>⟨rfl,rfl⟩) ?_
      refine .cons (pF 5 99 8 rfl rfl (fun b q w=>by simp [go_sem]) fun _=>⟨⟨_,_,rfl,rfl⟩,rfl⟩) ?_
      refine StepAll.cons ?_ ?_
      · refine HoldStepB.val (by decide) fun a wx γ hn hr hres hpre Ss hH K hK=>?_
        have e100:a.eval (.tmp 100) = .pointer (some ⟨p,8,none⟩):=hn 6 (by decide) 100 rfl
        exact hold_run (v:=.agg #[.int .i64 ik,.int .i64 ie]) (by clear hn hr hK; generalize a.eval = ρ at *; simp [execOp,e100,cell_of_heap (Hd.nthk 1 hH.rear rfl),go_sem]) rfl rfl hH hK
      refine StepAll.cons ?_ ?_
      · refine HoldStepB.fil 14 (by decide) fun a wx γ hn hr hres hpre Ss hH K hK=>?_
        have e97:a.eval (.tmp 97) = .pointer (some ⟨b,0,none⟩):=hn 3 (by decide) 97 rfl
        have e101:a.eval (.tmp 101) = .agg #[.int .i64 ik,.int .i64 ie]:=hn 7 (by decide) 101 rfl
        have ef:a.eval (.func 27) = .func (.func 27) #[] #[]:=rfl
        refine hold_callB (b:=14) (f:=27) (args:=#[.pointer (some ⟨b,0,none⟩),.agg #[.int .i64 ik,.int .i64 ie]]) (by clear hn hr hK hH; generalize a.eval = ρ at *; simp [execOp,e97,e101,cf27,ef,go_sem]) ?_ hK
        exact (rseal15_calls ik ie HP.out hH).mono fun e2 w2 h=>⟨default,h.1,h.2⟩
      refine .cons (pN 8 102 rfl fun _=>⟨rfl,rfl⟩) ?_
      refine .cons (pN 9 93 rfl fun _=>⟨rfl,rfl⟩) ?_
      refine .cons (pN 9 93 rfl fun _=>⟨rfl,rfl⟩) ?_
      refine .cons (pN 10 103 rfl fun _=>⟨rfl,rfl⟩) ?_
      refine .cons (pN 11 104 rfl fun _=>⟨rfl,rfl⟩) ?_
      exact trivial
     case done12_2 =>
      intro f w9 g9 hv h9
      have er12:f 12 = .int .i64 key:=hv 12 12 rfl
      have er13:f 13 = .int .i64 0:=hv 13 13 rfl
      have hd:Hd W w9 (RSto b L4 m::Blk p10 (.cells #[.int .i64 e,.int .i64 0,.int .u64 nx,.int .u64 bt] 160 (0,0))::Blk p (.cells #[.pointer (some ⟨b,0,none⟩),.int .i64 xh,.int .i64 xs,.int .i64 xr,.int .i64 xv,.int .i64 ok,.int .i64 oe,.int .i64 sent,.int .i64 ik,.int .i64 ie,.int .u64 nx,.int .u64 bt,.slice ad es.length cap] 94 (0,0))::CaR (.slice ad es.length cap) es::Rs):=h9
      clear hv h9 cf27
      clear g9
      simp only [patchG,Nat.reduceAdd,Nat.reduceLeDiff,decide_true,decide_false,Bool.and_true,Bool.and_false,Bool.or_true,Bool.or_false,cond_true,cond_false,er12,er13]
      clear er12 er13
      clear H HP
      have H:=hid hd
      clear hd
      have hk:=Hd.nthk 1 H.out rfl
      obtain ⟨q0,q1,q2,q3⟩:=cells4 hk
      have qs:=(Array.getElem?_eq_some_iff.1 hk).1
      have qf:=frozen_of_heap hk
      clear hk
      go_wp2_with fail
      have H2:=hid (((((H.out.front 3 rfl).front 3 rfl).front 2 rfl).front 3 rfl).set 1 (.int .i64 key))
      obtain ⟨w5,hw5⟩:∃ w5,w9.setCell ⟨p10,1,none⟩ (.int .i64 key) = w5:=⟨_,rfl⟩
      rw [hw5] at H2 ⊢
      clear H hw5 q0 q1 q2 q3 qs qf
      have H:Hid (Hd W w5 (RSto b L4 m::Blk p10 (.cells #[.int .i64 e,.int .i64 key,.int .u64 nx,.int .u64 bt] 160 (0,0))::Blk p (.cells #[.pointer (some ⟨b,0,none⟩),.int .i64 xh,.int .i64 xs,.int .i64 xr,.int .i64 xv,.int .i64 ok,.int .i64 oe,.int .i64 sent,.int .i64 ik,.int .i64 ie,.int .u64 nx,.int .u64 bt,.slice ad es.length cap] 94 (0,0))::CaR (.slice ad es.length cap) es::Rs)):=hid (H2.out.front 1 rfl)
      clear H2
      have cf73:∀ args w,(callFunc 73 args).run Try.prog w = .ok (.enter 73 args) w:=fun args w=>by kernel_rfl
      refine hold_coreB (P:=Try.prog) (W:=W) (Rs:=(Blk p10 (.cells #[.int .i64 e,.int .i64 key,.int .u64 nx,.int .u64 bt] 160 (0,0))::Blk p (.cells #[.pointer (some ⟨b,0,none⟩),.int .i64 xh,.int .i64 xs,.int .i64 xr,.int .i64 xv,.int .i64 ok,.int .i64 oe,.int .i64 sent,.int .i64 ik,.int .i64 ie,.int .u64 nx,.int .u64 bt,.slice ad es.length cap] 94 (0,0))::CaR (.slice ad es.length cap) es::Rs)) [[],[0],[1],[2],[],[4],[],[6],[],[8],[9],[10],[11],[],[3,5,7,12,13],[14],[15],[15],[16],[17]] [[],[],[],[],[],[],[],[],[],[],[],[],[],[],[],[],[],[],[],[]] ([some 111,some 112,some 113,some 114,some 115,some 116,some 117,some 118,some 119,some 120,some 121,some 122,some 123,some 124,some 125,some 110,some 126,some 127,some 14,some 15]:List (Option Nat)) ([none,none,none,none,none,none,none,none,none,none,none,none,none,none,none,none,none,none,none,none,some 14]:List (Option Nat)) ((fun _=>pt p 0)::(fun _=>pt p 0)::(fun _=>pt p 0)::(fun _=>pt b 0)::(fun _=>pt p10 1)::(fun _=>.int .i64 key)::(fun _=>.int .i64 n)::(fun _=>.int .u64 n)::(fun _=>pt p 0)::(fun _=>pt p 0)::(fun _=>pt p 1)::(fun _=>pt p 1)::(fun _=>.int .i64 xh)::(fun _=>.int .i64 c)::(fun _=>.tuple #[.string txt,.int .i64 er2])::(fun _=>.tuple #[.string txt,.int .i64 er2])::(fun _=>.string txt)::(fun _=>.int .i64 er2)::(fun _=>.string txt)::(fun _=>.int .i64 er2)::[]) (zR::zR::zR::zR::zR::zR::zR::zR::zR::zR::zR::zR::zR::zR::zR::zR::zR::zR::zR::zR::(fun _=>[RSto b L4 m])::([]:List (List Gh → List Res))) (zR::zR::zR::zR::zR::zR::zR::zR::zR::zR::zR::zR::zR::zR::zR::zR::zR::zR::zR::zR::(fun _=>[RSto b L4 m])::([]:List (List Gh → List Res))) (by kernel_rfl) rfl (hold_lt (n:=167) (by decide)) H.out rfl (by decide) (hold_nil (fs:=[14]) trivial rfl ?nil16_3) ?gd16_3 ?step16_3 (fun t=>(decide (14 ≤ t) && decide (t ≤ 15)) || (decide (110 ≤ t) && decide (t ≤ 127))) (by decide) ?done16_3 (fun I h0 st dn=>run_wpB mixed I h0 st dn)
      case nil16_3 =>
       intro s gs hs
       simp only [List.mem_cons,List.not_mem_nil,or_false] at hs
       subst hs; rfl
      case gd16_3 =>
       repeat (refine StepAll.cons (by first | exact trivial | exact fun g=>rfl) ?_)
       exact trivial
      case step16_3 =>
       refine .cons (pR 0 rfl fun _=>⟨rfl,rfl⟩) ?_
       refine .cons (pN 0 111 rfl fun _=>⟨rfl,rfl⟩) ?_
       refine .cons (pF 1 112 0 rfl rfl (fun b q w=>by simp [go_sem]) fun _=>⟨⟨_,_,rfl,rfl⟩,rfl⟩) ?_
       refine StepAll.cons ?_ ?_
       · refine HoldStepB.val (by decide) fun a wx γ hn hr hres hpre Ss hH K hK=>?_
         have e113:a.eval (.tmp 113) = .pointer (some ⟨p,0,none⟩):=hn 2 (by decide) 113 rfl
         exact hold_run (v:=.pointer (some ⟨b,0,none⟩)) (by clear hn hr hK; generalize a.eval = ρ at *; simp [execOp,e113,cell_of_heap (Hd.nthk 1 hH.rear rfl),go_sem]) rfl rfl hH hK
       refine StepAll.cons ?_ ?_
       · refine HoldStepB.val (by decide) fun a wx γ hn hr hres hpre Ss hH K hK=>?_
         have e10:a.eval (.tmp 10) = .pointer (some ⟨p10,0,none⟩):=(hr 10 (by decide)).trans rfl
         exact hold_run (v:=.pointer (some ⟨p10,1,none⟩)) (by clear hn hr hK; generalize a.eval = ρ at *; simp [execOp,e10,go_sem]) rfl rfl hH hK
       refine StepAll.cons ?_ ?_
       · refine HoldStepB.val (by decide) fun a wx γ hn hr hres hpre Ss hH K hK=>?_
         have e115:a.eval (.tmp 115) = .pointer (some ⟨p10,1,none⟩):=hn 4 (by decide) 115 rfl
         exact hold_run (v:=.int .i64 key) (by clear hn hr hK; generalize a.eval = ρ at *; simp [execOp,e115,cell_of_heap (Hd.nthk 0 hH.rear rfl),go_sem]) rfl rfl hH hK
       refine .cons (pR 2 rfl fun _=>⟨rfl,rfl⟩) ?_
       refine StepAll.cons ?_ ?_
       · refine HoldStepB.val (by decide) fun a wx γ hn hr hres hpre Ss hH K hK=>?_
         have e117:a.eval (.tmp 117) = .int .i64 n:=hn 6 (by decide) 117 rfl
         exact hold_run (v:=.int .u64 n) (by clear hn hr hK; generalize a.eval = ρ at *; simp [execOp,e117,zcv,go_sem]) rfl rfl hH hK
       refine .cons (pR 0 rfl fun _=>⟨rfl,rfl⟩) ?_
       refine .cons (pN 8 119 rfl fun _=>⟨rfl,rfl⟩) ?_
       refine .cons (pF 9 120 1 rfl rfl (fun b q w=>by simp [go_sem]) fun _=>⟨⟨_,_,rfl,rfl⟩,rfl⟩) ?_
       refine .cons (pF 10 121 0 rfl rfl (fun b q w=>by simp [go_sem]) fun _=>⟨⟨_,_,rfl,rfl⟩,rfl⟩) ?_
       refine StepAll.cons ?_ ?_
       · refine HoldStepB.val (by decide) fun a wx γ hn hr hres hpre Ss hH K hK=>?_
         have e122:a.eval (.tmp 122) = .pointer (some ⟨p,1,none⟩):=hn 11 (by decide) 122 rfl
         exact hold_run (v:=.int .i64 xh) (by clear hn hr hK; generalize a.eval = ρ at *; simp [execOp,e122,cell_of_heap (Hd.nthk 1 hH.rear rfl),go_sem]) rfl rfl hH hK
       refine .cons (pR 3 rfl fun _=>⟨rfl,rfl⟩) ?_
       refine StepAll.cons ?_ ?_
       · refine HoldStepB.fil 20 (by decide) fun a wx γ hn hr hres hpre Ss hH K hK=>?_
         have e114:a.eval (.tmp 114) = .pointer (some ⟨b,0,none⟩):=hn 3 (by decide) 114 rfl
         have e116:a.eval (.tmp 116) = .int .i64 key:=hn 5 (by decide) 116 rfl
         have e118:a.eval (.tmp 118) = .int .u64 n:=hn 7 (by decide) 118 rfl
         have e123:a.eval (.tmp 123) = .int .i64 xh:=hn 12 (by decide) 123 rfl
         have e124:a.eval (.tmp 124) = .int .i64 c:=hn 13 (by decide) 124 rfl
         have ef:a.eval (.func 73) = .func (.func 73) #[] #[]:=rfl
         refine hold_callB (b:=20) (f:=73) (args:=#[.pointer (some ⟨b,0,none⟩),.int .i64 key,.int .u64 n,.int .i64 xh,.int .i64 c]) (by clear hn hr hK hH; generalize a.eval = ρ at *; simp [execOp,e114,e116,e118,e123,e124,cf73,ef,go_sem]) ?_ hK
         refine (rread_calls key n xh c hH).mono fun e2 w2 h=>?_
         rw [HRD.out] at h
         exact ⟨default,h.1,h.2⟩
       refine .cons (pN 14 125 rfl fun _=>⟨rfl,rfl⟩) ?_
       refine .cons (pN 15 110 rfl fun _=>⟨rfl,rfl⟩) ?_
       refine .cons (pN 15 110 rfl fun _=>⟨rfl,rfl⟩) ?_
       refine .cons (pN 16 126 rfl fun _=>⟨rfl,rfl⟩) ?_
       refine .cons (pN 17 127 rfl fun _=>⟨rfl,rfl⟩) ?_
       exact trivial
      case done16_3 =>
       intro f w9 g9 hv h9
       have er14:f 14 = .string txt:=hv 18 14 rfl
       have er15:f 15 = .int .i64 er2:=hv 19 15 rfl
       have hd:Hd W w9 (RSto b L4 m::Blk p10 (.cells #[.int .i64 e,.int .i64 key,.int .u64 nx,.int .u64 bt] 160 (0,0))::Blk p (.cells #[.pointer (some ⟨b,0,none⟩),.int .i64 xh,.int .i64 xs,.int .i64 xr,.int .i64 xv,.int .i64 ok,.int .i64 oe,.int .i64 sent,.int .i64 ik,.int .i64 ie,.int .u64 nx,.int .u64 bt,.slice ad es.length cap] 94 (0,0))::CaR (.slice ad es.length cap) es::Rs):=h9
       clear hv h9 cf73
       clear g9
       simp only [patchG,Nat.reduceAdd,Nat.reduceLeDiff,decide_true,decide_false,Bool.and_true,Bool.and_false,Bool.or_true,Bool.or_false,cond_true,cond_false,er14,er15]
       clear er14 er15
       clear H HRD
       have H:=hid hd
       clear hd
       go_wp2_with fail
       refine bodyPost_ret (v:=.tuple #[.string ⟨#[]⟩,.int .i64 er2]) (by simp [results,Try.results42,go_sem]) rfl ?_
       first
        | exact ⟨ad,cap,rfl,H.out.un2⟩
        | exact ⟨rfl,ad,cap,H.out.un2⟩
   subst h5
   rw [if_pos rfl] at hq
   simp only [Prod.mk.injEq] at hq
   obtain ⟨⟨rfl,rfl⟩,rfl,rfl⟩:=hq
   go_enter Try.func42,Try.ntmps42
   have hk:=Hd.nthk 1 H.out rfl
   obtain ⟨g0,g1,g2,g3,g4,g5,g6,g7,g8,g9,g10,g11,g12⟩:=cells13 hk
   have gs:=(Array.getElem?_eq_some_iff.1 hk).1
   have gf:=frozen_of_heap hk
   clear hk
   go_wp2_with fail
   refine (rthere19_c c H.out).mono ?_
   rw [HGB.out]
   rintro e1 w1 ⟨rfl,h1⟩
   clear H g0 g1 g2 g3 g4 g5 g6 g7 g8 g9 g10 g11 g12 gs gf
   have H:=hid h1
   clear h1
   have hk:=Hd.nthk 1 H.out rfl
   obtain ⟨g0,g1,g2,g3,g4,g5,g6,g7,g8,g9,g10,g11,g12⟩:=cells13 hk
   have gs:=(Array.getElem?_eq_some_iff.1 hk).1
   have gf:=frozen_of_heap hk
   clear hk
   go_wp2_with fail
   refine (rget16_is e HGT.out (by have h9:es.length ≤ 4:=HX.out.rc.len; omega) (Hd.la (H.out.front 2 rfl)) H.out).mono ?_
   rintro e2 w2 ⟨rfl,h1⟩
   clear H g0 g1 g2 g3 g4 g5 g6 g7 g8 g9 g10 g11 g12 gs gf
   have H:=hid h1
   clear h1
   obtain ⟨p10,hp10⟩:∃ q,w2.heap.size = q:=⟨_,rfl⟩
   have hk:=Hd.nthk 1 H.out rfl
   obtain ⟨g0,g1,g2,g3,g4,g5,g6,g7,g8,g9,g10,g11,g12⟩:=cells13 hk
   have gs:=(Array.getElem?_eq_some_iff.1 hk).1
   have gf:=frozen_of_heap hk
   clear hk
   have gsp:p < p10:=by rw [← hp10]; exact gs
   have gnp:¬ p = p10:=by omega
   have gnp2:¬ p10 = p:=by omega
   go_wp2_with fail
   clear gsp gnp gnp2
   have H2:=hid (H.out.boxk (o:=.cells #[.int .i64 e,.int .i64 0,.int .u64 nx,.int .u64 bt] 160 (0,0)) p10 hp10)
   clear H g0 g1 g2 g3 g4 g5 g6 g7 g8 g9 g10 g11 g12 gs gf
   refine (rcan_calls (HX.out.rc.w) h0n h255 _).mono ?_
   rw [HCAN.out]
   rintro e3 w3 ⟨rfl,h1⟩
   have H:Hid (Hd W w3 (Blk p10 (.cells #[.int .i64 e,.int .i64 0,.int .u64 nx,.int .u64 bt] 160 (0,0))::RSto b L m::Blk p (.cells #[.pointer (some ⟨b,0,none⟩),.int .i64 xh,.int .i64 xs,.int .i64 xr,.int .i64 xv,.int .i64 ok,.int .i64 oe,.int .i64 sent,.int .i64 ik,.int .i64 ie,.int .u64 nx,.int .u64 bt,.slice ad es.length cap] 94 (0,0))::CaR (.slice ad es.length cap) es::Rs)):=hid (H2.out.still h1)
   clear h1 H2 hp10
   have hk:=Hd.nthk 2 H.out rfl
   obtain ⟨g0,g1,g2,g3,g4,g5,g6,g7,g8,g9,g10,g11,g12⟩:=cells13 hk
   have gs:=(Array.getElem?_eq_some_iff.1 hk).1
   have gf:=frozen_of_heap hk
   clear hk
   go_wp2_with fail
   clear g0 g1 g2 g3 g4 g5 g6 g7 g8 g9 g10 g11 g12 gs gf
   have cf27:∀ args w,(callFunc 27 args).run Try.prog w = .ok (.enter 27 args) w:=fun args w=>by kernel_rfl
   refine hold_coreB (P:=Try.prog) (W:=W) (Rs:=(Blk p10 (.cells #[.int .i64 e,.int .i64 0,.int .u64 nx,.int .u64 bt] 160 (0,0))::Blk p (.cells #[.pointer (some ⟨b,0,none⟩),.int .i64 xh,.int .i64 xs,.int .i64 xr,.int .i64 xv,.int .i64 ok,.int .i64 oe,.int .i64 sent,.int .i64 ik,.int .i64 ie,.int .u64 nx,.int .u64 bt,.slice ad es.length cap] 94 (0,0))::CaR (.slice ad es.length cap) es::Rs)) [[],[0],[1],[2],[],[4],[5],[6],[3,7],[8],[9],[9],[10],[11]] [[],[],[],[],[],[],[],[],[],[],[],[],[],[]] ([some 94,some 95,some 96,some 97,some 98,some 99,some 100,some 101,some 102,some 93,some 103,some 104,some 12,some 13]:List (Option Nat)) ([none,none,none,none,none,none,none,none,none,none,none,none,none,none,some 8]:List (Option Nat)) ((fun _=>pt p 0)::(fun _=>pt p 0)::(fun _=>pt p 0)::(fun _=>pt b 0)::(fun _=>pt p 0)::(fun _=>pt p 0)::(fun _=>pt p 8)::(fun _=>.agg #[.int .i64 ik,.int .i64 ie])::(fun _=>.tuple #[.int .i64 key,.int .i64 0])::(fun _=>.tuple #[.int .i64 key,.int .i64 0])::(fun _=>.int .i64 key)::(fun _=>.int .i64 0)::(fun _=>.int .i64 key)::(fun _=>.int .i64 0)::[]) (zR::zR::zR::zR::zR::zR::zR::zR::zR::zR::zR::zR::zR::zR::(fun _=>[RSto b L m])::([]:List (List Gh → List Res))) (zR::zR::zR::zR::zR::zR::zR::zR::zR::zR::zR::zR::zR::zR::(fun _=>[RSto b L4 m])::([]:List (List Gh → List Res))) (by kernel_rfl) rfl (hold_lt (n:=167) (by decide)) ((((H.out.front 3 rfl).front 3 rfl).front 2 rfl).front 3 rfl) rfl (by decide) (hold_nil (fs:=[8]) trivial rfl ?nil12_4) ?gd12_4 ?step12_4 (fun t=>(decide (12 ≤ t) && decide (t ≤ 13)) || (decide (93 ≤ t) && decide (t ≤ 104))) (by decide) ?done12_4 (fun I h0 st dn=>run_wpB mixed I h0 st dn)
   case nil12_4 =>
    intro s gs hs
    simp only [List.mem_cons,List.not_mem_nil,or_false] at hs
    subst hs; rfl
   case gd12_4 =>
    repeat (refine StepAll.cons (by first | exact trivial | exact fun g=>rfl) ?_)
    exact trivial
   case step12_4 =>
    refine .cons (pR 0 rfl fun _=>⟨rfl,rfl⟩) ?_
    refine .cons (pN 0 94 rfl fun _=>⟨rfl,rfl⟩) ?_
    refine .cons (pF 1 95 0 rfl rfl (fun b q w=>by simp [go_sem]) fun _=>⟨⟨_,_,rfl,rfl⟩,rfl⟩) ?_
    refine StepAll.cons ?_ ?_
    · refine HoldStepB.val (by decide) fun a wx γ hn hr hres hpre Ss hH K hK=>?_
      have e96:a.eval (.tmp 96) = .pointer (some ⟨p,0,none⟩):=hn 2 (by decide) 96 rfl
      exact hold_run (v:=.pointer (some ⟨b,0,none⟩)) (by clear hn hr hK; generalize a.eval = ρ at *; simp [execOp,e96,cell_of_heap (Hd.nthk 1 hH.rear rfl),go_sem]) rfl rfl hH hK
    refine .cons (pR 0 rfl fun _=>⟨rfl,rfl⟩) ?_
    refine .cons (pN 4 98 rfl fun _=>⟨rfl,rfl⟩) ?_
    refine .cons (pF 5 99 8 rfl rfl (fun b q w=>by simp [go_sem]) fun _=>⟨⟨_,_,rfl,rfl⟩,rfl⟩) ?_
    refine StepAll.cons ?_ ?_
    · refine HoldStepB.val (by decide) fun a wx γ hn hr hres hpre Ss hH K hK=>?_
      have e100:a.eval (.tmp 100) = .pointer (some ⟨p,8,none⟩):=hn 6 (by decide) 100 rfl
      exact hold_run (v:=.agg #[.int .i64 ik,.int .i64 ie]) (by clear hn hr hK; generalize a.eval = ρ at *; simp [execOp,e100,cell_of_heap (Hd.nthk 1 hH.rear rfl),go_sem]) rfl rfl hH hK
    refine StepAll.cons ?_ ?_
    · refine HoldStepB.fil 14 (by decide) fun a wx γ hn hr hres hpre Ss hH K hK=>?_
      have e97:a.eval (.tmp 97) = .pointer (some ⟨b,0,none⟩):=hn 3 (by decide) 97 rfl
      have e101:a.eval (.tmp 101) = .agg #[.int .i64 ik,.int .i64 ie]:=hn 7 (by decide) 101 rfl
      have ef:a.eval (.func 27) = .func (.func 27) #[] #[]:=rfl
      refine hold_callB (b:=14) (f:=27) (args:=#[.pointer (some ⟨b,0,none⟩),.agg #[.int .i64 ik,.int .i64 ie]]) (by clear hn hr hK hH; generalize a.eval = ρ at *; simp [execOp,e97,e101,cf27,ef,go_sem]) ?_ hK
      exact (rseal15_calls ik ie HP.out hH).mono fun e2 w2 h=>⟨default,h.1,h.2⟩
    refine .cons (pN 8 102 rfl fun _=>⟨rfl,rfl⟩) ?_
    refine .cons (pN 9 93 rfl fun _=>⟨rfl,rfl⟩) ?_
    refine .cons (pN 9 93 rfl fun _=>⟨rfl,rfl⟩) ?_
    refine .cons (pN 10 103 rfl fun _=>⟨rfl,rfl⟩) ?_
    refine .cons (pN 11 104 rfl fun _=>⟨rfl,rfl⟩) ?_
    exact trivial
   case done12_4 =>
    intro f w9 g9 hv h9
    have er12:f 12 = .int .i64 key:=hv 12 12 rfl
    have er13:f 13 = .int .i64 0:=hv 13 13 rfl
    have hd:Hd W w9 (RSto b L4 m::Blk p10 (.cells #[.int .i64 e,.int .i64 0,.int .u64 nx,.int .u64 bt] 160 (0,0))::Blk p (.cells #[.pointer (some ⟨b,0,none⟩),.int .i64 xh,.int .i64 xs,.int .i64 xr,.int .i64 xv,.int .i64 ok,.int .i64 oe,.int .i64 sent,.int .i64 ik,.int .i64 ie,.int .u64 nx,.int .u64 bt,.slice ad es.length cap] 94 (0,0))::CaR (.slice ad es.length cap) es::Rs):=h9
    clear hv h9 cf27
    clear g9
    simp only [patchG,Nat.reduceAdd,Nat.reduceLeDiff,decide_true,decide_false,Bool.and_true,Bool.and_false,Bool.or_true,Bool.or_false,cond_true,cond_false,er12,er13]
    clear er12 er13
    clear H HP
    have H:=hid hd
    clear hd
    have hk:=Hd.nthk 1 H.out rfl
    obtain ⟨q0,q1,q2,q3⟩:=cells4 hk
    have qs:=(Array.getElem?_eq_some_iff.1 hk).1
    have qf:=frozen_of_heap hk
    clear hk
    go_wp2_with fail
    have H2:=hid (((((H.out.front 3 rfl).front 3 rfl).front 2 rfl).front 3 rfl).set 1 (.int .i64 key))
    obtain ⟨w5,hw5⟩:∃ w5,w9.setCell ⟨p10,1,none⟩ (.int .i64 key) = w5:=⟨_,rfl⟩
    rw [hw5] at H2 ⊢
    clear H hw5 q0 q1 q2 q3 qs qf
    have H:Hid (Hd W w5 (RSto b L4 m::Blk p10 (.cells #[.int .i64 e,.int .i64 key,.int .u64 nx,.int .u64 bt] 160 (0,0))::Blk p (.cells #[.pointer (some ⟨b,0,none⟩),.int .i64 xh,.int .i64 xs,.int .i64 xr,.int .i64 xv,.int .i64 ok,.int .i64 oe,.int .i64 sent,.int .i64 ik,.int .i64 ie,.int .u64 nx,.int .u64 bt,.slice ad es.length cap] 94 (0,0))::CaR (.slice ad es.length cap) es::Rs)):=hid (H2.out.front 1 rfl)
    clear H2
    have cf73:∀ args w,(callFunc 73 args).run Try.prog w = .ok (.enter 73 args) w:=fun args w=>by kernel_rfl
    refine hold_coreB (P:=Try.prog) (W:=W) (Rs:=(Blk p10 (.cells #[.int .i64 e,.int .i64 key,.int .u64 nx,.int .u64 bt] 160 (0,0))::Blk p (.cells #[.pointer (some ⟨b,0,none⟩),.int .i64 xh,.int .i64 xs,.int .i64 xr,.int .i64 xv,.int .i64 ok,.int .i64 oe,.int .i64 sent,.int .i64 ik,.int .i64 ie,.int .u64 nx,.int .u64 bt,.slice ad es.length cap] 94 (0,0))::CaR (.slice ad es.length cap) es::Rs)) [[],[0],[1],[2],[],[4],[],[6],[],[8],[9],[10],[11],[],[3,5,7,12,13],[14],[15],[15],[16],[17]] [[],[],[],[],[],[],[],[],[],[],[],[],[],[],[],[],[],[],[],[]] ([some 111,some 112,some 113,some 114,some 115,some 116,some 117,some 118,some 119,some 120,some 121,some 122,some 123,some 124,some 125,some 110,some 126,some 127,some 14,some 15]:List (Option Nat)) ([none,none,none,none,none,none,none,none,none,none,none,none,none,none,none,none,none,none,none,none,some 14]:List (Option Nat)) ((fun _=>pt p 0)::(fun _=>pt p 0)::(fun _=>pt p 0)::(fun _=>pt b 0)::(fun _=>pt p10 1)::(fun _=>.int .i64 key)::(fun _=>.int .i64 n)::(fun _=>.int .u64 n)::(fun _=>pt p 0)::(fun _=>pt p 0)::(fun _=>pt p 1)::(fun _=>pt p 1)::(fun _=>.int .i64 xh)::(fun _=>.int .i64 c)::(fun _=>.tuple #[.string txt,.int .i64 0])::(fun _=>.tuple #[.string txt,.int .i64 0])::(fun _=>.string txt)::(fun _=>.int .i64 0)::(fun _=>.string txt)::(fun _=>.int .i64 0)::[]) (zR::zR::zR::zR::zR::zR::zR::zR::zR::zR::zR::zR::zR::zR::zR::zR::zR::zR::zR::zR::(fun _=>[RSto b L4 m])::([]:List (List Gh → List Res))) (zR::zR::zR::zR::zR::zR::zR::zR::zR::zR::zR::zR::zR::zR::zR::zR::zR::zR::zR::zR::(fun _=>[RSto b L4 m])::([]:List (List Gh → List Res))) (by kernel_rfl) rfl (hold_lt (n:=167) (by decide)) H.out rfl (by decide) (hold_nil (fs:=[14]) trivial rfl ?nil16_5) ?gd16_5 ?step16_5 (fun t=>(decide (14 ≤ t) && decide (t ≤ 15)) || (decide (110 ≤ t) && decide (t ≤ 127))) (by decide) ?done16_5 (fun I h0 st dn=>run_wpB mixed I h0 st dn)
    case nil16_5 =>
     intro s gs hs
     simp only [List.mem_cons,List.not_mem_nil,or_false] at hs
     subst hs; rfl
    case gd16_5 =>
     repeat (refine StepAll.cons (by first | exact trivial | exact fun g=>rfl) ?_)
     exact trivial
    case step16_5 =>
     refine .cons (pR 0 rfl fun _=>⟨rfl,rfl⟩) ?_
     refine .cons (pN 0 111 rfl fun _=>⟨rfl,rfl⟩) ?_
     refine .cons (pF 1 112 0 rfl rfl (fun b q w=>by simp [go_sem]) fun _=>⟨⟨_,_,rfl,rfl⟩,rfl⟩) ?_
     refine StepAll.cons ?_ ?_
     · refine HoldStepB.val (by decide) fun a wx γ hn hr hres hpre Ss hH K hK=>?_
       have e113:a.eval (.tmp 113) = .pointer (some ⟨p,0,none⟩):=hn 2 (by decide) 113 rfl
       exact hold_run (v:=.pointer (some ⟨b,0,none⟩)) (by clear hn hr hK; generalize a.eval = ρ at *; simp [execOp,e113,cell_of_heap (Hd.nthk 1 hH.rear rfl),go_sem]) rfl rfl hH hK
     refine StepAll.cons ?_ ?_
     · refine HoldStepB.val (by decide) fun a wx γ hn hr hres hpre Ss hH K hK=>?_
       have e10:a.eval (.tmp 10) = .pointer (some ⟨p10,0,none⟩):=(hr 10 (by decide)).trans rfl
       exact hold_run (v:=.pointer (some ⟨p10,1,none⟩)) (by clear hn hr hK; generalize a.eval = ρ at *; simp [execOp,e10,go_sem]) rfl rfl hH hK
     refine StepAll.cons ?_ ?_
     · refine HoldStepB.val (by decide) fun a wx γ hn hr hres hpre Ss hH K hK=>?_
       have e115:a.eval (.tmp 115) = .pointer (some ⟨p10,1,none⟩):=hn 4 (by decide) 115 rfl
       exact hold_run (v:=.int .i64 key) (by clear hn hr hK; generalize a.eval = ρ at *; simp [execOp,e115,cell_of_heap (Hd.nthk 0 hH.rear rfl),go_sem]) rfl rfl hH hK
     refine .cons (pR 2 rfl fun _=>⟨rfl,rfl⟩) ?_
     refine StepAll.cons ?_ ?_
     · refine HoldStepB.val (by decide) fun a wx γ hn hr hres hpre Ss hH K hK=>?_
       have e117:a.eval (.tmp 117) = .int .i64 n:=hn 6 (by decide) 117 rfl
       exact hold_run (v:=.int .u64 n) (by clear hn hr hK; generalize a.eval = ρ at *; simp [execOp,e117,zcv,go_sem]) rfl rfl hH hK
     refine .cons (pR 0 rfl fun _=>⟨rfl,rfl⟩) ?_
     refine .cons (pN 8 119 rfl fun _=>⟨rfl,rfl⟩) ?_
     refine .cons (pF 9 120 1 rfl rfl (fun b q w=>by simp [go_sem]) fun _=>⟨⟨_,_,rfl,rfl⟩,rfl⟩) ?_
     refine .cons (pF 10 121 0 rfl rfl (fun b q w=>by simp [go_sem]) fun _=>⟨⟨_,_,rfl,rfl⟩,rfl⟩) ?_
     refine StepAll.cons ?_ ?_
     · refine HoldStepB.val (by decide) fun a wx γ hn hr hres hpre Ss hH K hK=>?_
       have e122:a.eval (.tmp 122) = .pointer (some ⟨p,1,none⟩):=hn 11 (by decide) 122 rfl
       exact hold_run (v:=.int .i64 xh) (by clear hn hr hK; generalize a.eval = ρ at *; simp [execOp,e122,cell_of_heap (Hd.nthk 1 hH.rear rfl),go_sem]) rfl rfl hH hK
     refine .cons (pR 3 rfl fun _=>⟨rfl,rfl⟩) ?_
     refine StepAll.cons ?_ ?_
     · refine HoldStepB.fil 20 (by decide) fun a wx γ hn hr hres hpre Ss hH K hK=>?_
       have e114:a.eval (.tmp 114) = .pointer (some ⟨b,0,none⟩):=hn 3 (by decide) 114 rfl
       have e116:a.eval (.tmp 116) = .int .i64 key:=hn 5 (by decide) 116 rfl
       have e118:a.eval (.tmp 118) = .int .u64 n:=hn 7 (by decide) 118 rfl
       have e123:a.eval (.tmp 123) = .int .i64 xh:=hn 12 (by decide) 123 rfl
       have e124:a.eval (.tmp 124) = .int .i64 c:=hn 13 (by decide) 124 rfl
       have ef:a.eval (.func 73) = .func (.func 73) #[] #[]:=rfl
       refine hold_callB (b:=20) (f:=73) (args:=#[.pointer (some ⟨b,0,none⟩),.int .i64 key,.int .u64 n,.int .i64 xh,.int .i64 c]) (by clear hn hr hK hH; generalize a.eval = ρ at *; simp [execOp,e114,e116,e118,e123,e124,cf73,ef,go_sem]) ?_ hK
       refine (rread_calls key n xh c hH).mono fun e2 w2 h=>?_
       rw [HRD.out] at h
       exact ⟨default,h.1,h.2⟩
     refine .cons (pN 14 125 rfl fun _=>⟨rfl,rfl⟩) ?_
     refine .cons (pN 15 110 rfl fun _=>⟨rfl,rfl⟩) ?_
     refine .cons (pN 15 110 rfl fun _=>⟨rfl,rfl⟩) ?_
     refine .cons (pN 16 126 rfl fun _=>⟨rfl,rfl⟩) ?_
     refine .cons (pN 17 127 rfl fun _=>⟨rfl,rfl⟩) ?_
     exact trivial
    case done16_5 =>
     intro f w9 g9 hv h9
     have er14:f 14 = .string txt:=hv 18 14 rfl
     have er15:f 15 = .int .i64 0:=hv 19 15 rfl
     have hd:Hd W w9 (RSto b L4 m::Blk p10 (.cells #[.int .i64 e,.int .i64 key,.int .u64 nx,.int .u64 bt] 160 (0,0))::Blk p (.cells #[.pointer (some ⟨b,0,none⟩),.int .i64 xh,.int .i64 xs,.int .i64 xr,.int .i64 xv,.int .i64 ok,.int .i64 oe,.int .i64 sent,.int .i64 ik,.int .i64 ie,.int .u64 nx,.int .u64 bt,.slice ad es.length cap] 94 (0,0))::CaR (.slice ad es.length cap) es::Rs):=h9
     clear hv h9 cf73
     clear g9
     simp only [patchG,Nat.reduceAdd,Nat.reduceLeDiff,decide_true,decide_false,Bool.and_true,Bool.and_false,Bool.or_true,Bool.or_false,cond_true,cond_false,er14,er15]
     clear er14 er15
     clear H HRD
     have H:=hid hd
     clear hd
     have hk:=Hd.nthk 1 H.out rfl
     obtain ⟨q0,q1,q2,q3⟩:=cells4 hk
     have qs:=(Array.getElem?_eq_some_iff.1 hk).1
     clear hk
     go_wp2_with fail
     refine (rtake_calls (HX.out.rc.w) (HF.out.w) h0n h255 _).mono ?_
     rw [HWT.out]
     rintro e6 w6 ⟨rfl,h1⟩
     replace H:=hid (H.out.still h1)
     clear h1 q0 q1 q2 q3 qs
     obtain ⟨p16,hp16⟩:∃ q,w6.heap.size = q:=⟨_,rfl⟩
     have H2:=hid (H.out.boxk (o:=.cells #[.int .u64 tx,.int .u64 ty] 91 (0,0)) p16 hp16)
     obtain ⟨w7,hw7⟩:∃ w7,w6.alloc (.cells #[.int .u64 tx,.int .u64 ty] 91 (0,0)) = w7:=⟨_,rfl⟩
     rw [hw7] at H2
     clear H
     have H:=H2
     clear H2
     have hk:=Hd.nthk 2 H.out rfl
     obtain ⟨q0,q1,q2,q3⟩:=cells4 hk
     have qs:=(Array.getElem?_eq_some_iff.1 hk).1
     have qf:=frozen_of_heap hk
     clear hk
     have hk:=Hd.nthk 0 H.out rfl
     have r0:=(cell_of_heap hk 0).trans (show _ = some (.int .u64 tx) from rfl)
     have r1:=(cell_of_heap hk 1).trans (show _ = some (.int .u64 ty) from rfl)
     have rs:=(Array.getElem?_eq_some_iff.1 hk).1
     clear hk
     have hk:=Hd.nthk 3 H.out rfl
     obtain ⟨g0,g1,g2,g3,g4,g5,g6,g7,g8,g9,g10,g11,g12⟩:=cells13 hk
     have gs:=(Array.getElem?_eq_some_iff.1 hk).1
     have gf:=frozen_of_heap hk
     clear hk
     have hne:=blks_ne ((((((H.out.front 4 rfl).front 4 rfl).front 3 rfl).front 4 rfl).front 4 rfl))
     have hne2:¬ p10 = p16:=fun e=>hne e.symm
     have hne3:=blks_ne ((((((H.out.front 4 rfl).front 3 rfl).front 3 rfl).front 4 rfl).front 4 rfl))
     have hne4:¬ p = p16:=fun e=>hne3 e.symm
     have hne5:=blks_ne ((((((H.out.front 4 rfl).front 2 rfl).front 2 rfl).front 4 rfl).front 4 rfl))
     have hne6:¬ p = p10:=fun e=>hne5 e.symm
     go_wp2_with fail
     refine bodyPost_ret (v:=.tuple #[.string txt,.int .i64 0]) (by simp [results,Try.results42,go_sem]) rfl ⟨ad,cap,rfl,?_⟩
     have h8:=((((((((H.out.front 4 rfl).front 4 rfl).front 3 rfl).front 3 rfl).front 4 rfl).set 2 (.int .u64 tx)).set 3 (.int .u64 ty)))
     have h9:=((((((((h8.front 4 rfl).front 3 rfl).front 3 rfl).front 3 rfl).front 4 rfl).set 10 (.int .u64 tx)).set 11 (.int .u64 ty)))
     exact ((((((h9.front 4 rfl).front 1 rfl).front 4 rfl).front 4 rfl).front 4 rfl)).drop.drop
set_option maxRecDepth 100000 in
set_option maxHeartbeats 32000000 in
theorem ropen19_ago {x x':Se} {e n c er:Int} {s:ByteArray} {ad:Option Addr} {cap:Nat} (hx:SeOk x) (hf:RcFit x.rc) (_be : -9223372036854775808 ≤ e) (_be':e ≤ 9223372036854775807) (_bn : -9223372036854775808 ≤ n) (_bn':n ≤ 9223372036854775807) (hok:getB L c = true ∧ 0 ≤ e ∧ 0 ≤ n ∧ n < 256) (hie:e < x.rc.ie) (hq:open19 m L x e n c = ((s,er),x',L2)) (h:Hd W w (RSto b L m::Blk p (rsO b x (.slice ad x.rc.es.length cap))::CaR (.slice ad x.rc.es.length cap) x.rc.es::Rs)) :
 Calls Try.prog 42 #[.pointer (some ⟨p,0,none⟩),.int .i64 e,.int .i64 n,.int .i64 c] w fun e' w'=>∃ ad' cap',e' = .returned (.tuple #[.string s,.int .i64 er]) ∧ Hd W w' (RSto b L2 m::Blk p (rsO b x' (.slice ad' x'.rc.es.length cap'))::CaR (.slice ad' x'.rc.es.length cap') x'.rc.es::Rs):=by
 have mixed:Try.prog.follows .mixedOrders = true:=by kernel_rfl
 obtain ⟨ok,oe,sent,⟨ik,ie,nx,bt,es⟩,xh,xs,xr,xv⟩:=x
 have HX:=hid hx
 have HF:=hid hf
 dsimp only at h
 have H:Hid (Hd W w (RSto b L m::Blk p (.cells #[.pointer (some ⟨b,0,none⟩),.int .i64 xh,.int .i64 xs,.int .i64 xr,.int .i64 xv,.int .i64 ok,.int .i64 oe,.int .i64 sent,.int .i64 ik,.int .i64 ie,.int .u64 nx,.int .u64 bt,.slice ad es.length cap] 94 (0,0))::CaR (.slice ad es.length cap) es::Rs)):=hid h
 clear h
 obtain ⟨hg,h0e,h0n,h1n⟩:=hok
 have HGB:=hid hg
 have d1:decide (e < 0) = false:=by simp; omega
 have d2:decide (n < 0) = false:=by simp; omega
 have d3:decide (255 < n) = false:=by simp; omega
 have zcv:IntKind.u64.wrap n = n:=IntWalk.u64_in _ (by omega)
 have h255:n ≤ 255:=by omega
 unfold open19 at hq
 rw [if_pos ⟨hg,h0e,h0n,h1n⟩] at hq
 dsimp only at hq
 unfold recv19 at hq
 dsimp only at hq
 have he0:e < ie:=hie
 clear hie
 rw [if_neg (show ¬ e = ie by omega),if_neg (show ¬ ie < e by omega)] at hq
 have d4:decide (ie < e) = false:=by simp; omega
 have e4:(e == ie) = false:=by simp; omega
 unfold ago19 at hq
 dsimp only at hq
 obtain ⟨⟨ga,gk,gx,gy⟩,gb,hgt⟩:∃ g gb,kGet es e = (g,gb):=⟨_,_,rfl⟩
 rw [hgt] at hq
 have HGT:Hid (rGet es e = (⟨ga,gk,gx,gy⟩,gb)):=hid (by rw [← kGet_eq HX.out.rc.rises]; exact hgt)
 have hmem:gb = true → (⟨ga,gk,gx,gy⟩:En) ∈ es ∧ ga = e:=fun hb=>by
  have:=kGet_mem (es:=es) (n:=e) (by rw [hgt]; exact hb)
  rw [hgt] at this
  exact this
 clear he0 _be _be' _bn _bn' hx hf hg h1n h0e hgt
 dsimp only at hq
 cases gb
 · simp only [Bool.false_eq_true,if_false,show ¬ ((12:Int) = 0) from by decide,Prod.mk.injEq] at hq
   obtain ⟨⟨rfl,rfl⟩,rfl,rfl⟩:=hq
   clear hmem
   go_enter Try.func42,Try.ntmps42
   have hk:=Hd.nthk 1 H.out rfl
   obtain ⟨g0,g1,g2,g3,g4,g5,g6,g7,g8,g9,g10,g11,g12⟩:=cells13 hk
   have gs:=(Array.getElem?_eq_some_iff.1 hk).1
   have gf:=frozen_of_heap hk
   clear hk
   go_wp2_with fail
   refine (rthere19_c c H.out).mono ?_
   rw [HGB.out]
   rintro e1 w1 ⟨rfl,h1⟩
   clear H g0 g1 g2 g3 g4 g5 g6 g7 g8 g9 g10 g11 g12 gs gf
   have H:=hid h1
   clear h1
   have hk:=Hd.nthk 1 H.out rfl
   obtain ⟨g0,g1,g2,g3,g4,g5,g6,g7,g8,g9,g10,g11,g12⟩:=cells13 hk
   have gs:=(Array.getElem?_eq_some_iff.1 hk).1
   have gf:=frozen_of_heap hk
   clear hk
   go_wp2_with fail
   refine (rget16_is e HGT.out (by have h9:es.length ≤ 4:=HX.out.rc.len; omega) (Hd.la (H.out.front 2 rfl)) H.out).mono ?_
   rintro e2 w2 ⟨rfl,h1⟩
   clear H g0 g1 g2 g3 g4 g5 g6 g7 g8 g9 g10 g11 g12 gs gf
   have H:=hid h1
   clear h1
   obtain ⟨p10,hp10⟩:∃ q,w2.heap.size = q:=⟨_,rfl⟩
   have hk:=Hd.nthk 1 H.out rfl
   obtain ⟨g0,g1,g2,g3,g4,g5,g6,g7,g8,g9,g10,g11,g12⟩:=cells13 hk
   have gs:=(Array.getElem?_eq_some_iff.1 hk).1
   have gf:=frozen_of_heap hk
   clear hk
   have gsp:p < p10:=by rw [← hp10]; exact gs
   have gnp:¬ p = p10:=by omega
   have gnp2:¬ p10 = p:=by omega
   go_wp2_with fail
   clear gsp gnp gnp2
   refine bodyPost_ret (v:=.tuple #[.string ⟨#[]⟩,.int .i64 12]) (by simp [results,Try.results42,go_sem]) rfl ⟨ad,cap,rfl,?_⟩
   exact (H.out.boxk (o:=.cells #[.int .i64 ga,.int .i64 gk,.int .u64 gx,.int .u64 gy] 160 (0,0)) p10 hp10).drop
 · obtain ⟨hm1,hm2⟩:=hmem rfl
   have HWI:=hid (HX.out.rc.ws _ hm1)
   have HFI:=hid (HF.out.ws _ hm1)
   clear hmem hm1 hm2
   rw [if_pos rfl] at hq
   cases hcan:wCan gx gy n
   · have HCAN:=hid hcan
     rw [if_neg (show ¬ (wTake gx gy n).2 = 0 by rw [wTake_no hcan]; decide)] at hq
     rw [wTake_no hcan] at hq
     simp only [show ¬ ((12:Int) = 0) from by decide,if_false,Prod.mk.injEq] at hq
     obtain ⟨⟨rfl,rfl⟩,rfl,rfl⟩:=hq
     clear hcan
     go_enter Try.func42,Try.ntmps42
     have hk:=Hd.nthk 1 H.out rfl
     obtain ⟨g0,g1,g2,g3,g4,g5,g6,g7,g8,g9,g10,g11,g12⟩:=cells13 hk
     have gs:=(Array.getElem?_eq_some_iff.1 hk).1
     have gf:=frozen_of_heap hk
     clear hk
     go_wp2_with fail
     refine (rthere19_c c H.out).mono ?_
     rw [HGB.out]
     rintro e1 w1 ⟨rfl,h1⟩
     clear H g0 g1 g2 g3 g4 g5 g6 g7 g8 g9 g10 g11 g12 gs gf
     have H:=hid h1
     clear h1
     have hk:=Hd.nthk 1 H.out rfl
     obtain ⟨g0,g1,g2,g3,g4,g5,g6,g7,g8,g9,g10,g11,g12⟩:=cells13 hk
     have gs:=(Array.getElem?_eq_some_iff.1 hk).1
     have gf:=frozen_of_heap hk
     clear hk
     go_wp2_with fail
     refine (rget16_is e HGT.out (by have h9:es.length ≤ 4:=HX.out.rc.len; omega) (Hd.la (H.out.front 2 rfl)) H.out).mono ?_
     rintro e2 w2 ⟨rfl,h1⟩
     clear H g0 g1 g2 g3 g4 g5 g6 g7 g8 g9 g10 g11 g12 gs gf
     have H:=hid h1
     clear h1
     obtain ⟨p10,hp10⟩:∃ q,w2.heap.size = q:=⟨_,rfl⟩
     have hk:=Hd.nthk 1 H.out rfl
     obtain ⟨g0,g1,g2,g3,g4,g5,g6,g7,g8,g9,g10,g11,g12⟩:=cells13 hk
     have gs:=(Array.getElem?_eq_some_iff.1 hk).1
     have gf:=frozen_of_heap hk
     clear hk
     have gsp:p < p10:=by rw [← hp10]; exact gs
     have gnp:¬ p = p10:=by omega
     have gnp2:¬ p10 = p:=by omega
     go_wp2_with fail
     clear gsp gnp gnp2
     have H2:=hid (H.out.boxk (o:=.cells #[.int .i64 ga,.int .i64 gk,.int .u64 gx,.int .u64 gy] 160 (0,0)) p10 hp10)
     clear H g0 g1 g2 g3 g4 g5 g6 g7 g8 g9 g10 g11 g12 gs gf
     refine (rcan_calls (HWI.out) h0n h255 _).mono ?_
     rw [HCAN.out]
     rintro e3 w3 ⟨rfl,h1⟩
     have H:Hid (Hd W w3 (Blk p10 (.cells #[.int .i64 ga,.int .i64 gk,.int .u64 gx,.int .u64 gy] 160 (0,0))::RSto b L m::Blk p (.cells #[.pointer (some ⟨b,0,none⟩),.int .i64 xh,.int .i64 xs,.int .i64 xr,.int .i64 xv,.int .i64 ok,.int .i64 oe,.int .i64 sent,.int .i64 ik,.int .i64 ie,.int .u64 nx,.int .u64 bt,.slice ad es.length cap] 94 (0,0))::CaR (.slice ad es.length cap) es::Rs)):=hid (H2.out.still h1)
     clear h1 H2 hp10
     go_wp2_with fail
     refine bodyPost_ret (v:=.tuple #[.string ⟨#[]⟩,.int .i64 12]) (by simp [results,Try.results42,go_sem]) rfl ?_
     first
      | exact ⟨ad,cap,rfl,H.out.drop⟩
      | exact ⟨rfl,ad,cap,H.out.drop⟩
   · have HCAN:=hid hcan
     obtain ⟨⟨tx,ty⟩,tr,hwt⟩:∃ t r,wTake gx gy n = (t,r):=⟨_,_,rfl⟩
     have htr:tr = 0:=by have:=wTake_yes hcan; rw [hwt] at this; exact this
     subst htr
     rw [hwt] at hq
     dsimp only at hq
     rw [if_pos rfl] at hq
     dsimp only at hq
     rw [if_pos rfl] at hq
     have HWT:=hid hwt
     clear hcan hwt
     obtain ⟨txt,er2,hrd⟩:∃ t r,read5 L gk n xh c = (t,r):=⟨_,_,rfl⟩
     rw [hrd] at hq
     dsimp only at hq
     have HRD:=hid hrd
     clear hrd
     by_cases h5:er2 = 0
     rotate_left
     · rw [if_neg h5] at hq
       simp only [Prod.mk.injEq] at hq
       obtain ⟨⟨rfl,rfl⟩,rfl,rfl⟩:=hq
       have g1:(er2 != 0) = true:=by rw [bne_iff_ne]; exact h5
       have g2:decide (er2 = 0) = false:=by simpa using h5
       clear h5
       go_enter Try.func42,Try.ntmps42
       have hk:=Hd.nthk 1 H.out rfl
       obtain ⟨g0,g1,g2,g3,g4,g5,g6,g7,g8,g9,g10,g11,g12⟩:=cells13 hk
       have gs:=(Array.getElem?_eq_some_iff.1 hk).1
       have gf:=frozen_of_heap hk
       clear hk
       go_wp2_with fail
       refine (rthere19_c c H.out).mono ?_
       rw [HGB.out]
       rintro e1 w1 ⟨rfl,h1⟩
       clear H g0 g1 g2 g3 g4 g5 g6 g7 g8 g9 g10 g11 g12 gs gf
       have H:=hid h1
       clear h1
       have hk:=Hd.nthk 1 H.out rfl
       obtain ⟨g0,g1,g2,g3,g4,g5,g6,g7,g8,g9,g10,g11,g12⟩:=cells13 hk
       have gs:=(Array.getElem?_eq_some_iff.1 hk).1
       have gf:=frozen_of_heap hk
       clear hk
       go_wp2_with fail
       refine (rget16_is e HGT.out (by have h9:es.length ≤ 4:=HX.out.rc.len; omega) (Hd.la (H.out.front 2 rfl)) H.out).mono ?_
       rintro e2 w2 ⟨rfl,h1⟩
       clear H g0 g1 g2 g3 g4 g5 g6 g7 g8 g9 g10 g11 g12 gs gf
       have H:=hid h1
       clear h1
       obtain ⟨p10,hp10⟩:∃ q,w2.heap.size = q:=⟨_,rfl⟩
       have hk:=Hd.nthk 1 H.out rfl
       obtain ⟨g0,g1,g2,g3,g4,g5,g6,g7,g8,g9,g10,g11,g12⟩:=cells13 hk
       have gs:=(Array.getElem?_eq_some_iff.1 hk).1
       have gf:=frozen_of_heap hk
       clear hk
       have gsp:p < p10:=by rw [← hp10]; exact gs
       have gnp:¬ p = p10:=by omega
       have gnp2:¬ p10 = p:=by omega
       go_wp2_with fail
       clear gsp gnp gnp2
       have H2:=hid (H.out.boxk (o:=.cells #[.int .i64 ga,.int .i64 gk,.int .u64 gx,.int .u64 gy] 160 (0,0)) p10 hp10)
       clear H g0 g1 g2 g3 g4 g5 g6 g7 g8 g9 g10 g11 g12 gs gf
       refine (rcan_calls (HWI.out) h0n h255 _).mono ?_
       rw [HCAN.out]
       rintro e3 w3 ⟨rfl,h1⟩
       have H:Hid (Hd W w3 (Blk p10 (.cells #[.int .i64 ga,.int .i64 gk,.int .u64 gx,.int .u64 gy] 160 (0,0))::RSto b L m::Blk p (.cells #[.pointer (some ⟨b,0,none⟩),.int .i64 xh,.int .i64 xs,.int .i64 xr,.int .i64 xv,.int .i64 ok,.int .i64 oe,.int .i64 sent,.int .i64 ik,.int .i64 ie,.int .u64 nx,.int .u64 bt,.slice ad es.length cap] 94 (0,0))::CaR (.slice ad es.length cap) es::Rs)):=hid (H2.out.still h1)
       clear h1 H2 hp10
       replace H:=hid (H.out.front 1 rfl)
       have hk:=Hd.nthk 2 H.out rfl
       obtain ⟨g0,g1,g2,g3,g4,g5,g6,g7,g8,g9,g10,g11,g12⟩:=cells13 hk
       have gs:=(Array.getElem?_eq_some_iff.1 hk).1
       have gf:=frozen_of_heap hk
       clear hk
       go_wp2_with fail
       clear g0 g1 g2 g3 g4 g5 g6 g7 g8 g9 g10 g11 g12 gs gf
       have cf73:∀ args w,(callFunc 73 args).run Try.prog w = .ok (.enter 73 args) w:=fun args w=>by kernel_rfl
       refine hold_coreB (P:=Try.prog) (W:=W) (Rs:=(Blk p10 (.cells #[.int .i64 ga,.int .i64 gk,.int .u64 gx,.int .u64 gy] 160 (0,0))::Blk p (.cells #[.pointer (some ⟨b,0,none⟩),.int .i64 xh,.int .i64 xs,.int .i64 xr,.int .i64 xv,.int .i64 ok,.int .i64 oe,.int .i64 sent,.int .i64 ik,.int .i64 ie,.int .u64 nx,.int .u64 bt,.slice ad es.length cap] 94 (0,0))::CaR (.slice ad es.length cap) es::Rs)) [[],[0],[1],[2],[],[4],[],[6],[],[8],[9],[10],[11],[],[3,5,7,12,13],[14],[15],[15],[16],[17]] [[],[],[],[],[],[],[],[],[],[],[],[],[],[],[],[],[],[],[],[]] ([some 111,some 112,some 113,some 114,some 115,some 116,some 117,some 118,some 119,some 120,some 121,some 122,some 123,some 124,some 125,some 110,some 126,some 127,some 14,some 15]:List (Option Nat)) ([none,none,none,none,none,none,none,none,none,none,none,none,none,none,none,none,none,none,none,none,some 14]:List (Option Nat)) ((fun _=>pt p 0)::(fun _=>pt p 0)::(fun _=>pt p 0)::(fun _=>pt b 0)::(fun _=>pt p10 1)::(fun _=>.int .i64 gk)::(fun _=>.int .i64 n)::(fun _=>.int .u64 n)::(fun _=>pt p 0)::(fun _=>pt p 0)::(fun _=>pt p 1)::(fun _=>pt p 1)::(fun _=>.int .i64 xh)::(fun _=>.int .i64 c)::(fun _=>.tuple #[.string txt,.int .i64 er2])::(fun _=>.tuple #[.string txt,.int .i64 er2])::(fun _=>.string txt)::(fun _=>.int .i64 er2)::(fun _=>.string txt)::(fun _=>.int .i64 er2)::[]) (zR::zR::zR::zR::zR::zR::zR::zR::zR::zR::zR::zR::zR::zR::zR::zR::zR::zR::zR::zR::(fun _=>[RSto b L m])::([]:List (List Gh → List Res))) (zR::zR::zR::zR::zR::zR::zR::zR::zR::zR::zR::zR::zR::zR::zR::zR::zR::zR::zR::zR::(fun _=>[RSto b L m])::([]:List (List Gh → List Res))) (by kernel_rfl) rfl (hold_lt (n:=167) (by decide)) H.out rfl (by decide) (hold_nil (fs:=[14]) trivial rfl ?nil16_6) ?gd16_6 ?step16_6 (fun t=>(decide (14 ≤ t) && decide (t ≤ 15)) || (decide (110 ≤ t) && decide (t ≤ 127))) (by decide) ?done16_6 (fun I h0 st dn=>run_wpB mixed I h0 st dn)
       case nil16_6 =>
        intro s gs hs
        simp only [List.mem_cons,List.not_mem_nil,or_false] at hs
        subst hs; rfl
       case gd16_6 =>
        repeat (refine StepAll.cons (by first | exact trivial | exact fun g=>rfl) ?_)
        exact trivial
       case step16_6 =>
        refine .cons (pR 0 rfl fun _=>⟨rfl,rfl⟩) ?_
        refine .cons (pN 0 111 rfl fun _=>⟨rfl,rfl⟩) ?_
        refine .cons (pF 1 112 0 rfl rfl (fun b q w=>by simp [go_sem]) fun _=>⟨⟨_,_,rfl,rfl⟩,rfl⟩) ?_
        refine StepAll.cons ?_ ?_
        · refine HoldStepB.val (by decide) fun a wx γ hn hr hres hpre Ss hH K hK=>?_
          have e113:a.eval (.tmp 113) = .pointer (some ⟨p,0,none⟩):=hn 2 (by decide) 113 rfl
          exact hold_run (v:=.pointer (some ⟨b,0,none⟩)) (by clear hn hr hK; generalize a.eval = ρ at *; simp [execOp,e113,cell_of_heap (Hd.nthk 1 hH.rear rfl),go_sem]) rfl rfl hH hK
        refine StepAll.cons ?_ ?_
        · refine HoldStepB.val (by decide) fun a wx γ hn hr hres hpre Ss hH K hK=>?_
          have e10:a.eval (.tmp 10) = .pointer (some ⟨p10,0,none⟩):=(hr 10 (by decide)).trans rfl
          exact hold_run (v:=.pointer (some ⟨p10,1,none⟩)) (by clear hn hr hK; generalize a.eval = ρ at *; simp [execOp,e10,go_sem]) rfl rfl hH hK
        refine StepAll.cons ?_ ?_
        · refine HoldStepB.val (by decide) fun a wx γ hn hr hres hpre Ss hH K hK=>?_
          have e115:a.eval (.tmp 115) = .pointer (some ⟨p10,1,none⟩):=hn 4 (by decide) 115 rfl
          exact hold_run (v:=.int .i64 gk) (by clear hn hr hK; generalize a.eval = ρ at *; simp [execOp,e115,cell_of_heap (Hd.nthk 0 hH.rear rfl),go_sem]) rfl rfl hH hK
        refine .cons (pR 2 rfl fun _=>⟨rfl,rfl⟩) ?_
        refine StepAll.cons ?_ ?_
        · refine HoldStepB.val (by decide) fun a wx γ hn hr hres hpre Ss hH K hK=>?_
          have e117:a.eval (.tmp 117) = .int .i64 n:=hn 6 (by decide) 117 rfl
          exact hold_run (v:=.int .u64 n) (by clear hn hr hK; generalize a.eval = ρ at *; simp [execOp,e117,zcv,go_sem]) rfl rfl hH hK
        refine .cons (pR 0 rfl fun _=>⟨rfl,rfl⟩) ?_
        refine .cons (pN 8 119 rfl fun _=>⟨rfl,rfl⟩) ?_
        refine .cons (pF 9 120 1 rfl rfl (fun b q w=>by simp [go_sem]) fun _=>⟨⟨_,_,rfl,rfl⟩,rfl⟩) ?_
        refine .cons (pF 10 121 0 rfl rfl (fun b q w=>by simp [go_sem]) fun _=>⟨⟨_,_,rfl,rfl⟩,rfl⟩) ?_
        refine StepAll.cons ?_ ?_
        · refine HoldStepB.val (by decide) fun a wx γ hn hr hres hpre Ss hH K hK=>?_
          have e122:a.eval (.tmp 122) = .pointer (some ⟨p,1,none⟩):=hn 11 (by decide) 122 rfl
          exact hold_run (v:=.int .i64 xh) (by clear hn hr hK; generalize a.eval = ρ at *; simp [execOp,e122,cell_of_heap (Hd.nthk 1 hH.rear rfl),go_sem]) rfl rfl hH hK
        refine .cons (pR 3 rfl fun _=>⟨rfl,rfl⟩) ?_
        refine StepAll.cons ?_ ?_
        · refine HoldStepB.fil 20 (by decide) fun a wx γ hn hr hres hpre Ss hH K hK=>?_
          have e114:a.eval (.tmp 114) = .pointer (some ⟨b,0,none⟩):=hn 3 (by decide) 114 rfl
          have e116:a.eval (.tmp 116) = .int .i64 gk:=hn 5 (by decide) 116 rfl
          have e118:a.eval (.tmp 118) = .int .u64 n:=hn 7 (by decide) 118 rfl
          have e123:a.eval (.tmp 123) = .int .i64 xh:=hn 12 (by decide) 123 rfl
          have e124:a.eval (.tmp 124) = .int .i64 c:=hn 13 (by decide) 124 rfl
          have ef:a.eval (.func 73) = .func (.func 73) #[] #[]:=rfl
          refine hold_callB (b:=20) (f:=73) (args:=#[.pointer (some ⟨b,0,none⟩),.int .i64 gk,.int .u64 n,.int .i64 xh,.int .i64 c]) (by clear hn hr hK hH; generalize a.eval = ρ at *; simp [execOp,e114,e116,e118,e123,e124,cf73,ef,go_sem]) ?_ hK
          refine (rread_calls gk n xh c hH).mono fun e2 w2 h=>?_
          rw [HRD.out] at h
          exact ⟨default,h.1,h.2⟩
        refine .cons (pN 14 125 rfl fun _=>⟨rfl,rfl⟩) ?_
        refine .cons (pN 15 110 rfl fun _=>⟨rfl,rfl⟩) ?_
        refine .cons (pN 15 110 rfl fun _=>⟨rfl,rfl⟩) ?_
        refine .cons (pN 16 126 rfl fun _=>⟨rfl,rfl⟩) ?_
        refine .cons (pN 17 127 rfl fun _=>⟨rfl,rfl⟩) ?_
        exact trivial
       case done16_6 =>
        intro f w9 g9 hv h9
        have er14:f 14 = .string txt:=hv 18 14 rfl
        have er15:f 15 = .int .i64 er2:=hv 19 15 rfl
        have hd:Hd W w9 (RSto b L m::Blk p10 (.cells #[.int .i64 ga,.int .i64 gk,.int .u64 gx,.int .u64 gy] 160 (0,0))::Blk p (.cells #[.pointer (some ⟨b,0,none⟩),.int .i64 xh,.int .i64 xs,.int .i64 xr,.int .i64 xv,.int .i64 ok,.int .i64 oe,.int .i64 sent,.int .i64 ik,.int .i64 ie,.int .u64 nx,.int .u64 bt,.slice ad es.length cap] 94 (0,0))::CaR (.slice ad es.length cap) es::Rs):=h9
        clear hv h9 cf73
        clear g9
        simp only [patchG,Nat.reduceAdd,Nat.reduceLeDiff,decide_true,decide_false,Bool.and_true,Bool.and_false,Bool.or_true,Bool.or_false,cond_true,cond_false,er14,er15]
        clear er14 er15
        clear H HRD
        have H:=hid hd
        clear hd
        go_wp2_with fail
        refine bodyPost_ret (v:=.tuple #[.string ⟨#[]⟩,.int .i64 er2]) (by simp [results,Try.results42,go_sem]) rfl ?_
        first
         | exact ⟨ad,cap,rfl,H.out.un2⟩
         | exact ⟨rfl,ad,cap,H.out.un2⟩
     subst h5
     rw [if_pos rfl] at hq
     simp only [Prod.mk.injEq] at hq
     obtain ⟨⟨rfl,rfl⟩,rfl,rfl⟩:=hq
     obtain ⟨⟨es2,⟨pa,pk,px,py⟩,pb⟩,hp⟩:∃ t,kPut es ⟨ga,gk,tx,ty⟩ = t:=⟨_,rfl⟩
     rw [hp]
     rw [kPut_eq HX.out.rc.rises HX.out.rc.len] at hp
     have HP2:=hid hp
     clear hp
     go_enter Try.func42,Try.ntmps42
     have hk:=Hd.nthk 1 H.out rfl
     obtain ⟨g0,g1,g2,g3,g4,g5,g6,g7,g8,g9,g10,g11,g12⟩:=cells13 hk
     have gs:=(Array.getElem?_eq_some_iff.1 hk).1
     have gf:=frozen_of_heap hk
     clear hk
     go_wp2_with fail
     refine (rthere19_c c H.out).mono ?_
     rw [HGB.out]
     rintro e1 w1 ⟨rfl,h1⟩
     clear H g0 g1 g2 g3 g4 g5 g6 g7 g8 g9 g10 g11 g12 gs gf
     have H:=hid h1
     clear h1
     have hk:=Hd.nthk 1 H.out rfl
     obtain ⟨g0,g1,g2,g3,g4,g5,g6,g7,g8,g9,g10,g11,g12⟩:=cells13 hk
     have gs:=(Array.getElem?_eq_some_iff.1 hk).1
     have gf:=frozen_of_heap hk
     clear hk
     go_wp2_with fail
     refine (rget16_is e HGT.out (by have h9:es.length ≤ 4:=HX.out.rc.len; omega) (Hd.la (H.out.front 2 rfl)) H.out).mono ?_
     rintro e2 w2 ⟨rfl,h1⟩
     clear H g0 g1 g2 g3 g4 g5 g6 g7 g8 g9 g10 g11 g12 gs gf
     have H:=hid h1
     clear h1
     obtain ⟨p10,hp10⟩:∃ q,w2.heap.size = q:=⟨_,rfl⟩
     have hk:=Hd.nthk 1 H.out rfl
     obtain ⟨g0,g1,g2,g3,g4,g5,g6,g7,g8,g9,g10,g11,g12⟩:=cells13 hk
     have gs:=(Array.getElem?_eq_some_iff.1 hk).1
     have gf:=frozen_of_heap hk
     clear hk
     have gsp:p < p10:=by rw [← hp10]; exact gs
     have gnp:¬ p = p10:=by omega
     have gnp2:¬ p10 = p:=by omega
     go_wp2_with fail
     clear gsp gnp gnp2
     have H2:=hid (H.out.boxk (o:=.cells #[.int .i64 ga,.int .i64 gk,.int .u64 gx,.int .u64 gy] 160 (0,0)) p10 hp10)
     clear H g0 g1 g2 g3 g4 g5 g6 g7 g8 g9 g10 g11 g12 gs gf
     refine (rcan_calls (HWI.out) h0n h255 _).mono ?_
     rw [HCAN.out]
     rintro e3 w3 ⟨rfl,h1⟩
     have H:Hid (Hd W w3 (Blk p10 (.cells #[.int .i64 ga,.int .i64 gk,.int .u64 gx,.int .u64 gy] 160 (0,0))::RSto b L m::Blk p (.cells #[.pointer (some ⟨b,0,none⟩),.int .i64 xh,.int .i64 xs,.int .i64 xr,.int .i64 xv,.int .i64 ok,.int .i64 oe,.int .i64 sent,.int .i64 ik,.int .i64 ie,.int .u64 nx,.int .u64 bt,.slice ad es.length cap] 94 (0,0))::CaR (.slice ad es.length cap) es::Rs)):=hid (H2.out.still h1)
     clear h1 H2 hp10
     replace H:=hid (H.out.front 1 rfl)
     have hk:=Hd.nthk 2 H.out rfl
     obtain ⟨g0,g1,g2,g3,g4,g5,g6,g7,g8,g9,g10,g11,g12⟩:=cells13 hk
     have gs:=(Array.getElem?_eq_some_iff.1 hk).1
     have gf:=frozen_of_heap hk
     clear hk
     go_wp2_with fail
     clear g0 g1 g2 g3 g4 g5 g6 g7 g8 g9 g10 g11 g12 gs gf
     have cf73:∀ args w,(callFunc 73 args).run Try.prog w = .ok (.enter 73 args) w:=fun args w=>by kernel_rfl
     refine hold_coreB (P:=Try.prog) (W:=W) (Rs:=(Blk p10 (.cells #[.int .i64 ga,.int .i64 gk,.int .u64 gx,.int .u64 gy] 160 (0,0))::Blk p (.cells #[.pointer (some ⟨b,0,none⟩),.int .i64 xh,.int .i64 xs,.int .i64 xr,.int .i64 xv,.int .i64 ok,.int .i64 oe,.int .i64 sent,.int .i64 ik,.int .i64 ie,.int .u64 nx,.int .u64 bt,.slice ad es.length cap] 94 (0,0))::CaR (.slice ad es.length cap) es::Rs)) [[],[0],[1],[2],[],[4],[],[6],[],[8],[9],[10],[11],[],[3,5,7,12,13],[14],[15],[15],[16],[17]] [[],[],[],[],[],[],[],[],[],[],[],[],[],[],[],[],[],[],[],[]] ([some 111,some 112,some 113,some 114,some 115,some 116,some 117,some 118,some 119,some 120,some 121,some 122,some 123,some 124,some 125,some 110,some 126,some 127,some 14,some 15]:List (Option Nat)) ([none,none,none,none,none,none,none,none,none,none,none,none,none,none,none,none,none,none,none,none,some 14]:List (Option Nat)) ((fun _=>pt p 0)::(fun _=>pt p 0)::(fun _=>pt p 0)::(fun _=>pt b 0)::(fun _=>pt p10 1)::(fun _=>.int .i64 gk)::(fun _=>.int .i64 n)::(fun _=>.int .u64 n)::(fun _=>pt p 0)::(fun _=>pt p 0)::(fun _=>pt p 1)::(fun _=>pt p 1)::(fun _=>.int .i64 xh)::(fun _=>.int .i64 c)::(fun _=>.tuple #[.string txt,.int .i64 0])::(fun _=>.tuple #[.string txt,.int .i64 0])::(fun _=>.string txt)::(fun _=>.int .i64 0)::(fun _=>.string txt)::(fun _=>.int .i64 0)::[]) (zR::zR::zR::zR::zR::zR::zR::zR::zR::zR::zR::zR::zR::zR::zR::zR::zR::zR::zR::zR::(fun _=>[RSto b L m])::([]:List (List Gh → List Res))) (zR::zR::zR::zR::zR::zR::zR::zR::zR::zR::zR::zR::zR::zR::zR::zR::zR::zR::zR::zR::(fun _=>[RSto b L m])::([]:List (List Gh → List Res))) (by kernel_rfl) rfl (hold_lt (n:=167) (by decide)) H.out rfl (by decide) (hold_nil (fs:=[14]) trivial rfl ?nil16_7) ?gd16_7 ?step16_7 (fun t=>(decide (14 ≤ t) && decide (t ≤ 15)) || (decide (110 ≤ t) && decide (t ≤ 127))) (by decide) ?done16_7 (fun I h0 st dn=>run_wpB mixed I h0 st dn)
     case nil16_7 =>
      intro s gs hs
      simp only [List.mem_cons,List.not_mem_nil,or_false] at hs
      subst hs; rfl
     case gd16_7 =>
      repeat (refine StepAll.cons (by first | exact trivial | exact fun g=>rfl) ?_)
      exact trivial
     case step16_7 =>
      refine .cons (pR 0 rfl fun _=>⟨rfl,rfl⟩) ?_
      refine .cons (pN 0 111 rfl fun _=>⟨rfl,rfl⟩) ?_
      refine .cons (pF 1 112 0 rfl rfl (fun b q w=>by simp [go_sem]) fun _=>⟨⟨_,_,rfl,rfl⟩,rfl⟩) ?_
      refine StepAll.cons ?_ ?_
      · refine HoldStepB.val (by decide) fun a wx γ hn hr hres hpre Ss hH K hK=>?_
        have e113:a.eval (.tmp 113) = .pointer (some ⟨p,0,none⟩):=hn 2 (by decide) 113 rfl
        exact hold_run (v:=.pointer (some ⟨b,0,none⟩)) (by clear hn hr hK; generalize a.eval = ρ at *; simp [execOp,e113,cell_of_heap (Hd.nthk 1 hH.rear rfl),go_sem]) rfl rfl hH hK
      refine StepAll.cons ?_ ?_
      · refine HoldStepB.val (by decide) fun a wx γ hn hr hres hpre Ss hH K hK=>?_
        have e10:a.eval (.tmp 10) = .pointer (some ⟨p10,0,none⟩):=(hr 10 (by decide)).trans rfl
        exact hold_run (v:=.pointer (some ⟨p10,1,none⟩)) (by clear hn hr hK; generalize a.eval = ρ at *; simp [execOp,e10,go_sem]) rfl rfl hH hK
      refine StepAll.cons ?_ ?_
      · refine HoldStepB.val (by decide) fun a wx γ hn hr hres hpre Ss hH K hK=>?_
        have e115:a.eval (.tmp 115) = .pointer (some ⟨p10,1,none⟩):=hn 4 (by decide) 115 rfl
        exact hold_run (v:=.int .i64 gk) (by clear hn hr hK; generalize a.eval = ρ at *; simp [execOp,e115,cell_of_heap (Hd.nthk 0 hH.rear rfl),go_sem]) rfl rfl hH hK
      refine .cons (pR 2 rfl fun _=>⟨rfl,rfl⟩) ?_
      refine StepAll.cons ?_ ?_
      · refine HoldStepB.val (by decide) fun a wx γ hn hr hres hpre Ss hH K hK=>?_
        have e117:a.eval (.tmp 117) = .int .i64 n:=hn 6 (by decide) 117 rfl
        exact hold_run (v:=.int .u64 n) (by clear hn hr hK; generalize a.eval = ρ at *; simp [execOp,e117,zcv,go_sem]) rfl rfl hH hK
      refine .cons (pR 0 rfl fun _=>⟨rfl,rfl⟩) ?_
      refine .cons (pN 8 119 rfl fun _=>⟨rfl,rfl⟩) ?_
      refine .cons (pF 9 120 1 rfl rfl (fun b q w=>by simp [go_sem]) fun _=>⟨⟨_,_,rfl,rfl⟩,rfl⟩) ?_
      refine .cons (pF 10 121 0 rfl rfl (fun b q w=>by simp [go_sem]) fun _=>⟨⟨_,_,rfl,rfl⟩,rfl⟩) ?_
      refine StepAll.cons ?_ ?_
      · refine HoldStepB.val (by decide) fun a wx γ hn hr hres hpre Ss hH K hK=>?_
        have e122:a.eval (.tmp 122) = .pointer (some ⟨p,1,none⟩):=hn 11 (by decide) 122 rfl
        exact hold_run (v:=.int .i64 xh) (by clear hn hr hK; generalize a.eval = ρ at *; simp [execOp,e122,cell_of_heap (Hd.nthk 1 hH.rear rfl),go_sem]) rfl rfl hH hK
      refine .cons (pR 3 rfl fun _=>⟨rfl,rfl⟩) ?_
      refine StepAll.cons ?_ ?_
      · refine HoldStepB.fil 20 (by decide) fun a wx γ hn hr hres hpre Ss hH K hK=>?_
        have e114:a.eval (.tmp 114) = .pointer (some ⟨b,0,none⟩):=hn 3 (by decide) 114 rfl
        have e116:a.eval (.tmp 116) = .int .i64 gk:=hn 5 (by decide) 116 rfl
        have e118:a.eval (.tmp 118) = .int .u64 n:=hn 7 (by decide) 118 rfl
        have e123:a.eval (.tmp 123) = .int .i64 xh:=hn 12 (by decide) 123 rfl
        have e124:a.eval (.tmp 124) = .int .i64 c:=hn 13 (by decide) 124 rfl
        have ef:a.eval (.func 73) = .func (.func 73) #[] #[]:=rfl
        refine hold_callB (b:=20) (f:=73) (args:=#[.pointer (some ⟨b,0,none⟩),.int .i64 gk,.int .u64 n,.int .i64 xh,.int .i64 c]) (by clear hn hr hK hH; generalize a.eval = ρ at *; simp [execOp,e114,e116,e118,e123,e124,cf73,ef,go_sem]) ?_ hK
        refine (rread_calls gk n xh c hH).mono fun e2 w2 h=>?_
        rw [HRD.out] at h
        exact ⟨default,h.1,h.2⟩
      refine .cons (pN 14 125 rfl fun _=>⟨rfl,rfl⟩) ?_
      refine .cons (pN 15 110 rfl fun _=>⟨rfl,rfl⟩) ?_
      refine .cons (pN 15 110 rfl fun _=>⟨rfl,rfl⟩) ?_
      refine .cons (pN 16 126 rfl fun _=>⟨rfl,rfl⟩) ?_
      refine .cons (pN 17 127 rfl fun _=>⟨rfl,rfl⟩) ?_
      exact trivial
     case done16_7 =>
      intro f w9 g9 hv h9
      have er14:f 14 = .string txt:=hv 18 14 rfl
      have er15:f 15 = .int .i64 0:=hv 19 15 rfl
      have hd:Hd W w9 (RSto b L m::Blk p10 (.cells #[.int .i64 ga,.int .i64 gk,.int .u64 gx,.int .u64 gy] 160 (0,0))::Blk p (.cells #[.pointer (some ⟨b,0,none⟩),.int .i64 xh,.int .i64 xs,.int .i64 xr,.int .i64 xv,.int .i64 ok,.int .i64 oe,.int .i64 sent,.int .i64 ik,.int .i64 ie,.int .u64 nx,.int .u64 bt,.slice ad es.length cap] 94 (0,0))::CaR (.slice ad es.length cap) es::Rs):=h9
      clear hv h9 cf73
      clear g9
      simp only [patchG,Nat.reduceAdd,Nat.reduceLeDiff,decide_true,decide_false,Bool.and_true,Bool.and_false,Bool.or_true,Bool.or_false,cond_true,cond_false,er14,er15]
      clear er14 er15
      clear H HRD
      have H:=hid hd
      clear hd
      have hk:=Hd.nthk 1 H.out rfl
      obtain ⟨q0,q1,q2,q3⟩:=cells4 hk
      have qs:=(Array.getElem?_eq_some_iff.1 hk).1
      clear hk
      go_wp2_with fail
      refine (rtake_calls (HWI.out) (HFI.out) h0n h255 _).mono ?_
      rw [HWT.out]
      rintro e6 w6 ⟨rfl,h1⟩
      replace H:=hid (H.out.still h1)
      clear h1 q0 q1 q2 q3 qs
      obtain ⟨p16,hp16⟩:∃ q,w6.heap.size = q:=⟨_,rfl⟩
      have H2:=hid (H.out.boxk (o:=.cells #[.int .u64 tx,.int .u64 ty] 91 (0,0)) p16 hp16)
      obtain ⟨w7,hw7⟩:∃ w7,w6.alloc (.cells #[.int .u64 tx,.int .u64 ty] 91 (0,0)) = w7:=⟨_,rfl⟩
      rw [hw7] at H2
      clear H
      have H:=H2
      clear H2
      have hk:=Hd.nthk 2 H.out rfl
      obtain ⟨q0,q1,q2,q3⟩:=cells4 hk
      have qs:=(Array.getElem?_eq_some_iff.1 hk).1
      have qf:=frozen_of_heap hk
      clear hk
      have hk:=Hd.nthk 0 H.out rfl
      have r0:=(cell_of_heap hk 0).trans (show _ = some (.int .u64 tx) from rfl)
      have r1:=(cell_of_heap hk 1).trans (show _ = some (.int .u64 ty) from rfl)
      have rs:=(Array.getElem?_eq_some_iff.1 hk).1
      clear hk
      have hk:=Hd.nthk 3 H.out rfl
      obtain ⟨g0,g1,g2,g3,g4,g5,g6,g7,g8,g9,g10,g11,g12⟩:=cells13 hk
      have gs:=(Array.getElem?_eq_some_iff.1 hk).1
      have gf:=frozen_of_heap hk
      clear hk
      have hne:=blks_ne ((((((H.out.front 4 rfl).front 4 rfl).front 3 rfl).front 4 rfl).front 4 rfl))
      have hne2:¬ p10 = p16:=fun e=>hne e.symm
      have hne3:=blks_ne ((((((H.out.front 4 rfl).front 3 rfl).front 3 rfl).front 4 rfl).front 4 rfl))
      have hne4:¬ p = p16:=fun e=>hne3 e.symm
      have hne5:=blks_ne ((((((H.out.front 4 rfl).front 2 rfl).front 2 rfl).front 4 rfl).front 4 rfl))
      have hne6:¬ p = p10:=fun e=>hne5 e.symm
      go_wp2_with fail
      have h8:=((((((((H.out.front 4 rfl).front 4 rfl).front 3 rfl).front 3 rfl).front 4 rfl).set 2 (.int .u64 tx)).set 3 (.int .u64 ty)))
      obtain ⟨w8,hw8⟩:∃ w8,(w7.setCell ⟨p10,2,none⟩ (.int .u64 tx)).setCell ⟨p10,3,none⟩ (.int .u64 ty) = w8:=⟨_,rfl⟩
      rw [hw8] at h8 ⊢
      clear H hw8 hw7 hp16 q0 q1 q2 q3 qs qf r0 r1 rs g0 g1 g2 g3 g4 g5 g6 g7 g8 g9 g10 g11 g12 gs gf hne hne2 hne3 hne4 hne5 hne6
      have H:Hid (Hd W w8 (CaR (.slice ad es.length cap) es::Blk p10 (.cells #[.int .i64 ga,.int .i64 gk,.int .u64 tx,.int .u64 ty] 160 (0,0))::RSto b L m::Blk p (.cells #[.pointer (some ⟨b,0,none⟩),.int .i64 xh,.int .i64 xs,.int .i64 xr,.int .i64 xv,.int .i64 ok,.int .i64 oe,.int .i64 sent,.int .i64 ik,.int .i64 ie,.int .u64 nx,.int .u64 bt,.slice ad es.length cap] 94 (0,0))::Rs)):=hid ((((((h8.front 3 rfl).front 3 rfl).front 2 rfl).front 4 rfl).front 4 rfl)).drop
      clear h8
      have cf75:∀ args w,(callFunc 75 args).run Try.prog w = .ok (.enter 75 args) w:=fun args w=>by kernel_rfl
      refine hold_coreB (P:=Try.prog) (W:=W) (Rs:=(Blk p10 (.cells #[.int .i64 ga,.int .i64 gk,.int .u64 tx,.int .u64 ty] 160 (0,0))::RSto b L m::Blk p (.cells #[.pointer (some ⟨b,0,none⟩),.int .i64 xh,.int .i64 xs,.int .i64 xr,.int .i64 xv,.int .i64 ok,.int .i64 oe,.int .i64 sent,.int .i64 ik,.int .i64 ie,.int .u64 nx,.int .u64 bt,.slice ad es.length cap] 94 (0,0))::Rs)) [[],[0],[1],[2],[],[3,4],[5],[6],[6],[6],[],[7],[8,10],[9]] [[],[],[],[],[],[5],[5],[5],[],[],[10],[5],[10],[]] ([some 153,some 154,some 155,some 156,some 157,some 158,some 152,some 159,some 160,some 161,some 19,some 18,none,some 20]:List (Option Nat)) ([none,none,none,none,none,none,none,none,none,none,some 12,none,none,none,some 5]:List (Option Nat)) ((fun _=>pt p 0)::(fun _=>pt p 0)::(fun _=>pt p 12)::(fun _=>.slice ad es.length cap)::(fun _=>.agg #[.int .i64 ga,.int .i64 gk,.int .u64 tx,.int .u64 ty])::(fun gs=>.tuple #[.slice (gs.getD 0 default).1 es2.length (gs.getD 0 default).2,.agg #[.int .i64 pa,.int .i64 pk,.int .u64 px,.int .u64 py],.bool pb])::(fun gs=>.tuple #[.slice (gs.getD 0 default).1 es2.length (gs.getD 0 default).2,.agg #[.int .i64 pa,.int .i64 pk,.int .u64 px,.int .u64 py],.bool pb])::(fun gs=>.slice (gs.getD 0 default).1 es2.length (gs.getD 0 default).2)::(fun _=>.agg #[.int .i64 pa,.int .i64 pk,.int .u64 px,.int .u64 py])::(fun _=>.bool pb)::(fun gs=>pt ((gs.getD 0 default).2) 0)::(fun gs=>.slice (gs.getD 0 default).1 es2.length (gs.getD 0 default).2)::(fun _=>undef)::(fun _=>.bool pb)::[]) (zR::zR::zR::zR::zR::zR::zR::zR::zR::zR::(fun gs=>[Blk (gs.getD 0 default).2 (.cells #[.int .i64 0,.int .i64 0,.int .u64 0,.int .u64 0] 160 (0,0))])::zR::zR::zR::(fun _=>[CaR (.slice ad es.length cap) es])::([]:List (List Gh → List Res))) (zR::zR::zR::zR::zR::zR::zR::zR::zR::zR::(fun gs=>[Blk (gs.getD 0 default).2 (.cells #[.int .i64 pa,.int .i64 pk,.int .u64 px,.int .u64 py] 160 (0,0))])::zR::zR::zR::(fun gs=>[CaR (.slice (gs.getD 0 default).1 es2.length (gs.getD 0 default).2) es2,CaR (.slice ad es.length cap) es])::([]:List (List Gh → List Res))) (by kernel_rfl) rfl (hold_lt (n:=167) (by decide)) H.out rfl (by decide) (hold_nil (fs:=[12,5]) trivial rfl ?nil23) ?gd23 ?step23 (fun t=>(decide (18 ≤ t) && decide (t ≤ 20)) || (decide (152 ≤ t) && decide (t ≤ 161))) (by decide) ?done23 (fun I h0 st dn=>run_wpB mixed I h0 st dn)
      case nil23 =>
       intro s gs hs
       simp only [List.mem_cons,List.not_mem_nil,or_false] at hs
       rcases hs with rfl | rfl <;> rfl
      case gd23 =>
       repeat (refine StepAll.cons (by first | exact trivial | exact fun g=>rfl) ?_)
       exact trivial
      case step23 =>
       refine .cons (pR 0 rfl fun _=>⟨rfl,rfl⟩) ?_
       refine .cons (pN 0 153 rfl fun _=>⟨rfl,rfl⟩) ?_
       refine .cons (pF 1 154 12 rfl rfl (fun b q w=>by simp [go_sem]) fun _=>⟨⟨_,_,rfl,rfl⟩,rfl⟩) ?_
       refine StepAll.cons ?_ ?_
       · refine HoldStepB.val (by decide) fun a wx γ hn hr hres hpre Ss hH K hK=>?_
         have e155:a.eval (.tmp 155) = .pointer (some ⟨p,12,none⟩):=hn 2 (by decide) 155 rfl
         exact hold_run (v:=.slice ad es.length cap) (by clear hn hr hK; generalize a.eval = ρ at *; simp [execOp,e155,cell_of_heap (Hd.nthk 2 hH.rear rfl),go_sem]) rfl rfl hH hK
       refine StepAll.cons ?_ ?_
       · refine HoldStepB.val (by decide) fun a wx γ hn hr hres hpre Ss hH K hK=>?_
         have e10:a.eval (.tmp 10) = .pointer (some ⟨p10,0,none⟩):=(hr 10 (by decide)).trans rfl
         exact hold_run (v:=.agg #[.int .i64 ga,.int .i64 gk,.int .u64 tx,.int .u64 ty]) (by clear hn hr hK; generalize a.eval = ρ at *; simp [execOp,e10,cell_of_heap (Hd.nthk 0 hH.rear rfl),go_sem]) rfl rfl hH hK
       refine StepAll.cons ?_ ?_
       · refine HoldStepB.fil 14 (by decide) fun a wx γ hn hr hres hpre Ss hH K hK=>?_
         have e156:a.eval (.tmp 156) = .slice ad es.length cap:=hn 3 (by decide) 156 rfl
         have e157:a.eval (.tmp 157) = .agg #[.int .i64 ga,.int .i64 gk,.int .u64 tx,.int .u64 ty]:=hn 4 (by decide) 157 rfl
         have ef:a.eval (.func 75) = .func (.func 75) #[] #[]:=rfl
         refine hold_callB (b:=14) (f:=75) (args:=#[.slice ad es.length cap,.agg #[.int .i64 ga,.int .i64 gk,.int .u64 tx,.int .u64 ty]]) (by clear hn hr hK hH; generalize a.eval = ρ at *; simp [execOp,e156,e157,cf75,ef,go_sem]) ?_ hK
         refine (rput16_is ga gk tx ty HP2.out HX.out.rc.rises (by have h9:es.length ≤ 4:=HX.out.rc.len; omega) (Hd.la hH) hH).mono ?_
         rintro e2 w2 ⟨adN,capN,rfl,h1⟩
         exact ⟨(adN,capN),rfl,h1⟩
       refine .cons (pN 5 158 rfl fun _=>⟨rfl,rfl⟩) ?_
       refine .cons (pN 6 152 rfl fun _=>⟨rfl,rfl⟩) ?_
       refine .cons (pN 6 152 rfl fun _=>⟨rfl,rfl⟩) ?_
       refine .cons (pN 6 152 rfl fun _=>⟨rfl,rfl⟩) ?_
       refine StepAll.cons ?_ ?_
       · refine HoldStepB.val (by decide) fun a wx γ hn hr hres hpre Ss hH K hK=>?_
         exact hold_new (obj:=.cells #[.int .i64 0,.int .i64 0,.int .u64 0,.int .u64 0] 160 (0,0)) (v:=.pointer (some ⟨wx.heap.size,0,none⟩)) (by clear hn hr hK; generalize a.eval = ρ at *; simp [execOp,go_sem]) rfl rfl hH hK
       refine .cons (pN 7 159 rfl fun _=>⟨rfl,rfl⟩) ?_
       refine StepAll.cons ?_ ?_
       · refine HoldStepB.fil 10 (by decide) fun a wx γ hn hr hres hpre Ss hH K hK=>?_
         have e19:a.eval (.tmp 19) = .pointer (some ⟨(γ 10).2,0,none⟩):=hn 10 (by decide) 19 rfl
         have e160:a.eval (.tmp 160) = .agg #[.int .i64 pa,.int .i64 pk,.int .u64 px,.int .u64 py]:=hn 8 (by decide) 160 rfl
         have hH2:Hd W wx (Blk (γ 10).2 (.cells #[.int .i64 0,.int .i64 0,.int .u64 0,.int .u64 0] 160 (0,0))::(Ss ++ (Blk p10 (.cells #[.int .i64 ga,.int .i64 gk,.int .u64 tx,.int .u64 ty] 160 (0,0))::RSto b L m::Blk p (.cells #[.pointer (some ⟨b,0,none⟩),.int .i64 xh,.int .i64 xs,.int .i64 xr,.int .i64 xv,.int .i64 ok,.int .i64 oe,.int .i64 sent,.int .i64 ik,.int .i64 ie,.int .u64 nx,.int .u64 bt,.slice ad es.length cap] 94 (0,0))::Rs))):=hH
         have hk:=hH2.blk
         have c0:=(cell_of_heap hk 0).trans (show _ = some (.int .i64 0) from rfl)
         have c1:=(cell_of_heap hk 1).trans (show _ = some (.int .i64 0) from rfl)
         have c2:=(cell_of_heap hk 2).trans (show _ = some (.int .u64 0) from rfl)
         have c3:=(cell_of_heap hk 3).trans (show _ = some (.int .u64 0) from rfl)
         have cf:=frozen_of_heap hk
         clear hk hH
         exact hold_filB (w':=((((wx.setCell ⟨(γ 10).2,0,none⟩ (.int .i64 pa)).setCell ⟨(γ 10).2,1,none⟩ (.int .i64 pk)).setCell ⟨(γ 10).2,2,none⟩ (.int .u64 px)).setCell ⟨(γ 10).2,3,none⟩ (.int .u64 py))) (by clear hn hr hK hH2; generalize a.eval = ρ at *; simp [execOp,e19,e160,c0,c1,c2,c3,cf,go_sem]) rfl rfl ((((hH2.set 0 (.int .i64 pa)).set 1 (.int .i64 pk)).set 2 (.int .u64 px)).set 3 (.int .u64 py)) hK
       refine .cons (pN 9 161 rfl fun _=>⟨rfl,rfl⟩) ?_
       exact trivial
      case done23 =>
       intro f w9 g9 hv h9
       have er18:f 18 = .slice (g9 5).1 es2.length (g9 5).2:=hv 11 18 rfl
       have er19:f 19 = .pointer (some ⟨(g9 10).2,0,none⟩):=hv 10 19 rfl
       have er20:f 20 = .bool pb:=hv 13 20 rfl
       have hd:Hd W w9 (Blk (g9 10).2 (.cells #[.int .i64 pa,.int .i64 pk,.int .u64 px,.int .u64 py] 160 (0,0))::CaR (.slice (g9 5).1 es2.length (g9 5).2) es2::CaR (.slice ad es.length cap) es::Blk p10 (.cells #[.int .i64 ga,.int .i64 gk,.int .u64 tx,.int .u64 ty] 160 (0,0))::RSto b L m::Blk p (.cells #[.pointer (some ⟨b,0,none⟩),.int .i64 xh,.int .i64 xs,.int .i64 xr,.int .i64 xv,.int .i64 ok,.int .i64 oe,.int .i64 sent,.int .i64 ik,.int .i64 ie,.int .u64 nx,.int .u64 bt,.slice ad es.length cap] 94 (0,0))::Rs):=h9
       obtain ⟨⟨ad2,cap2⟩,hG5⟩:∃ x,g9 5 = x:=⟨_,rfl⟩
       obtain ⟨⟨_,p19⟩,hG10⟩:∃ x,g9 10 = x:=⟨_,rfl⟩
       simp only [hG5,hG10] at hd er18 er19 er20
       clear hv h9 hG5 hG10 cf75
       clear g9
       simp only [patchG,Nat.reduceAdd,Nat.reduceLeDiff,decide_true,decide_false,Bool.and_true,Bool.and_false,Bool.or_true,Bool.or_false,cond_true,cond_false,er18,er19,er20]
       clear er18 er19 er20
       clear H
       have H:=hid hd
       clear hd
       have hk:=Hd.nthk 5 H.out rfl
       obtain ⟨g0,g1,g2,g3,g4,g5,g6,g7,g8,g9,g10,g11,g12⟩:=cells13 hk
       have gs:=(Array.getElem?_eq_some_iff.1 hk).1
       have gf:=frozen_of_heap hk
       clear hk
       go_wp2_with fail
       refine bodyPost_ret (v:=.tuple #[.string txt,.int .i64 0]) (by simp [results,Try.results42,go_sem]) rfl ⟨ad2,cap2,rfl,?_⟩
       have h8:=(((((((H.out.front 1 rfl).front 4 rfl).front 4 rfl).front 4 rfl).front 4 rfl).front 5 rfl).set 12 (.slice ad2 es2.length cap2))
       exact (((((((h8.front 5 rfl).front 1 rfl).front 5 rfl).front 5 rfl).front 5 rfl).front 5 rfl)).drop.drop.drop
set_option maxRecDepth 100000 in
set_option maxHeartbeats 32000000 in
theorem ropen19_later {x x':Se} {e n c er:Int} {s:ByteArray} {ad:Option Addr} {cap:Nat} (hx:SeOk x) (hf:RcFit x.rc) (_be : -9223372036854775808 ≤ e) (_be':e ≤ 9223372036854775807) (_bn : -9223372036854775808 ≤ n) (_bn':n ≤ 9223372036854775807) (hok:getB L c = true ∧ 0 ≤ e ∧ 0 ≤ n ∧ n < 256) (hie:x.rc.ie < e) (hq:open19 m L x e n c = ((s,er),x',L2)) (h:Hd W w (RSto b L m::Blk p (rsO b x (.slice ad x.rc.es.length cap))::CaR (.slice ad x.rc.es.length cap) x.rc.es::Rs)) :
 Calls Try.prog 42 #[.pointer (some ⟨p,0,none⟩),.int .i64 e,.int .i64 n,.int .i64 c] w fun e' w'=>∃ ad' cap',e' = .returned (.tuple #[.string s,.int .i64 er]) ∧ Hd W w' (RSto b L2 m::Blk p (rsO b x' (.slice ad' x'.rc.es.length cap'))::CaR (.slice ad' x'.rc.es.length cap') x'.rc.es::Rs):=by
 have mixed:Try.prog.follows .mixedOrders = true:=by kernel_rfl
 obtain ⟨ok,oe,sent,⟨ik,ie,nx,bt,es⟩,xh,xs,xr,xv⟩:=x
 have HX:=hid hx
 have HF:=hid hf
 dsimp only at h
 have H:Hid (Hd W w (RSto b L m::Blk p (.cells #[.pointer (some ⟨b,0,none⟩),.int .i64 xh,.int .i64 xs,.int .i64 xr,.int .i64 xv,.int .i64 ok,.int .i64 oe,.int .i64 sent,.int .i64 ik,.int .i64 ie,.int .u64 nx,.int .u64 bt,.slice ad es.length cap] 94 (0,0))::CaR (.slice ad es.length cap) es::Rs)):=hid h
 clear h
 obtain ⟨hg,h0e,h0n,h1n⟩:=hok
 have HGB:=hid hg
 have HOK:=hid (show 0 ≤ n ∧ n ≤ 255 from ⟨h0n,by omega⟩)
 have HIE:=hid (show ie < e from hie)
 have d1:decide (e < 0) = false:=by simp; omega
 have d2:decide (n < 0) = false:=by simp; omega
 have d3:decide (255 < n) = false:=by simp; omega
 have d4:decide (ie < e) = true:=by simpa using hie
 have HQ:=hid hq
 have HBE:=hid _be'
 clear _be _be' _bn _bn' hx hf hg h0e h0n h1n hie hq
 go_enter Try.func42,Try.ntmps42
 have hk:=Hd.nthk 1 H.out rfl
 obtain ⟨g0,g1,g2,g3,g4,g5,g6,g7,g8,g9,g10,g11,g12⟩:=cells13 hk
 have gs:=(Array.getElem?_eq_some_iff.1 hk).1
 have gf:=frozen_of_heap hk
 clear hk
 go_wp2_with fail
 refine (rthere19_c c H.out).mono ?_
 rw [HGB.out]
 rintro e1 w1 ⟨rfl,h1⟩
 clear H g0 g1 g2 g3 g4 g5 g6 g7 g8 g9 g10 g11 g12 gs gf
 have H:=hid h1
 clear h1
 have hk:=Hd.nthk 1 H.out rfl
 obtain ⟨g0,g1,g2,g3,g4,g5,g6,g7,g8,g9,g10,g11,g12⟩:=cells13 hk
 have gs:=(Array.getElem?_eq_some_iff.1 hk).1
 have gf:=frozen_of_heap hk
 clear hk
 go_wp2_with fail
 refine (rlater19_calls HX.out HIE.out HBE.out HOK.out.1 HOK.out.2 HGB.out HQ.out H.out).mono ?_
 rintro e2 w2 ⟨ad2,cap2,rfl,h1⟩
 clear H g0 g1 g2 g3 g4 g5 g6 g7 g8 g9 g10 g11 g12 gs gf
 have H:=hid h1
 clear h1
 go_wp2_with fail
 refine bodyPost_ret (v:=.tuple #[.string s,.int .i64 er]) (by simp [results,Try.results42,go_sem]) rfl ⟨ad2,cap2,rfl,?_⟩
 exact H.out

theorem ropen19_calls {x x':Se} {e n c er:Int} {s:ByteArray} {ad:Option Addr} {cap:Nat} (hx:SeOk x) (hf:RcFit x.rc) (_be : -9223372036854775808 ≤ e) (_be':e ≤ 9223372036854775807) (_bn : -9223372036854775808 ≤ n) (_bn':n ≤ 9223372036854775807) (hq:open19 m L x e n c = ((s,er),x',L2)) (h:Hd W w (RSto b L m::Blk p (rsO b x (.slice ad x.rc.es.length cap))::CaR (.slice ad x.rc.es.length cap) x.rc.es::Rs)) :
 Calls Try.prog 42 #[.pointer (some ⟨p,0,none⟩),.int .i64 e,.int .i64 n,.int .i64 c] w fun e' w'=>∃ ad' cap',e' = .returned (.tuple #[.string s,.int .i64 er]) ∧ Hd W w' (RSto b L2 m::Blk p (rsO b x' (.slice ad' x'.rc.es.length cap'))::CaR (.slice ad' x'.rc.es.length cap') x'.rc.es::Rs):=by
 by_cases hok:getB L c = true ∧ 0 ≤ e ∧ 0 ≤ n ∧ n < 256
 · rcases Int.lt_trichotomy e x.rc.ie with h1 | h1 | h1
   · exact ropen19_ago hx hf _be _be' _bn _bn' hok h1 hq h
   · exact ropen19_now hx hf _be _be' _bn _bn' hok h1 hq h
   · exact ropen19_later hx hf _be _be' _bn _bn' hok h1 hq h
 · exact ropen19_bad hx hf _be _be' _bn _bn' hok hq h
end
end Go.Proofs.Ytpcfmafokkffgaa
