/-
  Walks and laws that the proof stands on, one behind another: HoldD SessI SessJ RAead. For every input.
-/
import Derived.Test.YtpcfmafokkffgaaD3
import Derived.Test.YtpcfmafokkffgaaD5
import Derived.Test.YtpcfmafokkffgaaD10
import Derived.Test.YtpcfmafokkffgaaD7
namespace Go.Proofs.Ytpcfmafokkffgaa
open Go.RowKit

section
variable {Q:Exit → Act → World → Prop} {uses:List (List Nat)} {vals:List (List Gh → Value)} {R R2:List (List Gh → List Res)} {W:World} {Ss Rs:List Res} {a:Act} {w:World} {g:Nat → Gh} {i b:Nat} {o:Oper} {K:Act → World → Prop}
theorem hold_litB {E:TypeId} {n:Nat} (zs:List Int) {cs:Array Value} (h:(execOp a.eval o).run Try.prog w = .ok (.value (.slice (some ⟨w.heap.size,0,none⟩) n n)) (w.alloc (.cells cs E (0,0)))) (hcs:cs = (nums .i64 zs).toArray) (hn:n = zs.length) (hm:n ≤ maxLen)
 (hv:Value.slice (some ⟨w.heap.size,0,none⟩) n n = valOf uses vals (updG g i (none,w.heap.size)) i) (hR:(R.getD i fun _=>[]) ((uses.getD i []).map (updG g i (none,w.heap.size))) = [RowR E 1 (.slice (some ⟨w.heap.size,0,none⟩) n n) n (nums .i64 zs)]) (hH:Hd W w (Ss ++ Rs))
 (hK:∀ x v w',(o.dst ≠ none → v = valOf uses vals (updG g i x) i) → Hd W w' ((R.getD i fun _=>[]) ((uses.getD i []).map (updG g i x)) ++ (Ss ++ Rs)) → K (a.put o.dst v) w'):o.wp Try.prog a w K Q:=by
 unfold Oper.wp; rw [h]
 exact hK (none,w.heap.size) _ _ (fun _=>hv) (by rw [hR]; exact hH.row_lit w.heap.size rfl zs hcs hn hm)

theorem hold_appsB {T E n bytes c:Nat} {ad:Option Addr} {zs ys:List Int} {inf:TypeInfo} {g0 cap0:Nat}
 (ht:Try.prog.underlying T = some (.slice E)) (hi:Try.prog.info? E = some inf) (hz:inf.zero = some (.int .i64 0)) (hsize:inf.size = 1) (hby:inf.bytes = bytes) (hb8:bytes ≤ 8)
 (s x:Operand) (ho:o.op = .call { callee:=.builtin .append,args:=#[s,x],argTypes:=#[T,T] }) (h:Hd W w (RowR E 1 (.slice (some ⟨g0,0,none⟩) n cap0) n (nums .i64 zs)::Ss)) (hs:a.eval s = .slice (some ⟨g0,0,none⟩) n cap0) (hnc:n ≤ cap0) (hx:a.eval x = .slice ad ys.length c) (hys:IntsAt w ad ys) (hn:n + ys.length ≤ 100000)
 (hv:∀ y:Gh,valOf uses vals (updG g i y) i = .slice y.1 (n + ys.length) y.2) (hR:∀ y:Gh,(R2.getD b fun _=>[]) ((uses.getD i []).map (updG g i y)) = [RowR E 1 (.slice y.1 (n + ys.length) y.2) (n + ys.length) (nums .i64 (zs ++ ys))])
 (hK:∀ x v w',(o.dst ≠ none → v = valOf uses vals (updG g i x) i) → Hd W w' ((R2.getD b fun _=>[]) ((uses.getD i []).map (updG g i x)) ++ Ss) → K (a.put o.dst v) w'):o.wp Try.prog a w K Q:=by
 rcases hys with rfl | ⟨g1,o1,rfl,hc⟩
 · have hrun:(Builtin.append_ #[T,T] o.type #[.slice (some ⟨g0,0,none⟩) n cap0,.slice ad 0 c]).run Try.prog w = .ok (.slice (some ⟨g0,0,none⟩) n cap0) w:=by
    cases ad with
    | none=>simp [Builtin.append_,run_underlying ht,sizeOf,typeInfo,hi,Builtin.lenOf,Builtin.firstCells,hnc,storeCells]
    | some a=>simp [Builtin.append_,run_underlying ht,sizeOf,typeInfo,hi,Builtin.lenOf,Builtin.firstCells,hnc,storeCells,loadCells,go_sem]
   simp only [List.length_nil] at hx
   unfold Oper.wp
   simp [execOp,ho,resolve,invoke,builtin,hs,hx,hrun,Result.andThen]
   refine hK (some ⟨g0,0,none⟩,cap0) _ w (fun _=>(hv (some ⟨g0,0,none⟩,cap0)).symm) ?_
   rw [hR]
   simpa using h
 · by_cases h0:ys = []
   · subst h0
     have hrun:(Builtin.append_ #[T,T] o.type #[.slice (some ⟨g0,0,none⟩) n cap0,.slice (some ⟨g1,o1,none⟩) 0 c]).run Try.prog w = .ok (.slice (some ⟨g0,0,none⟩) n cap0) w:=by
      simp [Builtin.append_,run_underlying ht,sizeOf,typeInfo,hi,Builtin.lenOf,Builtin.firstCells,hnc,storeCells,loadCells,go_sem]
     simp only [List.length_nil] at hx
     unfold Oper.wp
     simp [execOp,ho,resolve,invoke,builtin,hs,hx,hrun,Result.andThen]
     refine hK (some ⟨g0,0,none⟩,cap0) _ w (fun _=>(hv (some ⟨g0,0,none⟩,cap0)).symm) ?_
     rw [hR]
     simpa using h
   · have hm:0 < ys.length:=List.length_pos_iff.2 h0
     refine wp_append_lies w s x T ho 0 E inf (.int .i64 0) 1 bytes ht hi hz hsize hby rfl (by decide) _ n _ hs h.owns ⟨g1,o1,none⟩ ys.length c (nums .i64 ys) hx (by simp [nums]) (fun j u hj=>?_) (by intro u hu; simp only [nums,List.mem_map] at hu; obtain ⟨z,_,rfl⟩:=hu; rfl) hm (by simp only [maxLen]; omega) ?_ (Nat.zero_le _) _ rfl ?_
     · simp only [nums,List.getElem?_map,Option.map_eq_some_iff] at hj
       obtain ⟨z,hz1,rfl⟩:=hj
       have hjl:=(List.getElem?_eq_some_iff.1 hz1).1
       have:=hc j hjl
       rw [List.getD_eq_getElem?_getD,hz1] at this
       rw [show ((⟨g1,o1,none⟩:Addr).add j) = ⟨g1,o1 + j,none⟩ by simp [Addr.add_lit]]
       exact this
     · have:(n + ys.length) * bytes ≤ (n + ys.length) * 8:=Nat.mul_le_mul_left _ hb8
       omega
     · intro g2 cap w' ho' hg hgg _
       refine hK (some ⟨g2,0,none⟩,cap) _ w' (fun _=>(hv (some ⟨g2,0,none⟩,cap)).symm) ?_
       rw [hR]
       have:=h.grown ho' hg hgg
       rw [show nums .i64 (zs ++ ys) = nums .i64 zs ++ nums .i64 ys by simp [nums]]
       exact this
end
end Go.Proofs.Ytpcfmafokkffgaa
namespace Go.Proofs.Ytpcfmafokkffgaa
open Go.RowKit

section
variable {W w:World} {Rs:List Res} {b p:Nat}
set_option maxHeartbeats 2000000 in
theorem keys_row {es:List En} {v:Value} {w:World} (h:CaAt w v es) (hm:es.length ≤ 900) :
 Calls Try.prog 76 #[.agg #[v]] w fun e w'=>∃ ad cap,e = .returned (.slice ad (kKeys es).length cap) ∧ Hd w w' [RowR 3 1 (.slice ad (kKeys es).length cap) (kKeys es).length (nums .i64 (kKeys es))]:=by
 obtain ⟨ad,cap,rfl,hat,_⟩:=h.ex
 have HE:=hid hat
 clear hat h
 go_enter Try.func76,Try.ntmps76
 go_wp2_with fail
 have H0:=hid ((Hd.refl w).box (.cells #[.slice ad es.length cap] 144 (0,0)))
 refine (mapped_calls (HE.out.later H0.out.below) rfl hm).mono ?_
 rintro e w1 ⟨u,rfl,hd⟩
 have H1:=hid (H0.out.join hd)
 obtain ⟨ua,uc,rfl⟩:=hd.row_form
 have hl:es.length = (kKeys es).length:=by simp [kKeys]
 have HL:=hid hl
 clear hd hl
 go_wp2_with fail
 go_ret
 refine ⟨ua,uc,by rw [← HL.out]; rfl,?_⟩
 rw [← HL.out]
 exact H1.out.un2

set_option maxRecDepth 100000 in
set_option maxHeartbeats 8000000 in
theorem skeys19_calls {x:Se} {ad:Option Addr} {cap:Nat} (h4:x.rc.es.length ≤ 4) (hd:Hd W w (Blk p (seO b x (.slice ad x.rc.es.length cap))::CaR (.slice ad x.rc.es.length cap) x.rc.es::Rs)) :
 Calls Try.prog 44 #[.pointer (some ⟨p,0,none⟩)] w fun e' w'=>∃ a2 c2,e' = .returned (.slice a2 (2 + (kKeys x.rc.es).length) c2) ∧ Hd W w' (RowR 3 1 (.slice a2 (2 + (kKeys x.rc.es).length) c2) (2 + (kKeys x.rc.es).length) (nums .i64 ([x.ok,x.rc.ik] ++ kKeys x.rc.es))::Blk p (seO b x (.slice ad x.rc.es.length cap))::CaR (.slice ad x.rc.es.length cap) x.rc.es::Rs):=by
 have mixed:Try.prog.follows .mixedOrders = true:=by kernel_rfl
 obtain ⟨ok,oe,sent,⟨ik,ie,nx,bt,es⟩,xh,xs,xr,xv⟩:=x
 dsimp only at h4
 have H:Hid (Hd W w (Blk p (.cells #[.int .i64 ok,.int .i64 oe,.int .i64 sent,.int .i64 ik,.int .i64 ie,.int .u64 nx,.int .u64 bt,.slice ad es.length cap,.pointer (some ⟨b,0,none⟩),.int .i64 xh,.int .i64 xs,.int .i64 xr,.int .i64 xv] 148 (0,0))::CaR (.slice ad es.length cap) es::Rs)):=hid hd
 have hk4:(kKeys es).length ≤ 4:=by simpa [kKeys] using h4
 obtain ⟨i0,hi0,hz0,hs0,hy0⟩:=info_int
 clear hd
 go_enter Try.func44,Try.ntmps44
 go_wp2_with fail
 have cf76:∀ args w,(callFunc 76 args).run Try.prog w = .ok (.enter 76 args) w:=fun args w=>by kernel_rfl
 refine hold_coreB (P:=Try.prog) (W:=W) (Rs:=(Blk p (.cells #[.int .i64 ok,.int .i64 oe,.int .i64 sent,.int .i64 ik,.int .i64 ie,.int .u64 nx,.int .u64 bt,.slice ad es.length cap,.pointer (some ⟨b,0,none⟩),.int .i64 xh,.int .i64 xs,.int .i64 xr,.int .i64 xv] 148 (0,0))::CaR (.slice ad es.length cap) es::Rs)) [[],[0],[1],[2],[3],[4],[],[6],[7],[8],[9],[10],[5,11],[],[13],[14],[15],[16],[17],[12,18],[19]] [[],[],[],[],[],[],[],[],[],[],[],[],[12],[],[],[],[],[],[18],[19],[19]] ([some 3,some 4,some 5,some 6,some 7,some 8,some 9,some 10,some 11,some 12,some 13,some 14,some 15,some 16,some 17,some 18,some 19,some 20,some 21,some 22,some 2]:List (Option Nat)) ([none,none,none,none,none,none,none,none,none,none,none,none,some 19,none,none,none,none,none,none,none,none]:List (Option Nat)) ((fun _=>pt p 0)::(fun _=>pt p 0)::(fun _=>pt p 0)::(fun _=>pt p 0)::(fun _=>pt p 0)::(fun _=>.int .i64 ok)::(fun _=>pt p 0)::(fun _=>pt p 0)::(fun _=>pt p 3)::(fun _=>pt p 3)::(fun _=>pt p 3)::(fun _=>.int .i64 ik)::(fun gs=>.slice (some ⟨(gs.getD 0 default).2,0,none⟩) 2 2)::(fun _=>pt p 0)::(fun _=>pt p 0)::(fun _=>pt p 3)::(fun _=>pt p 7)::(fun _=>.agg #[.slice ad es.length cap])::(fun gs=>.slice (gs.getD 0 default).1 (kKeys es).length (gs.getD 0 default).2)::(fun gs=>.slice (gs.getD 0 default).1 (2 + (kKeys es).length) (gs.getD 0 default).2)::(fun gs=>.slice (gs.getD 0 default).1 (2 + (kKeys es).length) (gs.getD 0 default).2)::[]) (zR::zR::zR::zR::zR::zR::zR::zR::zR::zR::zR::zR::(fun gs=>[RowR 3 1 (.slice (some ⟨(gs.getD 0 default).2,0,none⟩) 2 2) 2 (nums .i64 [ok,ik])])::zR::zR::zR::zR::zR::(fun gs=>[RowR 3 1 (.slice (gs.getD 0 default).1 (kKeys es).length (gs.getD 0 default).2) (kKeys es).length (nums .i64 (kKeys es))])::zR::zR::([]:List (List Gh → List Res))) (zR::zR::zR::zR::zR::zR::zR::zR::zR::zR::zR::zR::(fun gs=>[RowR 3 1 (.slice (gs.getD 0 default).1 (2 + (kKeys es).length) (gs.getD 0 default).2) (2 + (kKeys es).length) (nums .i64 ([ok,ik] ++ kKeys es))])::zR::zR::zR::zR::zR::zR::zR::zR::([]:List (List Gh → List Res))) (by kernel_rfl) rfl (hold_lt (n:=23) (by decide)) H.out rfl (by decide) (hold_nil (fs:=[19]) trivial rfl ?nil1) ?gd1 ?step1 (fun t=>(decide (2 ≤ t) && decide (t ≤ 22))) (by decide) ?done1 (fun I h0 st dn=>run_wpB mixed I h0 st dn)
 case nil1 =>
  intro s gs hs
  simp only [List.mem_cons,List.not_mem_nil,or_false] at hs
  subst hs; rfl
 case gd1 =>
  repeat (refine StepAll.cons (by first | exact trivial | exact fun g=>rfl) ?_)
  exact trivial
 case step1 =>
  refine .cons (pR 0 rfl fun _=>⟨rfl,rfl⟩) ?_
  refine .cons (by first | exact pN 0 3 rfl fun _=>⟨rfl,rfl⟩ | exact pF 0 3 0 rfl rfl (fun b q w=>by simp [go_sem]) fun _=>⟨⟨_,_,rfl,rfl⟩,rfl⟩) ?_
  refine .cons (by first | exact pN 1 4 rfl fun _=>⟨rfl,rfl⟩ | exact pF 1 4 0 rfl rfl (fun b q w=>by simp [go_sem]) fun _=>⟨⟨_,_,rfl,rfl⟩,rfl⟩) ?_
  refine .cons (by first | exact pN 2 5 rfl fun _=>⟨rfl,rfl⟩ | exact pF 2 5 0 rfl rfl (fun b q w=>by simp [go_sem]) fun _=>⟨⟨_,_,rfl,rfl⟩,rfl⟩) ?_
  refine .cons (by first | exact pN 3 6 rfl fun _=>⟨rfl,rfl⟩ | exact pF 3 6 0 rfl rfl (fun b q w=>by simp [go_sem]) fun _=>⟨⟨_,_,rfl,rfl⟩,rfl⟩) ?_
  refine StepAll.cons ?_ ?_
  · refine HoldStepB.val (by decide) fun a wx γ hn hr hres hpre Ss hH K hK=>?_
    have e7:a.eval (.tmp 7) = .pointer (some ⟨p,0,none⟩):=hn 4 (by decide) 7 rfl
    exact hold_run (v:=.int .i64 ok) (by clear hn hr hK; generalize a.eval = ρ at *; simp [execOp,e7,cell_of_heap (Hd.nthk 0 hH.rear rfl),go_sem]) rfl rfl hH hK
  refine .cons (pR 0 rfl fun _=>⟨rfl,rfl⟩) ?_
  refine .cons (by first | exact pN 6 9 rfl fun _=>⟨rfl,rfl⟩ | exact pF 6 9 0 rfl rfl (fun b q w=>by simp [go_sem]) fun _=>⟨⟨_,_,rfl,rfl⟩,rfl⟩) ?_
  refine .cons (pF 7 10 3 rfl rfl (fun b q w=>by simp [go_sem]) fun _=>⟨⟨_,_,rfl,rfl⟩,rfl⟩) ?_
  refine .cons (by first | exact pN 8 11 rfl fun _=>⟨rfl,rfl⟩ | exact pF 8 11 0 rfl rfl (fun b q w=>by simp [go_sem]) fun _=>⟨⟨_,_,rfl,rfl⟩,rfl⟩) ?_
  refine .cons (by first | exact pN 9 12 rfl fun _=>⟨rfl,rfl⟩ | exact pF 9 12 0 rfl rfl (fun b q w=>by simp [go_sem]) fun _=>⟨⟨_,_,rfl,rfl⟩,rfl⟩) ?_
  refine StepAll.cons ?_ ?_
  · refine HoldStepB.val (by decide) fun a wx γ hn hr hres hpre Ss hH K hK=>?_
    have e13:a.eval (.tmp 13) = .pointer (some ⟨p,3,none⟩):=hn 10 (by decide) 13 rfl
    exact hold_run (v:=.int .i64 ik) (by clear hn hr hK; generalize a.eval = ρ at *; simp [execOp,e13,cell_of_heap (Hd.nthk 0 hH.rear rfl),go_sem]) rfl rfl hH hK
  refine StepAll.cons ?_ ?_
  · refine HoldStepB.val (by decide) fun a wx γ hn hr hres hpre Ss hH K hK=>?_
    have e8:a.eval (.tmp 8) = .int .i64 ok:=hn 5 (by decide) 8 rfl
    have e14:a.eval (.tmp 14) = .int .i64 ik:=hn 11 (by decide) 14 rfl
    exact hold_litB [ok,ik] (by clear hn hr hK; generalize a.eval = ρ at *; simp [execOp,e8,e14,go_sem]; rfl) rfl rfl (show 2 ≤ maxLen by decide) rfl rfl hH hK
  refine .cons (pR 0 rfl fun _=>⟨rfl,rfl⟩) ?_
  refine .cons (by first | exact pN 13 16 rfl fun _=>⟨rfl,rfl⟩ | exact pF 13 16 0 rfl rfl (fun b q w=>by simp [go_sem]) fun _=>⟨⟨_,_,rfl,rfl⟩,rfl⟩) ?_
  refine .cons (pF 14 17 3 rfl rfl (fun b q w=>by simp [go_sem]) fun _=>⟨⟨_,_,rfl,rfl⟩,rfl⟩) ?_
  refine .cons (pF 15 18 4 rfl rfl (fun b q w=>by simp [go_sem]) fun _=>⟨⟨_,_,rfl,rfl⟩,rfl⟩) ?_
  refine StepAll.cons ?_ ?_
  · refine HoldStepB.val (by decide) fun a wx γ hn hr hres hpre Ss hH K hK=>?_
    have e19:a.eval (.tmp 19) = .pointer (some ⟨p,7,none⟩):=hn 16 (by decide) 19 rfl
    exact hold_run (v:=.agg #[.slice ad es.length cap]) (by clear hn hr hK; generalize a.eval = ρ at *; simp [execOp,e19,cell_of_heap (Hd.nthk 0 hH.rear rfl),go_sem]) rfl rfl hH hK
  refine StepAll.cons ?_ ?_
  · refine HoldStepB.val (by decide) fun a wx γ hn hr hres hpre Ss hH K hK=>?_
    have e20:a.eval (.tmp 20) = .agg #[.slice ad es.length cap]:=hn 17 (by decide) 20 rfl
    have ef:a.eval (.func 76) = .func (.func 76) #[] #[]:=rfl
    refine hold_call (f:=76) (args:=#[.agg #[.slice ad es.length cap]]) (by clear hn hr hK hH; generalize a.eval = ρ at *; simp [execOp,e20,cf76,ef,go_sem]) ?_ hH hK
    refine (keys_row (Hd.ca (hH.rear.front 1 rfl)) (by omega)).mono fun e2 w2 h=>?_
    obtain ⟨a2,c2,rfl,h2⟩:=h
    exact ⟨(a2,c2),rfl,fun Xs hX=>hX.join h2⟩
  refine StepAll.cons ?_ ?_
  · refine HoldStepB.fil 12 (by decide) fun a wx γ hn hr hres hpre Ss hH K hK=>?_
    have e15:a.eval (.tmp 15) = .slice (some ⟨(γ 12).2,0,none⟩) 2 2:=hn 12 (by decide) 15 rfl
    have e21:a.eval (.tmp 21) = .slice (γ 18).1 (kKeys es).length (γ 18).2:=hn 18 (by decide) 21 rfl
    obtain ⟨Zs,hB⟩:=hres 18 (by decide) rfl
    obtain ⟨aa,ca,ea,ia⟩:=row_ints (ks:=kKeys es) (show Hd W wx (RowR 3 1 (.slice (γ 18).1 (kKeys es).length (γ 18).2) (kKeys es).length (nums .i64 (kKeys es))::Zs) from hB)
    simp only [Value.slice.injEq,true_and] at ea
    obtain ⟨ea1,ea2⟩:=ea
    rw [← ea1] at ia
    exact hold_appsB (b:=12) (zs:=[ok,ik]) (ys:=kKeys es) Try.underlying33 hi0 hz0 hs0 hy0 (by decide) (.tmp 15) (.tmp 21) rfl hH e15 (Nat.le_refl _) e21 ia (by omega) (fun y=>rfl) (fun y=>rfl) hK
  refine .cons (pN 19 22 rfl fun _=>⟨rfl,rfl⟩) ?_
  exact trivial
 case done1 =>
  intro f w9 g9 hv h9
  have er2:f 2 = .slice (g9 19).1 (2 + (kKeys es).length) (g9 19).2:=hv 20 2 rfl
  have hd:Hd W w9 (RowR 3 1 (.slice (g9 19).1 (2 + (kKeys es).length) (g9 19).2) (2 + (kKeys es).length) (nums .i64 ([ok,ik] ++ kKeys es))::RowR 3 1 (.slice (g9 18).1 (kKeys es).length (g9 18).2) (kKeys es).length (nums .i64 (kKeys es))::Blk p (.cells #[.int .i64 ok,.int .i64 oe,.int .i64 sent,.int .i64 ik,.int .i64 ie,.int .u64 nx,.int .u64 bt,.slice ad es.length cap,.pointer (some ⟨b,0,none⟩),.int .i64 xh,.int .i64 xs,.int .i64 xr,.int .i64 xv] 148 (0,0))::CaR (.slice ad es.length cap) es::Rs):=h9
  obtain ⟨⟨a3,c3⟩,hG18⟩:∃ x,g9 18 = x:=⟨_,rfl⟩
  obtain ⟨⟨a2,c2⟩,hG19⟩:∃ x,g9 19 = x:=⟨_,rfl⟩
  simp only [hG18,hG19] at hd er2
  clear hv h9 hG18 hG19 cf76
  clear g9
  simp only [patchG,Nat.reduceAdd,Nat.reduceLeDiff,decide_true,decide_false,Bool.and_true,cond_true,cond_false,er2]
  clear er2
  clear H
  have H:=hid hd
  clear hd
  go_wp2_with fail
  go_ret
  exact ⟨a2,c2,rfl,H.out.un2⟩
end
end Go.Proofs.Ytpcfmafokkffgaa
namespace Go.Proofs.Ytpcfmafokkffgaa
open Go.RowKit

/-- Both sides, and their store. -/
def Two (W w:World) (b pa pb:Nat) (x y:Se) (L:List T) (m:Int) (Rs:List Res):Prop :=
 ∃ ada capa adb capb,Hd W w (Sto b L m::Blk pa (seO b x (.slice ada x.rc.es.length capa))::CaR (.slice ada x.rc.es.length capa) x.rc.es::Blk pb (seO b y (.slice adb y.rc.es.length capb))::CaR (.slice adb y.rc.es.length capb) y.rc.es::Rs)

section
variable {W w:World} {Rs:List Res} {b pa pb:Nat} {x y:Se} {L L2:List T} {m:Int}
theorem Two.swap (h:Two W w b pa pb x y L m Rs):Two W w b pb pa y x L m Rs:=by
 obtain ⟨ada,capa,adb,capb,h⟩:=h
 exact ⟨adb,capb,ada,capa,(((((h.front 4 rfl).front 4 rfl).front 4 rfl).front 4 rfl).front 4 rfl |> fun _=>((h.front 4 rfl).front 4 rfl).front 2 rfl)⟩
theorem Two.below (h:Two W w b pa pb x y L m Rs):Below W.heap.size W w:=by
 obtain ⟨_,_,_,_,h⟩:=h
 exact h.below
theorem seal_two {x':Se} {s:ByteArray} {r1 r3 r4 r5:Int} (hx:SeOk x) (hs:s.size ≤ maxLen) (hq:seal19 m L x s = ((r1,r3,r4,r5),x',L2)) (h:Two W w b pa pb x y L m Rs) :
 Calls Try.prog 37 #[.pointer (some ⟨pa,0,none⟩),.string s] w fun e' w'=>e' = .returned (.tuple #[.int .i64 r1,.int .i64 r3,.int .i64 r4,.int .i64 r5]) ∧ Two W w' b pa pb x' y L2 m Rs:=by
 obtain ⟨ada,capa,adb,capb,h⟩:=h
 refine (seal19_calls hx hs hq h).mono fun e' w' h'=>⟨h'.1,ada,capa,adb,capb,?_⟩
 have hh:=h'.2.2
 rw [h'.2.1]
 exact hh
theorem step_two {x':Se} {er:Int} (hq:step19 m L x = (er,x',L2)) (h:Two W w b pa pb x y L m Rs) :
 Calls Try.prog 39 #[.pointer (some ⟨pa,0,none⟩)] w fun e' w'=>e' = .returned (.int .i64 er) ∧ Two W w' b pa pb x' y L2 m Rs:=by
 obtain ⟨ada,capa,adb,capb,h⟩:=h
 refine (step19_calls hq h).mono fun e' w' h'=>⟨h'.1,ada,capa,adb,capb,?_⟩
 have hh:=h'.2.2
 rw [h'.2.1]
 exact hh
theorem open_two {x':Se} {e n c er:Int} {s:ByteArray} (hx:SeOk x) (be : -9223372036854775808 ≤ e) (be':e ≤ 9223372036854775807) (bn : -9223372036854775808 ≤ n) (bn':n ≤ 9223372036854775807) (hq:open19 m L x e n c = ((s,er),x',L2)) (h:Two W w b pa pb x y L m Rs) :
 Calls Try.prog 41 #[.pointer (some ⟨pa,0,none⟩),.int .i64 e,.int .i64 n,.int .i64 c] w fun e' w'=>e' = .returned (.tuple #[.string s,.int .i64 er]) ∧ Two W w' b pa pb x' y L2 m Rs:=by
 obtain ⟨ada,capa,adb,capb,h⟩:=h
 refine (open19_calls hx be be' bn bn' hq h).mono fun e' w' h'=>?_
 obtain ⟨ad',cap',h1,h2⟩:=h'
 exact ⟨h1,ad',cap',adb,capb,h2⟩
theorem now_two (h:Two W w b pa pb x y L m Rs) :
 Calls Try.prog 43 #[.pointer (some ⟨pa,0,none⟩)] w fun e' w'=>e' = .returned (.tuple #[.int .i64 x.oe,.int .i64 x.sent,.int .i64 x.rc.ie]) ∧ Two W w' b pa pb x y L m Rs:=by
 obtain ⟨ada,capa,adb,capb,h⟩:=h
 exact (snow19_calls (h.front 1 rfl)).mono fun e' w' h'=>⟨h'.1,ada,capa,adb,capb,h'.2.front 1 rfl⟩
theorem of_two (h:Two W w b pa pb x y L m Rs) :
 Calls Try.prog 46 #[.pointer (some ⟨pa,0,none⟩)] w fun e' w'=>e' = .returned (.agg #[.int .i64 x.h,.int .i64 x.s,.int .i64 x.r,.int .i64 x.v]) ∧ Two W w' b pa pb x y L m Rs:=by
 obtain ⟨ada,capa,adb,capb,h⟩:=h
 exact (of19_calls (h.front 1 rfl)).mono fun e' w' h'=>⟨h'.1,ada,capa,adb,capb,h'.2.front 1 rfl⟩
theorem keys_two (h4:x.rc.es.length ≤ 4) (h:Two W w b pa pb x y L m Rs) :
 Calls Try.prog 44 #[.pointer (some ⟨pa,0,none⟩)] w fun e' w'=>∃ a2 c2,e' = .returned (.slice a2 (2 + (kKeys x.rc.es).length) c2) ∧ Two W w' b pa pb x y L m (RowR 3 1 (.slice a2 (2 + (kKeys x.rc.es).length) c2) (2 + (kKeys x.rc.es).length) (nums .i64 ([x.ok,x.rc.ik] ++ kKeys x.rc.es))::Rs):=by
 obtain ⟨ada,capa,adb,capb,h⟩:=h
 refine (skeys19_calls h4 ((h.front 2 rfl).front 2 rfl)).mono fun e' w' h'=>?_
 obtain ⟨a2,c2,h1,h2⟩:=h'
 refine ⟨a2,c2,h1,ada,capa,adb,capb,?_⟩
 have h3:=(((((h2.front 0 rfl).front 5 rfl).front 5 rfl).front 4 rfl).front 4 rfl).front 5 rfl
 exact h3
theorem pair_two :
 Calls Try.prog 48 #[] W fun e' w'=>∃ b pa pb,e' = .returned (.tuple #[.pointer (some ⟨b,0,none⟩),.pointer (some ⟨pa,0,none⟩),.pointer (some ⟨pb,0,none⟩)]) ∧ Two W w' b pa pb (se0 1 2 3 1) (se0 1 3 2 1) pl3 20000 []:=by
 refine (pair_calls (Hd.refl W)).mono fun e' w' h'=>?_
 obtain ⟨b,pa,pb,h1,h2⟩:=h'
 refine ⟨b,pa,pb,h1,none,0,none,0,?_⟩
 have h3:=h2.addCaNil.addCaNil
 exact (((h3.front 4 rfl).front 2 rfl).front 4 rfl).front 4 rfl
end
theorem se0_ok (h s r v:Int):SeOk (se0 h s r v):=⟨⟨wIn_zero,fun e he=>by simp [se0] at he,by simp [se0,Rises],by simp [se0],by simp [se0],by simp [se0]⟩,by simp [se0],by simp [se0],by simp [se0],by simp [se0]⟩
end Go.Proofs.Ytpcfmafokkffgaa
namespace Go.Proofs.Ytpcfmafokkffgaa
open Go.RowKit

set_option maxRecDepth 100000 in
set_option maxHeartbeats 1000000 in
theorem rseal_calls {W w:World} {Rs:List Res} {b:Nat} {L:List T} {m:Int} (k n c d:Int) (h:Hd W w (RSto b L m::Rs)) :
 Calls Try.prog 86 #[.pointer (some ⟨b,0,none⟩),.int .i64 k,.int .u64 n,.int .i64 c,.int .i64 d] w fun e w'=>e = .returned (.tuple #[.int .i64 (put m L (seaT k n c d)).1,.int .i64 (put m L (seaT k n c d)).2.1]) ∧ Hd W w' (RSto b (put m L (seaT k n c d)).2.2 m::Rs):=by
 obtain ⟨r1,r2,L2,hq⟩:∃ r1 r2 L2,put m L (seaT k n c d) = (r1,r2,L2):=⟨_,_,_,rfl⟩
 rw [hq]
 have Hq:=hid hq
 have H:=hid h
 clear hq h
 go_enter Try.func86,Try.ntmps86
 go_wp2_with fail
 refine (rput_c 10 ⟨#[]⟩ n k c d Hq (by first | exact H.out | exact H.out.al | exact H.out.al.al | exact H.out.al.al.al | exact H.out.al.al.al.al)).mono ?_
 rintro e w1 ⟨rfl,h1⟩
 replace H:=hid h1
 clear h1
 go_wp2_with fail
 go_ret2
 exact ⟨rfl,H.out⟩

theorem rseal_c {W w:World} {Rs:List Res} {b:Nat} {L:List T} {m:Int} (k n c d:Int) {r1 r2:Int} {L2:List T} (hq:Hid (put m L (seaT k n c d) = (r1,r2,L2))) (h:Hd W w (RSto b L m::Rs)) :
 Calls Try.prog 86 #[.pointer (some ⟨b,0,none⟩),.int .i64 k,.int .u64 n,.int .i64 c,.int .i64 d] w fun e w'=>e = .returned (.tuple #[.int .i64 r1,.int .i64 r2]) ∧ Hd W w' (RSto b L2 m::Rs):=by
 have:=rseal_calls k n c d h
 rw [hq.out] at this
 exact this

set_option maxHeartbeats 1000000 in
theorem rthere_c {W w:World} {Rs:List Res} {b:Nat} {L:List T} {m:Int} (x:Int) (h:Hd W w (RSto b L m::Rs)) :
 Calls Try.prog 85 #[.pointer (some ⟨b,0,none⟩),.int .i64 x] w fun e w'=>e = .returned (.bool (getB L x)) ∧ Hd W w' (RSto b L m::Rs):=by
 obtain ⟨a,cap,hs⟩:=h.rsto
 have hl:L.length ≤ 1048576:=by have:=hs.ok.m1; have:=hs.ok.len; omega
 have c0:=hs.c0
 have H:=hid h
 clear h hs
 by_cases h1:1 ≤ x
 · by_cases h2:x ≤ L.length
   · have Hg:Hid (getB L x = true):=hid (In.getB ⟨h1,h2⟩)
     have d1:decide (1 ≤ x) = true:=by simpa using h1
     have d2:decide (x ≤ (L.length:Int)) = true:=by simpa using h2
     go_enter Try.func85,Try.ntmps85
     go_wp2_with fail
     go_ret
     rw [Hg.out]
     exact ⟨rfl,H.out⟩
   · have Hg:Hid (getB L x = false):=hid (getT_out (.inr (by omega))).2
     have d1:decide (1 ≤ x) = true:=by simpa using h1
     have d2:decide (x ≤ (L.length:Int)) = false:=by simpa using h2
     go_enter Try.func85,Try.ntmps85
     go_wp2_with fail
     go_ret
     rw [Hg.out]
     exact ⟨rfl,H.out⟩
 · have Hg:Hid (getB L x = false):=hid (getT_out (.inl (by omega))).2
   have d1:decide (1 ≤ x) = false:=by simpa using h1
   go_enter Try.func85,Try.ntmps85
   go_wp2_with fail
   go_ret
   rw [Hg.out]
   exact ⟨rfl,H.out⟩

set_option maxRecDepth 100000 in
set_option maxHeartbeats 4000000 in
theorem ropen_calls {W w:World} {Rs:List Res} {b:Nat} {L:List T} {m:Int} (x n y z:Int) (h:Hd W w (RSto b L m::Rs)) :
 Calls Try.prog 92 #[.pointer (some ⟨b,0,none⟩),.int .i64 x,.int .u64 n,.int .i64 y,.int .i64 z] w fun e w'=>e = .returned (.tuple #[.int .i64 (open5 L x n y z).1,.int .i64 (open5 L x n y z).2]) ∧ Hd W w' (RSto b L m::Rs):=by
 obtain ⟨a0,cap0,hs⟩:=h.rsto
 have hl:L.length ≤ 1048576:=by have:=hs.ok.m1; have:=hs.ok.len; omega
 have Hs:=hid hs
 clear hs
 have H:=hid h
 clear h
 obtain ⟨i1,hq⟩:∃ i1,getB L x = i1:=⟨_,rfl⟩
 have Hi1:=hid hq
 clear hq
 obtain ⟨i2,hq⟩:∃ i2,getB L y = i2:=⟨_,rfl⟩
 have Hi2:=hid hq
 clear hq
 obtain ⟨i3,hq⟩:∃ i3,getB L z = i3:=⟨_,rfl⟩
 have Hi3:=hid hq
 clear hq
 obtain ⟨R,hR⟩:∃ R,open5 L x n y z = R:=⟨_,rfl⟩
 rw [hR]
 have HR:=hid hR
 clear hR
 rcases i1 with _ | _
 · skip
   go_enter Try.func92,Try.ntmps92
   go_wp2_with fail
   refine (rthere_c x (by first | exact H.out | exact H.out.al | exact H.out.al.al | exact H.out.al.al.al | exact H.out.al.al.al.al)).mono ?_
   rw [Hi1.out]
   rintro e w1 ⟨rfl,h1⟩
   replace H:=hid h1
   clear h1
   go_wp2_with fail
   go_ret2
   have hR:=HR.out
   unfold open5 at hR
   simp [Hi1.out] at hR
   subst hR
   exact ⟨rfl,(by first | exact H.out | exact H.out.al | exact H.out.al.al | exact H.out.al.al.al | exact H.out.al.al.al.al)⟩
 rcases i2 with _ | _
 · skip
   go_enter Try.func92,Try.ntmps92
   go_wp2_with fail
   refine (rthere_c x (by first | exact H.out | exact H.out.al | exact H.out.al.al | exact H.out.al.al.al | exact H.out.al.al.al.al)).mono ?_
   rw [Hi1.out]
   rintro e w2 ⟨rfl,h1⟩
   replace H:=hid h1
   clear h1
   go_wp2_with fail
   refine (rthere_c y (by first | exact H.out | exact H.out.al | exact H.out.al.al | exact H.out.al.al.al | exact H.out.al.al.al.al)).mono ?_
   rw [Hi2.out]
   rintro e w3 ⟨rfl,h1⟩
   replace H:=hid h1
   clear h1
   go_wp2_with fail
   go_ret2
   have hR:=HR.out
   unfold open5 at hR
   simp [Hi2.out] at hR
   subst hR
   exact ⟨rfl,(by first | exact H.out | exact H.out.al | exact H.out.al.al | exact H.out.al.al.al | exact H.out.al.al.al.al)⟩
 rcases i3 with _ | _
 · skip
   go_enter Try.func92,Try.ntmps92
   go_wp2_with fail
   refine (rthere_c x (by first | exact H.out | exact H.out.al | exact H.out.al.al | exact H.out.al.al.al | exact H.out.al.al.al.al)).mono ?_
   rw [Hi1.out]
   rintro e w4 ⟨rfl,h1⟩
   replace H:=hid h1
   clear h1
   go_wp2_with fail
   refine (rthere_c y (by first | exact H.out | exact H.out.al | exact H.out.al.al | exact H.out.al.al.al | exact H.out.al.al.al.al)).mono ?_
   rw [Hi2.out]
   rintro e w5 ⟨rfl,h1⟩
   replace H:=hid h1
   clear h1
   go_wp2_with fail
   refine (rthere_c z (by first | exact H.out | exact H.out.al | exact H.out.al.al | exact H.out.al.al.al | exact H.out.al.al.al.al)).mono ?_
   rw [Hi3.out]
   rintro e w6 ⟨rfl,h1⟩
   replace H:=hid h1
   clear h1
   go_wp2_with fail
   go_ret2
   have hR:=HR.out
   unfold open5 at hR
   simp [Hi3.out] at hR
   subst hR
   exact ⟨rfl,(by first | exact H.out | exact H.out.al | exact H.out.al.al | exact H.out.al.al.al | exact H.out.al.al.al.al)⟩
 have hz:1 ≤ z ∧ z ≤ L.length:=Classical.byContradiction fun hh=>by
  have:=(getT_out (L:=L) (x:=z) (by omega)).2
  rw [Hi3.out] at this
  exact Bool.noConfusion this
 obtain ⟨j,hj,rfl⟩:=nat_of_range (x:=z) (n:=L.length) hz.1 hz.2
 obtain ⟨t,ht⟩:∃ t,L[j]? = some t:=⟨L[j]'hj,List.getElem?_eq_getElem _⟩
 have Ht:=hid (getT_in ht).1
 obtain ⟨tk,ts,tn,ta,tb,tc⟩:=t
 have hc:∀ w',Hd W w' (RSto b L m::Rs) → ∃ a cap g,w'.cell? ⟨b,0,none⟩ = some (.slice a L.length cap) ∧ a = some ⟨g,0,none⟩ ∧ ∀ i v,(T.cells ⟨tk,ts,tn,ta,tb,tc⟩)[i]? = some v → w'.cell? ⟨g,j * 6 + i,none⟩ = some v:=fun w' h'=>by
  obtain ⟨a,cap,hs'⟩:=h'.rsto
  obtain ⟨g,hg,_,hcc⟩:=hs'.cl j _ ht
  exact ⟨a,cap,g,hs'.c0,hg,hcc⟩
 have HC:=hid hc
 have hj0:(0:Int) ≤ (j:Int):=by omega
 have hj1:(j:Int) < (L.length:Int):=by omega
 have e1:(j:Int) + 1 - 1 = j:=by omega
 have hne:∀ w,(binOp .neq 114 (.agg #[.int .i64 tk,.string ts,.int .u64 tn,.int .i64 ta,.int .i64 tb,.int .i64 tc]) (.agg #[.int .i64 10,.string ⟨#[]⟩,.int .u64 n,.int .i64 x,.int .i64 y,.int .i64 tc])).run Try.prog w = .ok (.bool (!decide ((⟨tk,ts,tn,ta,tb,tc⟩:T) = seaT x n y tc))) w:=fun w=>rneq_T ⟨tk,ts,tn,ta,tb,tc⟩ (seaT x n y tc) w
 clear hc hz ht
 by_cases hE:(⟨tk,ts,tn,ta,tb,tc⟩:T) = seaT x n y tc
 · rw [decide_eq_true hE] at hne
   have HE:=hid hE
   clear hE
   go_enter Try.func92,Try.ntmps92
   go_wp2_with fail
   refine (rthere_c x (by first | exact H.out | exact H.out.al | exact H.out.al.al | exact H.out.al.al.al | exact H.out.al.al.al.al)).mono ?_
   rw [Hi1.out]
   rintro e w7 ⟨rfl,h1⟩
   replace H:=hid h1
   clear h1
   go_wp2_with fail
   refine (rthere_c y (by first | exact H.out | exact H.out.al | exact H.out.al.al | exact H.out.al.al.al | exact H.out.al.al.al.al)).mono ?_
   rw [Hi2.out]
   rintro e w8 ⟨rfl,h1⟩
   replace H:=hid h1
   clear h1
   go_wp2_with fail
   refine (rthere_c ((j:Int) + 1) (by first | exact H.out | exact H.out.al | exact H.out.al.al | exact H.out.al.al.al | exact H.out.al.al.al.al)).mono ?_
   rw [Hi3.out]
   rintro e w9 ⟨rfl,h1⟩
   obtain ⟨a1,cap1,g,c0,rfl,hcc⟩:=HC.out _ h1
   replace H:=hid h1
   have g0:=hcc 0 _ rfl
   have g1:=hcc 1 _ rfl
   have g2:=hcc 2 _ rfl
   have g3:=hcc 3 _ rfl
   have g4:=hcc 4 _ rfl
   have g5:=hcc 5 _ rfl
   simp only [Nat.add_zero] at g0
   clear h1 hcc
   go_wp2_with fail
   go_ret2
   have hR:=HR.out
   unfold open5 at hR
   rw [if_pos ⟨Hi1.out,Hi2.out,Hi3.out⟩,Ht.out] at hR
   dsimp only at hR
   rw [if_pos HE.out] at hR
   subst hR
   exact ⟨rfl,(by first | exact H.out | exact H.out.al | exact H.out.al.al | exact H.out.al.al.al | exact H.out.al.al.al.al)⟩
 · rw [decide_eq_false hE] at hne
   have HE:=hid hE
   clear hE
   go_enter Try.func92,Try.ntmps92
   go_wp2_with fail
   refine (rthere_c x (by first | exact H.out | exact H.out.al | exact H.out.al.al | exact H.out.al.al.al | exact H.out.al.al.al.al)).mono ?_
   rw [Hi1.out]
   rintro e w10 ⟨rfl,h1⟩
   replace H:=hid h1
   clear h1
   go_wp2_with fail
   refine (rthere_c y (by first | exact H.out | exact H.out.al | exact H.out.al.al | exact H.out.al.al.al | exact H.out.al.al.al.al)).mono ?_
   rw [Hi2.out]
   rintro e w11 ⟨rfl,h1⟩
   replace H:=hid h1
   clear h1
   go_wp2_with fail
   refine (rthere_c ((j:Int) + 1) (by first | exact H.out | exact H.out.al | exact H.out.al.al | exact H.out.al.al.al | exact H.out.al.al.al.al)).mono ?_
   rw [Hi3.out]
   rintro e w12 ⟨rfl,h1⟩
   obtain ⟨a1,cap1,g,c0,rfl,hcc⟩:=HC.out _ h1
   replace H:=hid h1
   have g0:=hcc 0 _ rfl
   have g1:=hcc 1 _ rfl
   have g2:=hcc 2 _ rfl
   have g3:=hcc 3 _ rfl
   have g4:=hcc 4 _ rfl
   have g5:=hcc 5 _ rfl
   simp only [Nat.add_zero] at g0
   clear h1 hcc
   go_wp2_with fail
   go_ret2
   have hR:=HR.out
   unfold open5 at hR
   rw [if_pos ⟨Hi1.out,Hi2.out,Hi3.out⟩,Ht.out] at hR
   dsimp only at hR
   rw [if_neg HE.out] at hR
   subst hR
   exact ⟨rfl,(by first | exact H.out | exact H.out.al | exact H.out.al.al | exact H.out.al.al.al | exact H.out.al.al.al.al)⟩

theorem ropen_c {W w:World} {Rs:List Res} {b:Nat} {L:List T} {m:Int} (x n y z:Int) {p e1:Int} (hq:Hid (open5 L x n y z = (p,e1))) (h:Hd W w (RSto b L m::Rs)) :
 Calls Try.prog 92 #[.pointer (some ⟨b,0,none⟩),.int .i64 x,.int .u64 n,.int .i64 y,.int .i64 z] w fun e w'=>e = .returned (.tuple #[.int .i64 p,.int .i64 e1]) ∧ Hd W w' (RSto b L m::Rs):=by
 have:=ropen_calls x n y z h
 rw [hq.out] at this
 exact this

set_option maxRecDepth 100000 in
set_option maxHeartbeats 4000000 in
theorem rtext_calls {W w:World} {Rs:List Res} {b:Nat} {L:List T} {m:Int} (x n y:Int) (s:ByteArray) (hsz:s.size ≤ maxLen) (h:Hd W w (RSto b L m::Rs)) :
 Calls Try.prog 65 #[.pointer (some ⟨b,0,none⟩),.int .i64 x,.int .u64 n,.int .i64 y,.string s] w fun e w'=>e = .returned (.tuple #[.int .i64 (text5 m L x n y s).1,.int .i64 (text5 m L x n y s).2.1]) ∧ Hd W w' (RSto b (text5 m L x n y s).2.2 m::Rs):=by
 have H:=hid h
 clear h
 obtain ⟨i1,hq⟩:∃ i1,getB L x = i1:=⟨_,rfl⟩
 have Hi1:=hid hq
 clear hq
 obtain ⟨i2,hq⟩:∃ i2,getB L y = i2:=⟨_,rfl⟩
 have Hi2:=hid hq
 clear hq
 obtain ⟨R,hR⟩:∃ R,text5 m L x n y s = R:=⟨_,rfl⟩
 rw [hR]
 have HR:=hid hR
 clear hR
 rcases i1 with _ | _
 · skip
   go_enter Try.func65,Try.ntmps65
   go_wp2_with fail
   refine (rthere_c x (by first | exact H.out | exact H.out.al | exact H.out.al.al | exact H.out.al.al.al | exact H.out.al.al.al.al)).mono ?_
   rw [Hi1.out]
   rintro e w1 ⟨rfl,h1⟩
   replace H:=hid h1
   clear h1
   go_wp2_with fail
   go_ret2
   have hR:=HR.out
   simp [text5,Hi1.out] at hR
   subst hR
   exact ⟨rfl,(by first | exact H.out | exact H.out.al | exact H.out.al.al | exact H.out.al.al.al | exact H.out.al.al.al.al)⟩
 rcases i2 with _ | _
 · skip
   go_enter Try.func65,Try.ntmps65
   go_wp2_with fail
   refine (rthere_c x (by first | exact H.out | exact H.out.al | exact H.out.al.al | exact H.out.al.al.al | exact H.out.al.al.al.al)).mono ?_
   rw [Hi1.out]
   rintro e w2 ⟨rfl,h1⟩
   replace H:=hid h1
   clear h1
   go_wp2_with fail
   refine (rthere_c y (by first | exact H.out | exact H.out.al | exact H.out.al.al | exact H.out.al.al.al | exact H.out.al.al.al.al)).mono ?_
   rw [Hi2.out]
   rintro e w3 ⟨rfl,h1⟩
   replace H:=hid h1
   clear h1
   go_wp2_with fail
   go_ret2
   have hR:=HR.out
   simp [text5,Hi2.out] at hR
   subst hR
   exact ⟨rfl,(by first | exact H.out | exact H.out.al | exact H.out.al.al | exact H.out.al.al.al | exact H.out.al.al.al.al)⟩
 have hsz9:=hsz
 unfold maxLen at hsz9
 by_cases hs:1000 < s.size
 · have d1:decide (1000 < (s.size:Int)) = true:=by simp; omega
   have d1':decide (1000 < s.size) = true:=by simpa using hs
   have hp:put m L (txtT s) = (0,1,L):=put_bad (fun hm=>by have:=hm.2.2.2.1; simp only [txtT] at this; omega)
   have Hp:=hid hp
   clear hp
   go_enter Try.func65,Try.ntmps65
   go_wp2_with fail
   refine (rthere_c x (by first | exact H.out | exact H.out.al | exact H.out.al.al | exact H.out.al.al.al | exact H.out.al.al.al.al)).mono ?_
   rw [Hi1.out]
   rintro e w4 ⟨rfl,h1⟩
   replace H:=hid h1
   clear h1
   go_wp2_with fail
   refine (rthere_c y (by first | exact H.out | exact H.out.al | exact H.out.al.al | exact H.out.al.al.al | exact H.out.al.al.al.al)).mono ?_
   rw [Hi2.out]
   rintro e w5 ⟨rfl,h1⟩
   replace H:=hid h1
   clear h1
   go_wp2_with fail
   go_ret2
   have hR:=HR.out
   simp [text5,Hi1.out,Hi2.out,Hp.out] at hR
   subst hR
   exact ⟨rfl,(by first | exact H.out | exact H.out.al | exact H.out.al.al | exact H.out.al.al.al | exact H.out.al.al.al.al)⟩
 have d1:decide (1000 < (s.size:Int)) = false:=by simp; omega
 have d1':decide (1000 < s.size) = false:=by simpa using hs
 go_enter Try.func65,Try.ntmps65
 go_wp2_with fail
 refine (rthere_c x (by first | exact H.out | exact H.out.al | exact H.out.al.al | exact H.out.al.al.al | exact H.out.al.al.al.al)).mono ?_
 rw [Hi1.out]
 rintro e w6 ⟨rfl,h1⟩
 replace H:=hid h1
 clear h1
 go_wp2_with fail
 refine (rthere_c y (by first | exact H.out | exact H.out.al | exact H.out.al.al | exact H.out.al.al.al | exact H.out.al.al.al.al)).mono ?_
 rw [Hi2.out]
 rintro e w7 ⟨rfl,h1⟩
 replace H:=hid h1
 clear h1
 obtain ⟨r1,r2,L2,hq⟩:∃ r1 r2 L2,put m L (txtT s) = (r1,r2,L2):=⟨_,_,_,rfl⟩
 have Hq1:=hid hq
 clear hq
 go_wp2_with fail
 refine (rput_c 1 s 0 0 0 0 Hq1 (by first | exact H.out | exact H.out.al | exact H.out.al.al | exact H.out.al.al.al | exact H.out.al.al.al.al)).mono ?_
 rintro e w8 ⟨rfl,h1⟩
 replace H:=hid h1
 clear h1
 by_cases hk:r2 = 0
 case neg =>
  have dE10:(r2 != 0) = true:=by simp [hk]
  have E1:=hid hk
  clear hk
  go_wp2_with fail
  go_ret2
  have hR:=HR.out
  simp [text5,Hi1.out,Hi2.out,Hq1.out,E1.out] at hR
  subst hR
  exact ⟨rfl,(by first | exact H.out | exact H.out.al | exact H.out.al.al | exact H.out.al.al.al | exact H.out.al.al.al.al)⟩
 have dE10:(r2 != 0) = false:=by simp [hk]
 have E1:=hid hk
 clear hk
 obtain ⟨s1,s2,L3,hq⟩:∃ s1 s2 L3,put m L2 (seaT x n y r1) = (s1,s2,L3):=⟨_,_,_,rfl⟩
 have Hq2:=hid hq
 clear hq
 go_wp2_with fail
 refine (rseal_c x n y r1 Hq2 (by first | exact H.out | exact H.out.al | exact H.out.al.al | exact H.out.al.al.al | exact H.out.al.al.al.al)).mono ?_
 rintro e w9 ⟨rfl,h1⟩
 replace H:=hid h1
 clear h1
 go_wp2_with fail
 go_ret2
 have hR:=HR.out
 simp [text5,Hi1.out,Hi2.out,Hq1.out,E1.out,Hq2.out] at hR
 subst hR
 exact ⟨rfl,(by first | exact H.out | exact H.out.al | exact H.out.al.al | exact H.out.al.al.al | exact H.out.al.al.al.al)⟩

set_option maxRecDepth 100000 in
set_option maxHeartbeats 4000000 in
theorem rread_calls {W w:World} {Rs:List Res} {b:Nat} {L:List T} {m:Int} (x n y z:Int) (h:Hd W w (RSto b L m::Rs)) :
 Calls Try.prog 73 #[.pointer (some ⟨b,0,none⟩),.int .i64 x,.int .u64 n,.int .i64 y,.int .i64 z] w fun e w'=>e = .returned (.tuple #[.string (read5 L x n y z).1,.int .i64 (read5 L x n y z).2]) ∧ Hd W w' (RSto b L m::Rs):=by
 obtain ⟨a0,cap0,hs⟩:=h.rsto
 have hl:L.length ≤ 1048576:=by have:=hs.ok.m1; have:=hs.ok.len; omega
 have hgd:=hs.ok.good
 have HG:=hid hgd
 clear hs hgd
 have H:=hid h
 clear h
 obtain ⟨p,e1,hq⟩:∃ p e1,open5 L x n y z = (p,e1):=⟨_,_,rfl⟩
 have Hq1:=hid hq
 clear hq
 obtain ⟨R,hR⟩:∃ R,read5 L x n y z = R:=⟨_,rfl⟩
 rw [hR]
 have HR:=hid hR
 clear hR
 by_cases hk:e1 = 0
 case neg =>
  have dE10:(e1 != 0) = true:=by simp [hk]
  have E1:=hid hk
  clear hk
  go_enter Try.func73,Try.ntmps73
  go_wp2_with fail
  refine (ropen_c x n y z Hq1 (by first | exact H.out | exact H.out.al | exact H.out.al.al | exact H.out.al.al.al | exact H.out.al.al.al.al)).mono ?_
  rintro e w1 ⟨rfl,h1⟩
  replace H:=hid h1
  clear h1
  go_wp2_with fail
  go_ret2
  have hR:=HR.out
  simp [read5,Hq1.out,E1.out] at hR
  subst hR
  exact ⟨rfl,(by first | exact H.out | exact H.out.al | exact H.out.al.al | exact H.out.al.al.al | exact H.out.al.al.al.al)⟩
 have dE10:(e1 != 0) = false:=by simp [hk]
 have E1:=hid hk
 clear hk
 obtain ⟨hp1,hp2⟩:=open5_ok HG.out (by rw [Hq1.out,E1.out])
 obtain ⟨j,hj,rfl⟩:=nat_of_range (x:=p) (n:=L.length) hp1 hp2
 obtain ⟨t,ht⟩:∃ t,L[j]? = some t:=⟨L[j]'hj,List.getElem?_eq_getElem _⟩
 have Ht:=hid (getT_in ht).1
 obtain ⟨tk,ts,tn,ta,tb,tc⟩:=t
 have hc:∀ w',Hd W w' (RSto b L m::Rs) → ∃ a cap g,w'.cell? ⟨b,0,none⟩ = some (.slice a L.length cap) ∧ a = some ⟨g,0,none⟩ ∧ ∀ i v,(T.cells ⟨tk,ts,tn,ta,tb,tc⟩)[i]? = some v → w'.cell? ⟨g,j * 6 + i,none⟩ = some v:=fun w' h'=>by
  obtain ⟨a,cap,hs'⟩:=h'.rsto
  obtain ⟨g,hg,_,hcc⟩:=hs'.cl j _ ht
  exact ⟨a,cap,g,hs'.c0,hg,hcc⟩
 have HC:=hid hc
 have hj0:(0:Int) ≤ (j:Int):=by omega
 have hj1:(j:Int) < (L.length:Int):=by omega
 have e1:(j:Int) + 1 - 1 = j:=by omega
 clear hc hp1 hp2 ht
 by_cases hk:tk = 1
 case neg =>
  have dK0:(tk != 1) = true:=by simp [hk]
  have K:=hid hk
  clear hk
  go_enter Try.func73,Try.ntmps73
  go_wp2_with fail
  refine (ropen_c x n y z Hq1 (by first | exact H.out | exact H.out.al | exact H.out.al.al | exact H.out.al.al.al | exact H.out.al.al.al.al)).mono ?_
  rintro e w2 ⟨rfl,h1⟩
  obtain ⟨a1,cap1,g,c0,rfl,hcc⟩:=HC.out _ h1
  replace H:=hid h1
  have g0:=hcc 0 _ rfl
  have g1:=hcc 1 _ rfl
  have g2:=hcc 2 _ rfl
  have g3:=hcc 3 _ rfl
  have g4:=hcc 4 _ rfl
  have g5:=hcc 5 _ rfl
  simp only [Nat.add_zero] at g0
  clear h1 hcc
  go_wp2_with fail
  go_ret2
  have hR:=HR.out
  simp [read5,Hq1.out,E1.out,Ht.out,K.out] at hR
  subst hR
  exact ⟨rfl,(by first | exact H.out | exact H.out.al | exact H.out.al.al | exact H.out.al.al.al | exact H.out.al.al.al.al)⟩
 have dK0:(tk != 1) = false:=by simp [hk]
 have K:=hid hk
 clear hk
 go_enter Try.func73,Try.ntmps73
 go_wp2_with fail
 refine (ropen_c x n y z Hq1 (by first | exact H.out | exact H.out.al | exact H.out.al.al | exact H.out.al.al.al | exact H.out.al.al.al.al)).mono ?_
 rintro e w3 ⟨rfl,h1⟩
 obtain ⟨a1,cap1,g,c0,rfl,hcc⟩:=HC.out _ h1
 replace H:=hid h1
 have g0:=hcc 0 _ rfl
 have g1:=hcc 1 _ rfl
 have g2:=hcc 2 _ rfl
 have g3:=hcc 3 _ rfl
 have g4:=hcc 4 _ rfl
 have g5:=hcc 5 _ rfl
 simp only [Nat.add_zero] at g0
 clear h1 hcc
 go_wp2_with fail
 go_ret2
 have hR:=HR.out
 simp [read5,Hq1.out,E1.out,Ht.out,K.out] at hR
 subst hR
 exact ⟨rfl,(by first | exact H.out | exact H.out.al | exact H.out.al.al | exact H.out.al.al.al | exact H.out.al.al.al.al)⟩

end Go.Proofs.Ytpcfmafokkffgaa
