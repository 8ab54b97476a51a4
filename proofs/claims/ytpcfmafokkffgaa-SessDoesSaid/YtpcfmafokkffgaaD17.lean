/-
  Walks and laws that the proof stands on, one behind another: SessY SessZ SessK SessN SessO SessQ SessV Same ArgsB ArgsC ArgsS Turn. For every input.
-/
import Derived.Test.YtpcfmafokkffgaaD11
import Derived.Test.YtpcfmafokkffgaaD16
import Derived.Test.YtpcfmafokkffgaaD15
import Derived.Test.YtpcfmafokkffgaaD13
import Derived.Laws.BytesString
import Derived.Laws.Cells
import Derived.Test.YtpcfmafokkffgaaD3
import Derived.Test.YtpcfmafokkffgaaD2
import Derived.OpenShut
import Derived.Test.YtpcfmafokkffgaaD1
import Derived.StillTail
namespace Go.Proofs.Ytpcfmafokkffgaa
open Go.RowKit

/-- The program's two sides (x y over L), and the document's (x2 y2 over L2). -/
def Four (W w:World) (b pa pb b' qa qb:Nat) (x y:Se) (L:List T) (x2 y2:Se) (L2:List T) (m:Int) (Rs:List Res):Prop :=
 ∃ a1 c1 a2 c2 a3 c3 a4 c4,Hd W w (Sto b L m::Blk pa (seO b x (.slice a1 x.rc.es.length c1))::CaR (.slice a1 x.rc.es.length c1) x.rc.es::Blk pb (seO b y (.slice a2 y.rc.es.length c2))::CaR (.slice a2 y.rc.es.length c2) y.rc.es ::
  RSto b' L2 m::Blk qa (rsO b' x2 (.slice a3 x2.rc.es.length c3))::CaR (.slice a3 x2.rc.es.length c3) x2.rc.es::Blk qb (rsO b' y2 (.slice a4 y2.rc.es.length c4))::CaR (.slice a4 y2.rc.es.length c4) y2.rc.es::Rs)

section
variable {W w:World} {Rs:List Res} {b pa pb b' qa qb:Nat} {x y x2 y2:Se} {L L2 L3:List T} {m:Int}
theorem Four.below (h:Four W w b pa pb b' qa qb x y L x2 y2 L2 m Rs):Below W.heap.size W w:=by
 obtain ⟨_,_,_,_,_,_,_,_,h⟩:=h
 exact h.below
/-- The other sides first. -/
theorem Four.swap (h:Four W w b pa pb b' qa qb x y L x2 y2 L2 m Rs):Four W w b pb pa b' qb qa y x L y2 x2 L2 m Rs:=by
 obtain ⟨a1,c1,a2,c2,a3,c3,a4,c4,h⟩:=h
 refine ⟨a2,c2,a1,c1,a4,c4,a3,c3,?_⟩
 exact ((((((((((h.front 7 rfl).front 7 rfl).front 9 rfl).front 9 rfl).front 9 rfl).front 7 rfl).front 7 rfl).front 9 rfl).front 9 rfl).front 9 rfl)
/-- The document's first. -/
theorem Four.doc (h:Four W w b pa pb b' qa qb x y L x2 y2 L2 m Rs):∃ a3 c3 Ss,Hd W w (RSto b' L2 m::Blk qa (rsO b' x2 (.slice a3 x2.rc.es.length c3))::CaR (.slice a3 x2.rc.es.length c3) x2.rc.es::Ss) ∧
 ∀ w' x3 L3 a5 c5,Hd W w' (RSto b' L3 m::Blk qa (rsO b' x3 (.slice a5 x3.rc.es.length c5))::CaR (.slice a5 x3.rc.es.length c5) x3.rc.es::Ss) → Four W w' b pa pb b' qa qb x y L x3 y2 L3 m Rs:=by
 obtain ⟨a1,c1,a2,c2,a3,c3,a4,c4,h⟩:=h
 refine ⟨a3,c3,_,((((((((((h.front 9 rfl).front 9 rfl).front 6 rfl).front 6 rfl).front 6 rfl).front 6 rfl).front 6 rfl).front 9 rfl).front 9 rfl).front 9 rfl),fun w' x3 L3 a5 c5 h'=>⟨a1,c1,a2,c2,a5,c5,a4,c4,?_⟩⟩
 exact ((((((((((h'.front 9 rfl).front 9 rfl).front 4 rfl).front 4 rfl).front 4 rfl).front 9 rfl).front 9 rfl).front 9 rfl).front 9 rfl).front 9 rfl)
/-- The program's first. -/
theorem Four.prog (h:Four W w b pa pb b' qa qb x y L x2 y2 L2 m Rs):∃ a1 c1 Ss,Hd W w (Sto b L m::Blk pa (seO b x (.slice a1 x.rc.es.length c1))::CaR (.slice a1 x.rc.es.length c1) x.rc.es::Ss) ∧
 ∀ w' x3 L3 a5 c5,Hd W w' (Sto b L3 m::Blk pa (seO b x3 (.slice a5 x3.rc.es.length c5))::CaR (.slice a5 x3.rc.es.length c5) x3.rc.es::Ss) → Four W w' b pa pb b' qa qb x3 y L3 x2 y2 L2 m Rs:=by
 obtain ⟨a1,c1,a2,c2,a3,c3,a4,c4,h⟩:=h
 exact ⟨a1,c1,_,h,fun w' x3 L3 a5 c5 h'=>⟨a5,c5,a2,c2,a3,c3,a4,c4,h'⟩⟩

theorem seal_p4 {x':Se} {s:ByteArray} {r1 r3 r4 r5:Int} (hx:SeOk x) (hs:s.size ≤ maxLen) (hq:seal19 m L x s = ((r1,r3,r4,r5),x',L3)) (h:Four W w b pa pb b' qa qb x y L x2 y2 L2 m Rs) :
 Calls Try.prog 37 #[.pointer (some ⟨pa,0,none⟩),.string s] w fun e' w'=>e' = .returned (.tuple #[.int .i64 r1,.int .i64 r3,.int .i64 r4,.int .i64 r5]) ∧ Four W w' b pa pb b' qa qb x' y L3 x2 y2 L2 m Rs:=by
 obtain ⟨a1,c1,Ss,h1,h2⟩:=h.prog
 refine (seal19_calls hx hs hq h1).mono fun e' w' h'=>⟨h'.1,h2 _ _ _ a1 c1 ?_⟩
 have hh:=h'.2.2
 rw [h'.2.1]
 exact hh
theorem seal_d4 {x':Se} {s:ByteArray} {r1 r3 r4 r5:Int} (hx:SeOk x2) (hs:s.size ≤ maxLen) (hq:seal19 m L2 x2 s = ((r1,r3,r4,r5),x',L3)) (h:Four W w b pa pb b' qa qb x y L x2 y2 L2 m Rs) :
 Calls Try.prog 38 #[.pointer (some ⟨qa,0,none⟩),.string s] w fun e' w'=>e' = .returned (.tuple #[.int .i64 r1,.int .i64 r3,.int .i64 r4,.int .i64 r5]) ∧ Four W w' b pa pb b' qa qb x y L x' y2 L3 m Rs:=by
 obtain ⟨a3,c3,Ss,h1,h2⟩:=h.doc
 refine (rseal19_calls hx hs hq h1).mono fun e' w' h'=>⟨h'.1,h2 _ _ _ a3 c3 ?_⟩
 have hh:=h'.2.2
 rw [h'.2.1]
 exact hh
theorem step_p4 {x':Se} {er:Int} (hq:step19 m L x = (er,x',L3)) (h:Four W w b pa pb b' qa qb x y L x2 y2 L2 m Rs) :
 Calls Try.prog 39 #[.pointer (some ⟨pa,0,none⟩)] w fun e' w'=>e' = .returned (.int .i64 er) ∧ Four W w' b pa pb b' qa qb x' y L3 x2 y2 L2 m Rs:=by
 obtain ⟨a1,c1,Ss,h1,h2⟩:=h.prog
 refine (step19_calls hq h1).mono fun e' w' h'=>⟨h'.1,h2 _ _ _ a1 c1 ?_⟩
 have hh:=h'.2.2
 rw [h'.2.1]
 exact hh
theorem step_d4 {x':Se} {er:Int} (hq:step19 m L2 x2 = (er,x',L3)) (h:Four W w b pa pb b' qa qb x y L x2 y2 L2 m Rs) :
 Calls Try.prog 40 #[.pointer (some ⟨qa,0,none⟩)] w fun e' w'=>e' = .returned (.int .i64 er) ∧ Four W w' b pa pb b' qa qb x y L x' y2 L3 m Rs:=by
 obtain ⟨a3,c3,Ss,h1,h2⟩:=h.doc
 refine (rstep19_calls hq h1).mono fun e' w' h'=>⟨h'.1,h2 _ _ _ a3 c3 ?_⟩
 have hh:=h'.2.2
 rw [h'.2.1]
 exact hh
theorem open_p4 {x':Se} {e n c er:Int} {s:ByteArray} (hx:SeOk x) (be : -9223372036854775808 ≤ e) (be':e ≤ 9223372036854775807) (bn : -9223372036854775808 ≤ n) (bn':n ≤ 9223372036854775807) (hq:open19 m L x e n c = ((s,er),x',L3)) (h:Four W w b pa pb b' qa qb x y L x2 y2 L2 m Rs) :
 Calls Try.prog 41 #[.pointer (some ⟨pa,0,none⟩),.int .i64 e,.int .i64 n,.int .i64 c] w fun e' w'=>e' = .returned (.tuple #[.string s,.int .i64 er]) ∧ Four W w' b pa pb b' qa qb x' y L3 x2 y2 L2 m Rs:=by
 obtain ⟨a1,c1,Ss,h1,h2⟩:=h.prog
 refine (open19_calls hx be be' bn bn' hq h1).mono fun e' w' h'=>?_
 obtain ⟨ad',cap',h3,h4⟩:=h'
 exact ⟨h3,h2 _ _ _ ad' cap' h4⟩
theorem open_d4 {x':Se} {e n c er:Int} {s:ByteArray} (hx:SeOk x2) (hf:RcFit x2.rc) (be : -9223372036854775808 ≤ e) (be':e ≤ 9223372036854775807) (bn : -9223372036854775808 ≤ n) (bn':n ≤ 9223372036854775807) (hq:open19 m L2 x2 e n c = ((s,er),x',L3)) (h:Four W w b pa pb b' qa qb x y L x2 y2 L2 m Rs) :
 Calls Try.prog 42 #[.pointer (some ⟨qa,0,none⟩),.int .i64 e,.int .i64 n,.int .i64 c] w fun e' w'=>e' = .returned (.tuple #[.string s,.int .i64 er]) ∧ Four W w' b pa pb b' qa qb x y L x' y2 L3 m Rs:=by
 obtain ⟨a3,c3,Ss,h1,h2⟩:=h.doc
 refine (ropen19_calls hx hf be be' bn bn' hq h1).mono fun e' w' h'=>?_
 obtain ⟨ad',cap',h3,h4⟩:=h'
 exact ⟨h3,h2 _ _ _ ad' cap' h4⟩
theorem now_p4 (h:Four W w b pa pb b' qa qb x y L x2 y2 L2 m Rs) :
 Calls Try.prog 43 #[.pointer (some ⟨pa,0,none⟩)] w fun e' w'=>e' = .returned (.tuple #[.int .i64 x.oe,.int .i64 x.sent,.int .i64 x.rc.ie]) ∧ Four W w' b pa pb b' qa qb x y L x2 y2 L2 m Rs:=by
 obtain ⟨a1,c1,Ss,h1,h2⟩:=h.prog
 exact (snow19_calls (h1.front 1 rfl)).mono fun e' w' h'=>⟨h'.1,h2 _ _ _ a1 c1 (h'.2.front 1 rfl)⟩
/-- All four are made. -/
theorem four_of {h9 s9 r9 v9:Int} (h:Hd W w (RSto b' L m::Blk qb (rsO b' (se0 h9 r9 s9 v9) (.slice none 0 0))::Sto b L m::Blk pb (seO b (se0 h9 r9 s9 v9) (.slice none 0 0))::Blk qa (rsO b' (se0 h9 s9 r9 v9) (.slice none 0 0))::Blk pa (seO b (se0 h9 s9 r9 v9) (.slice none 0 0))::Rs)) :
 Four W w b pa pb b' qa qb (se0 h9 s9 r9 v9) (se0 h9 r9 s9 v9) L (se0 h9 s9 r9 v9) (se0 h9 r9 s9 v9) L m Rs:=by
 refine ⟨none,0,none,0,none,0,none,0,?_⟩
 have h2:=h.addCaNil.addCaNil.addCaNil.addCaNil
 exact ((((((((((h2.front 3 rfl).front 5 rfl).front 4 rfl).front 8 rfl).front 6 rfl).front 6 rfl).front 8 rfl).front 7 rfl).front 9 rfl).front 9 rfl)
end
/-- Windows stay so that no digit is ahead of the numbers. -/
theorem rcFit_recv {m:Int} {L:List T} {y:Rc} {e n:Int} (h:RcOk y) (hf:RcFit y) (hn:0 ≤ n) (hn':n ≤ 255):RcFit (recv19 m L y e n).1:=by
 have now:∀ {L:List T} {y:Rc},RcOk y → RcFit y → RcFit (now19 m L y n).1:=fun {L y} h hf=>by
  unfold now19
  split
  · exact ⟨wFit_take h.w hf.w hn hn',hf.ws⟩
  · exact hf
 have puts:∀ (ks:List Int) {es:List En} {e x y:Int},WFit x y → Rises es → es.length ≤ 4 → (∀ z ∈ es,WFit z.nx z.bt) → ∀ z ∈ puts19 es e x y ks,WFit z.nx z.bt:=by
  intro ks
  induction ks with
  | nil=>exact fun _ _ _ hw=>hw
  | cons k ks ih =>
   intro es e x y hxy hr h4 hw
   refine ih wFit_zero (kPut_rises hr h4 _) (kPut_length hr h4 _) fun z hz=>?_
   rcases mem_kPut hr h4 hz with rfl | hz
   · exact hxy
   · exact hw z hz
 unfold recv19
 split
 · exact now h hf
 · split
   · unfold later19
     split
     · rename_i h0
       obtain ⟨k1,k2,k3,_⟩:=to15_epoch rfl h0 h.lo h.hi
       obtain ⟨p1,p2,p3⟩:=puts19_ok (to15 m L y.ik y.ie e).2.1 (e:=y.ie) h.w h.rises h.len h.ws
       exact now ⟨wIn_zero,p3,p1,p2,by rw [k1]; exact k2,by rw [k1]; exact k3⟩ ⟨wFit_zero,puts _ hf.w h.rises h.len hf.ws⟩
     · exact hf
   · unfold ago19
     split
     · rename_i hg
       split
       · refine ⟨hf.w,fun z hz=>?_⟩
         rcases mem_kPut h.rises h.len hz with rfl | hz
         · exact wFit_take (h.ws _ (kGet_mem hg).1) (hf.ws _ (kGet_mem hg).1) hn hn'
         · exact hf.ws z hz
       · exact hf
     · exact hf
theorem rcFit_open {m:Int} {L:List T} {x:Se} {e n c:Int} (h:SeOk x) (hf:RcFit x.rc):RcFit (open19 m L x e n c).2.1.rc:=by
 unfold open19
 split
 · rename_i hc
   split
   · split
     · exact rcFit_recv h.rc hf hc.2.2.1 (by omega)
     · exact hf
   · exact hf
 · exact hf
end Go.Proofs.Ytpcfmafokkffgaa
namespace Go.Proofs.Ytpcfmafokkffgaa
open Go.RowKit

section
variable {w:World} {b p:Nat}
set_option maxRecDepth 100000 in
set_option maxHeartbeats 8000000 in
theorem skeys19_row {x:Se} {ad:Option Addr} {cap:Nat} (h4:x.rc.es.length ≤ 4) (hp:w.heap[p]? = some (seO b x (.slice ad x.rc.es.length cap))) (hc:CaAt w (.slice ad x.rc.es.length cap) x.rc.es) :
 Calls Try.prog 44 #[.pointer (some ⟨p,0,none⟩)] w fun e' w'=>∃ a2 c2,e' = .returned (.slice a2 (2 + (kKeys x.rc.es).length) c2) ∧ Hd w w' [RowR 3 1 (.slice a2 (2 + (kKeys x.rc.es).length) c2) (2 + (kKeys x.rc.es).length) (nums .i64 ([x.ok,x.rc.ik] ++ kKeys x.rc.es))]:=by
 have mixed:Try.prog.follows .mixedOrders = true:=by kernel_rfl
 obtain ⟨ok,oe,sent,⟨ik,ie,nx,bt,es⟩,xh,xs,xr,xv⟩:=x
 dsimp only at h4 hc
 have hp1:w.heap[p]? = some (.cells #[.int .i64 ok,.int .i64 oe,.int .i64 sent,.int .i64 ik,.int .i64 ie,.int .u64 nx,.int .u64 bt,.slice ad es.length cap,.pointer (some ⟨b,0,none⟩),.int .i64 xh,.int .i64 xs,.int .i64 xr,.int .i64 xv] 148 (0,0)):=hp
 have k0:=(cell_of_heap hp1 0).trans (show _ = some (.int .i64 ok) from rfl)
 have k1:=(cell_of_heap hp1 3).trans (show _ = some (.int .i64 ik) from rfl)
 have k2:=(cell_of_heap hp1 7).trans (show _ = some (.slice ad es.length cap) from rfl)
 have HC:=hid hc
 have H:=hid (Hd.refl w)
 have hk4:(kKeys es).length ≤ 4:=by simpa [kKeys] using h4
 have he4:es.length ≤ 4:=h4
 obtain ⟨i0,hi0,hz0,hs0,hy0⟩:=info_int
 clear hp hc hp1 h4
 go_enter Try.func44,Try.ntmps44
 go_wp2_with fail
 have cf76:∀ args w,(callFunc 76 args).run Try.prog w = .ok (.enter 76 args) w:=fun args w=>by kernel_rfl
 refine hold_coreB (P:=Try.prog) (W:=w) (Rs:=(([]:List Res))) [[],[0],[1],[2],[3],[4],[],[6],[7],[8],[9],[10],[5,11],[],[13],[14],[15],[16],[17],[12,18],[19]] [[],[],[],[],[],[],[],[],[],[],[],[],[12],[],[],[],[],[],[18],[19],[19]] ([some 3,some 4,some 5,some 6,some 7,some 8,some 9,some 10,some 11,some 12,some 13,some 14,some 15,some 16,some 17,some 18,some 19,some 20,some 21,some 22,some 2]:List (Option Nat)) ([none,none,none,none,none,none,none,none,none,none,none,none,some 19,none,none,none,none,none,none,none,none]:List (Option Nat)) ((fun _=>pt p 0)::(fun _=>pt p 0)::(fun _=>pt p 0)::(fun _=>pt p 0)::(fun _=>pt p 0)::(fun _=>.int .i64 ok)::(fun _=>pt p 0)::(fun _=>pt p 0)::(fun _=>pt p 3)::(fun _=>pt p 3)::(fun _=>pt p 3)::(fun _=>.int .i64 ik)::(fun gs=>.slice (some ⟨(gs.getD 0 default).2,0,none⟩) 2 2)::(fun _=>pt p 0)::(fun _=>pt p 0)::(fun _=>pt p 3)::(fun _=>pt p 7)::(fun _=>.agg #[.slice ad es.length cap])::(fun gs=>.slice (gs.getD 0 default).1 (kKeys es).length (gs.getD 0 default).2)::(fun gs=>.slice (gs.getD 0 default).1 (2 + (kKeys es).length) (gs.getD 0 default).2)::(fun gs=>.slice (gs.getD 0 default).1 (2 + (kKeys es).length) (gs.getD 0 default).2)::[]) (zR::zR::zR::zR::zR::zR::zR::zR::zR::zR::zR::zR::(fun gs=>[RowR 3 1 (.slice (some ⟨(gs.getD 0 default).2,0,none⟩) 2 2) 2 (nums .i64 [ok,ik])])::zR::zR::zR::zR::zR::(fun gs=>[RowR 3 1 (.slice (gs.getD 0 default).1 (kKeys es).length (gs.getD 0 default).2) (kKeys es).length (nums .i64 (kKeys es))])::zR::zR::([]:List (List Gh → List Res))) (zR::zR::zR::zR::zR::zR::zR::zR::zR::zR::zR::zR::(fun gs=>[RowR 3 1 (.slice (gs.getD 0 default).1 (2 + (kKeys es).length) (gs.getD 0 default).2) (2 + (kKeys es).length) (nums .i64 ([ok,ik] ++ kKeys es))])::zR::zR::zR::zR::zR::zR::zR::zR::([]:List (List Gh → List Res))) (by kernel_rfl) rfl (hold_lt (n:=23) (by decide)) H.out rfl (by decide) (hold_nil (fs:=[19]) trivial rfl ?nil1) ?gd1 ?step1 (fun t=>(decide (2 ≤ t) && decide (t ≤ 22))) (by decide) ?done1 (fun I h0 st dn=>run_wpB mixed I h0 st dn)
 case nil1 =>
  intro s gs hs
  simp only [List.mem_cons,List.not_mem_nil,or_false] at hs
  subst hs; rfl
 case gd1 =>
  repeat (refine StepAll.cons (by first | exact trivial | exact fun g=>rfl) ?_)
  exact trivial
 case step1 =>
  refine .cons (pR 0 rfl fun _=>⟨rfl,rfl⟩) ?_
  refine .cons (by first | exact pN 0 3 rfl fun _=>⟨rfl,rfl⟩ | exact pF 0 3 0 rfl rfl (fun b q w=>by simp [go_sem]) fun _=>⟨⟨_,_,rfl,rfl⟩,rfl⟩) ?_
  refine .cons (by first | exact pN 1 4 rfl fun _=>⟨rfl,rfl⟩ | exact pF 1 4 0 rfl rfl (fun b q w=>by simp [go_sem]) fun _=>⟨⟨_,_,rfl,rfl⟩,rfl⟩) ?_
  refine .cons (by first | exact pN 2 5 rfl fun _=>⟨rfl,rfl⟩ | exact pF 2 5 0 rfl rfl (fun b q w=>by simp [go_sem]) fun _=>⟨⟨_,_,rfl,rfl⟩,rfl⟩) ?_
  refine .cons (by first | exact pN 3 6 rfl fun _=>⟨rfl,rfl⟩ | exact pF 3 6 0 rfl rfl (fun b q w=>by simp [go_sem]) fun _=>⟨⟨_,_,rfl,rfl⟩,rfl⟩) ?_
  refine StepAll.cons ?_ ?_
  · refine HoldStepB.val (by decide) fun a wx γ hn hr hres hpre Ss hH K hK=>?_
    have e7:a.eval (.tmp 7) = .pointer (some ⟨p,0,none⟩):=hn 4 (by decide) 7 rfl
    have c0:=(hH.below.cell (p:=⟨p,0,none⟩) (World.block_lt_of_cell? w _ k0)).trans k0
    exact hold_run (v:=.int .i64 ok) (by clear hn hr hK; generalize a.eval = ρ at *; simp [execOp,e7,c0,go_sem]) rfl rfl hH hK
  refine .cons (pR 0 rfl fun _=>⟨rfl,rfl⟩) ?_
  refine .cons (by first | exact pN 6 9 rfl fun _=>⟨rfl,rfl⟩ | exact pF 6 9 0 rfl rfl (fun b q w=>by simp [go_sem]) fun _=>⟨⟨_,_,rfl,rfl⟩,rfl⟩) ?_
  refine .cons (pF 7 10 3 rfl rfl (fun b q w=>by simp [go_sem]) fun _=>⟨⟨_,_,rfl,rfl⟩,rfl⟩) ?_
  refine .cons (by first | exact pN 8 11 rfl fun _=>⟨rfl,rfl⟩ | exact pF 8 11 0 rfl rfl (fun b q w=>by simp [go_sem]) fun _=>⟨⟨_,_,rfl,rfl⟩,rfl⟩) ?_
  refine .cons (by first | exact pN 9 12 rfl fun _=>⟨rfl,rfl⟩ | exact pF 9 12 0 rfl rfl (fun b q w=>by simp [go_sem]) fun _=>⟨⟨_,_,rfl,rfl⟩,rfl⟩) ?_
  refine StepAll.cons ?_ ?_
  · refine HoldStepB.val (by decide) fun a wx γ hn hr hres hpre Ss hH K hK=>?_
    have e13:a.eval (.tmp 13) = .pointer (some ⟨p,3,none⟩):=hn 10 (by decide) 13 rfl
    have c0:=(hH.below.cell (p:=⟨p,3,none⟩) (World.block_lt_of_cell? w _ k1)).trans k1
    exact hold_run (v:=.int .i64 ik) (by clear hn hr hK; generalize a.eval = ρ at *; simp [execOp,e13,c0,go_sem]) rfl rfl hH hK
  refine StepAll.cons ?_ ?_
  · refine HoldStepB.val (by decide) fun a wx γ hn hr hres hpre Ss hH K hK=>?_
    have e8:a.eval (.tmp 8) = .int .i64 ok:=hn 5 (by decide) 8 rfl
    have e14:a.eval (.tmp 14) = .int .i64 ik:=hn 11 (by decide) 14 rfl
    exact hold_litB [ok,ik] (by clear hn hr hK; generalize a.eval = ρ at *; simp [execOp,e8,e14,go_sem]; rfl) rfl rfl (show 2 ≤ maxLen by decide) rfl rfl hH hK
  refine .cons (pR 0 rfl fun _=>⟨rfl,rfl⟩) ?_
  refine .cons (by first | exact pN 13 16 rfl fun _=>⟨rfl,rfl⟩ | exact pF 13 16 0 rfl rfl (fun b q w=>by simp [go_sem]) fun _=>⟨⟨_,_,rfl,rfl⟩,rfl⟩) ?_
  refine .cons (pF 14 17 3 rfl rfl (fun b q w=>by simp [go_sem]) fun _=>⟨⟨_,_,rfl,rfl⟩,rfl⟩) ?_
  refine .cons (pF 15 18 4 rfl rfl (fun b q w=>by simp [go_sem]) fun _=>⟨⟨_,_,rfl,rfl⟩,rfl⟩) ?_
  refine StepAll.cons ?_ ?_
  · refine HoldStepB.val (by decide) fun a wx γ hn hr hres hpre Ss hH K hK=>?_
    have e19:a.eval (.tmp 19) = .pointer (some ⟨p,7,none⟩):=hn 16 (by decide) 19 rfl
    have c0:=(hH.below.cell (p:=⟨p,7,none⟩) (World.block_lt_of_cell? w _ k2)).trans k2
    exact hold_run (v:=.agg #[.slice ad es.length cap]) (by clear hn hr hK; generalize a.eval = ρ at *; simp [execOp,e19,c0,go_sem]) rfl rfl hH hK
  refine StepAll.cons ?_ ?_
  · refine HoldStepB.val (by decide) fun a wx γ hn hr hres hpre Ss hH K hK=>?_
    have e20:a.eval (.tmp 20) = .agg #[.slice ad es.length cap]:=hn 17 (by decide) 20 rfl
    have ef:a.eval (.func 76) = .func (.func 76) #[] #[]:=rfl
    refine hold_call (f:=76) (args:=#[.agg #[.slice ad es.length cap]]) (by clear hn hr hK hH; generalize a.eval = ρ at *; simp [execOp,e20,cf76,ef,go_sem]) ?_ hH hK
    refine (keys_row (HC.out.later hH.below) (by omega)).mono fun e2 w2 h=>?_
    obtain ⟨a2,c2,rfl,h2⟩:=h
    exact ⟨(a2,c2),rfl,fun Xs hX=>hX.join h2⟩
  refine StepAll.cons ?_ ?_
  · refine HoldStepB.fil 12 (by decide) fun a wx γ hn hr hres hpre Ss hH K hK=>?_
    have e15:a.eval (.tmp 15) = .slice (some ⟨(γ 12).2,0,none⟩) 2 2:=hn 12 (by decide) 15 rfl
    have e21:a.eval (.tmp 21) = .slice (γ 18).1 (kKeys es).length (γ 18).2:=hn 18 (by decide) 21 rfl
    obtain ⟨Zs,hB⟩:=hres 18 (by decide) rfl
    obtain ⟨aa,ca,ea,ia⟩:=row_ints (ks:=kKeys es) (show Hd w wx (RowR 3 1 (.slice (γ 18).1 (kKeys es).length (γ 18).2) (kKeys es).length (nums .i64 (kKeys es))::Zs) from hB)
    simp only [Value.slice.injEq,true_and] at ea
    obtain ⟨ea1,ea2⟩:=ea
    rw [← ea1] at ia
    exact hold_appsB (b:=12) (zs:=[ok,ik]) (ys:=kKeys es) Try.underlying33 hi0 hz0 hs0 hy0 (by decide) (.tmp 15) (.tmp 21) rfl hH e15 (Nat.le_refl _) e21 ia (by omega) (fun y=>rfl) (fun y=>rfl) hK
  refine .cons (pN 19 22 rfl fun _=>⟨rfl,rfl⟩) ?_
  exact trivial
 case done1 =>
  intro f w9 g9 hv h9
  have er2:f 2 = .slice (g9 19).1 (2 + (kKeys es).length) (g9 19).2:=hv 20 2 rfl
  have hd:Hd w w9 (RowR 3 1 (.slice (g9 19).1 (2 + (kKeys es).length) (g9 19).2) (2 + (kKeys es).length) (nums .i64 ([ok,ik] ++ kKeys es))::RowR 3 1 (.slice (g9 18).1 (kKeys es).length (g9 18).2) (kKeys es).length (nums .i64 (kKeys es))::([]:List Res)):=h9
  obtain ⟨⟨a3,c3⟩,hG18⟩:∃ x,g9 18 = x:=⟨_,rfl⟩
  obtain ⟨⟨a2,c2⟩,hG19⟩:∃ x,g9 19 = x:=⟨_,rfl⟩
  simp only [hG18,hG19] at hd er2
  clear hv h9 hG18 hG19 cf76
  clear g9
  simp only [patchG,Nat.reduceAdd,Nat.reduceLeDiff,decide_true,decide_false,Bool.and_true,cond_true,cond_false,er2]
  clear er2
  clear H
  have H:=hid hd
  clear hd
  go_wp2_with fail
  go_ret
  exact ⟨a2,c2,rfl,H.out.un2⟩
set_option maxRecDepth 100000 in
set_option maxHeartbeats 8000000 in
theorem rskeys19_row {x:Se} {ad:Option Addr} {cap:Nat} (h4:x.rc.es.length ≤ 4) (hp:w.heap[p]? = some (rsO b x (.slice ad x.rc.es.length cap))) (hc:LaAt w (.slice ad x.rc.es.length cap) x.rc.es) :
 Calls Try.prog 45 #[.pointer (some ⟨p,0,none⟩)] w fun e' w'=>∃ a2 c2,e' = .returned (.slice a2 (2 + (kKeys x.rc.es).length) c2) ∧ Hd w w' [RowR 3 1 (.slice a2 (2 + (kKeys x.rc.es).length) c2) (2 + (kKeys x.rc.es).length) (nums .i64 ([x.ok,x.rc.ik] ++ kKeys x.rc.es))]:=by
 have mixed:Try.prog.follows .mixedOrders = true:=by kernel_rfl
 obtain ⟨ok,oe,sent,⟨ik,ie,nx,bt,es⟩,xh,xs,xr,xv⟩:=x
 dsimp only at h4 hc
 have hp1:w.heap[p]? = some (.cells #[.pointer (some ⟨b,0,none⟩),.int .i64 xh,.int .i64 xs,.int .i64 xr,.int .i64 xv,.int .i64 ok,.int .i64 oe,.int .i64 sent,.int .i64 ik,.int .i64 ie,.int .u64 nx,.int .u64 bt,.slice ad es.length cap] 94 (0,0)):=hp
 have k0:=(cell_of_heap hp1 5).trans (show _ = some (.int .i64 ok) from rfl)
 have k1:=(cell_of_heap hp1 8).trans (show _ = some (.int .i64 ik) from rfl)
 have k2:=(cell_of_heap hp1 12).trans (show _ = some (.slice ad es.length cap) from rfl)
 have HC:=hid hc
 have H:=hid (Hd.refl w)
 have hk4:(kKeys es).length ≤ 4:=by simpa [kKeys] using h4
 have he4:es.length ≤ 4:=h4
 obtain ⟨i0,hi0,hz0,hs0,hy0⟩:=info_int
 clear hp hc hp1 h4
 go_enter Try.func45,Try.ntmps45
 go_wp2_with fail
 refine hold_coreB (P:=Try.prog) (W:=w) (Rs:=(([]:List Res))) [[],[0],[1],[2],[3],[],[5],[6],[7],[8],[4,9],[10]] [[],[],[],[],[],[],[],[],[],[],[10],[10]] ([some 4,some 5,some 6,some 7,some 8,some 9,some 10,some 11,some 12,some 13,some 14,some 3]:List (Option Nat)) ([none,none,none,none,none,none,none,none,none,none,none,none]:List (Option Nat)) ((fun _=>pt p 0)::(fun _=>pt p 0)::(fun _=>pt p 5)::(fun _=>pt p 5)::(fun _=>.int .i64 ok)::(fun _=>pt p 0)::(fun _=>pt p 0)::(fun _=>pt p 8)::(fun _=>pt p 8)::(fun _=>.int .i64 ik)::(fun gs=>.slice (some ⟨(gs.getD 0 default).2,0,none⟩) 2 2)::(fun gs=>.slice (some ⟨(gs.getD 0 default).2,0,none⟩) 2 2)::[]) (zR::zR::zR::zR::zR::zR::zR::zR::zR::zR::(fun gs=>[RowR 3 1 (.slice (some ⟨(gs.getD 0 default).2,0,none⟩) 2 2) 2 (nums .i64 [ok,ik])])::zR::([]:List (List Gh → List Res))) (zR::zR::zR::zR::zR::zR::zR::zR::zR::zR::zR::zR::([]:List (List Gh → List Res))) (by kernel_rfl) rfl (hold_lt (n:=23) (by decide)) H.out rfl (by decide) (hold_nil (fs:=[]) trivial rfl ?nil2) ?gd2 ?step2 (fun t=>(decide (3 ≤ t) && decide (t ≤ 14))) (by decide) ?done2 (fun I h0 st dn=>run_wpB mixed I h0 st dn)
 case nil2 =>
  intro s gs hs
  cases hs
 case gd2 =>
  repeat (refine StepAll.cons (by first | exact trivial | exact fun g=>rfl) ?_)
  exact trivial
 case step2 =>
  refine .cons (pR 0 rfl fun _=>⟨rfl,rfl⟩) ?_
  refine .cons (by first | exact pN 0 4 rfl fun _=>⟨rfl,rfl⟩ | exact pF 0 4 0 rfl rfl (fun b q w=>by simp [go_sem]) fun _=>⟨⟨_,_,rfl,rfl⟩,rfl⟩) ?_
  refine .cons (pF 1 5 5 rfl rfl (fun b q w=>by simp [go_sem]) fun _=>⟨⟨_,_,rfl,rfl⟩,rfl⟩) ?_
  refine .cons (by first | exact pN 2 6 rfl fun _=>⟨rfl,rfl⟩ | exact pF 2 6 0 rfl rfl (fun b q w=>by simp [go_sem]) fun _=>⟨⟨_,_,rfl,rfl⟩,rfl⟩) ?_
  refine StepAll.cons ?_ ?_
  · refine HoldStepB.val (by decide) fun a wx γ hn hr hres hpre Ss hH K hK=>?_
    have e7:a.eval (.tmp 7) = .pointer (some ⟨p,5,none⟩):=hn 3 (by decide) 7 rfl
    have c0:=(hH.below.cell (p:=⟨p,5,none⟩) (World.block_lt_of_cell? w _ k0)).trans k0
    exact hold_run (v:=.int .i64 ok) (by clear hn hr hK; generalize a.eval = ρ at *; simp [execOp,e7,c0,go_sem]) rfl rfl hH hK
  refine .cons (pR 0 rfl fun _=>⟨rfl,rfl⟩) ?_
  refine .cons (by first | exact pN 5 9 rfl fun _=>⟨rfl,rfl⟩ | exact pF 5 9 0 rfl rfl (fun b q w=>by simp [go_sem]) fun _=>⟨⟨_,_,rfl,rfl⟩,rfl⟩) ?_
  refine .cons (pF 6 10 8 rfl rfl (fun b q w=>by simp [go_sem]) fun _=>⟨⟨_,_,rfl,rfl⟩,rfl⟩) ?_
  refine .cons (by first | exact pN 7 11 rfl fun _=>⟨rfl,rfl⟩ | exact pF 7 11 0 rfl rfl (fun b q w=>by simp [go_sem]) fun _=>⟨⟨_,_,rfl,rfl⟩,rfl⟩) ?_
  refine StepAll.cons ?_ ?_
  · refine HoldStepB.val (by decide) fun a wx γ hn hr hres hpre Ss hH K hK=>?_
    have e12:a.eval (.tmp 12) = .pointer (some ⟨p,8,none⟩):=hn 8 (by decide) 12 rfl
    have c0:=(hH.below.cell (p:=⟨p,8,none⟩) (World.block_lt_of_cell? w _ k1)).trans k1
    exact hold_run (v:=.int .i64 ik) (by clear hn hr hK; generalize a.eval = ρ at *; simp [execOp,e12,c0,go_sem]) rfl rfl hH hK
  refine StepAll.cons ?_ ?_
  · refine HoldStepB.val (by decide) fun a wx γ hn hr hres hpre Ss hH K hK=>?_
    have e8:a.eval (.tmp 8) = .int .i64 ok:=hn 4 (by decide) 8 rfl
    have e13:a.eval (.tmp 13) = .int .i64 ik:=hn 9 (by decide) 13 rfl
    exact hold_litB [ok,ik] (by clear hn hr hK; generalize a.eval = ρ at *; simp [execOp,e8,e13,go_sem]; rfl) rfl rfl (show 2 ≤ maxLen by decide) rfl rfl hH hK
  refine .cons (pN 10 14 rfl fun _=>⟨rfl,rfl⟩) ?_
  exact trivial
 case done2 =>
  intro f w9 g9 hv h9
  have er3:f 3 = .slice (some ⟨(g9 10).2,0,none⟩) 2 2:=hv 11 3 rfl
  have hd:Hd w w9 (RowR 3 1 (.slice (some ⟨(g9 10).2,0,none⟩) 2 2) 2 (nums .i64 [ok,ik])::([]:List Res)):=h9
  obtain ⟨⟨_,g3⟩,hG10⟩:∃ x,g9 10 = x:=⟨_,rfl⟩
  simp only [hG10] at hd er3
  clear hv h9 hG10 
  clear g9
  simp only [patchG,Nat.reduceAdd,Nat.reduceLeDiff,decide_true,decide_false,Bool.and_true,Bool.and_false,cond_true,cond_false,er3]
  clear er3
  clear H
  have H:=hid hd
  clear hd
  have c12:=(H.out.below.cell (p:=⟨p,12,none⟩) (World.block_lt_of_cell? w _ k2)).trans k2
  go_wp2_with fail
  refine (rkeys16_is (by omega) (HC.out.later H.out.below) H.out).mono ?_
  rintro e w2 ⟨a5,cq5,rfl,hi5,_,h5⟩
  clear H c12
  have H:=hid h5
  have HI:=hid hi5
  clear h5 hi5
  go_wp2_with (at_builtin; refine append_at (zs:=[ok,ik]) (ys:=kKeys es) rfl Try.underlying33 hi0 hz0 hs0 hy0 (by decide) (.tmp 15) (.tmp 20) rfl H.out (by rfl) (Nat.le_refl _) (by rfl) HI.out (by omega) ?_; intro g6 c6 w6 h6; have H6:=hid h6; clear h6)
  go_ret
  exact ⟨_,_,rfl,H6.out⟩
end
end Go.Proofs.Ytpcfmafokkffgaa
namespace Go.Proofs.Ytpcfmafokkffgaa
open Go.RowKit

def k1:=seal19 20000 pl3 (se0 1 2 3 1) ⟨#[111,110,101]⟩
def k2:=step19 20000 k1.2.2 k1.2.1
def k3:=seal19 20000 k2.2.2 k2.2.1 ⟨#[116,119,111]⟩
def k4:=open19 20000 k3.2.2 (se0 1 3 2 1) 1 0 10
def k5:=open19 20000 k4.2.2 k4.2.1 0 0 6
def k6:=open19 20000 k5.2.2 k5.2.1 0 0 6
def k7:=open19 20000 k6.2.2 k6.2.1 1 0 10
def k8:=open19 20000 k7.2.2 k3.2.1 1 0 10
def k9:=open19 20000 k8.2.2 k7.2.1 9 0 10
def k10:=open19 20000 k9.2.2 k9.2.1 (-1) 0 10

theorem field_x (h s r v:Int) (w:World):(Instr.field 72 (.agg #[.int .i64 h,.int .i64 s,.int .i64 r,.int .i64 v]) 0).run Try.prog w = .ok (.int .i64 h) w:=by
 obtain ⟨i0,hi0,hz0,hs0,hy0⟩:=info_int
 simp [Instr.field,run_underlying Try.underlying72,asAgg,sizeOf,typeInfo,hi0,hs0,part,go_sem]
theorem new19_no {W w:World} {Rs:List Res} {b:Nat} {L:List T} {m h s r v:Int} (hy:¬ (getB L h = true ∧ getB L s = true ∧ getB L r = true)) (hd:Hd W w (Sto b L m::Rs)) :
 Calls Try.prog 34 #[.pointer (some ⟨b,0,none⟩),.agg #[.int .i64 h,.int .i64 s,.int .i64 r,.int .i64 v]] w fun e' w'=>e' = .returned (.tuple #[.pointer none,.int .i64 1]) ∧ Hd W w' (Sto b L m::Rs) :=
 (new19_calls h s r v hd).mono fun e w' hh=>by
  split at hh
  · exact absurd ‹_› hy
  · exact hh

set_option maxRecDepth 100000 in
set_option maxHeartbeats 16000000 in
theorem fixed19_calls (w:World):Calls Try.prog 47 #[] w fun e w'=>e = .returned (.bool true) ∧ Below w.heap.size w w':=by
 have o1:SeOk k1.2.1:=seal19_ok (se0_ok 1 2 3 1)
 have o2:SeOk k2.2.1:=step19_ok o1
 have o3:SeOk k3.2.1:=seal19_ok o2
 have o4:SeOk k4.2.1:=open19_ok (se0_ok 1 3 2 1)
 have o5:SeOk k5.2.1:=open19_ok o4
 have o6:SeOk k6.2.1:=open19_ok o5
 have o7:SeOk k7.2.1:=open19_ok o6
 have o8:SeOk k8.2.1:=open19_ok o3
 have o9:SeOk k9.2.1:=open19_ok o7
 have o10:SeOk k10.2.1:=open19_ok o9
 have O1:=hid o1; have O2:=hid o2; have O3:=hid o3; have O4:=hid o4; have O5:=hid o5; have O6:=hid o6; have O7:=hid o7; have O8:=hid o8; have O9:=hid o9; have O10:=hid o10
 clear o1 o2 o3 o4 o5 o6 o7 o8 o9 o10
 go_enter Try.func47,Try.ntmps47
 go_wp2_with fail
 refine (pair_two (W:=w)).mono ?_
 rintro e w1 ⟨b,pa,pb,rfl,h1⟩
 have T:=hid h1
 clear h1
 go_wp2_with fail
 refine (seal_two (x':=k1.2.1) (L2:=k1.2.2) (se0_ok 1 2 3 1) (by decide) (Prod.ext (show _ = ((0:Int),(0:Int),(6:Int),(0:Int)) from by decide +kernel) rfl) T.out).mono ?_
 rintro e w2 ⟨rfl,h1⟩
 clear T
 have T:=hid h1
 clear h1
 go_wp2_with fail
 refine (step_two (x':=k2.2.1) (L2:=k2.2.2) (Prod.ext (show _ = (0:Int) from by decide +kernel) rfl) T.out).mono ?_
 rintro e w2 ⟨rfl,h1⟩
 clear T
 have T:=hid h1
 clear h1
 go_wp2_with fail
 refine (seal_two (x':=k3.2.1) (L2:=k3.2.2) O2.out (by decide) (Prod.ext (show _ = ((1:Int),(0:Int),(10:Int),(0:Int)) from by decide +kernel) rfl) T.out).mono ?_
 rintro e w2 ⟨rfl,h1⟩
 clear T
 have T:=hid h1
 clear h1
 replace T:=hid T.out.swap
 go_wp2_with fail
 refine (open_two (x':=k4.2.1) (L2:=k4.2.2) (se0_ok 1 3 2 1) (by decide) (by decide) (by decide) (by decide) (Prod.ext (show _ = ((⟨#[116,119,111]⟩:ByteArray),(0:Int)) from by decide +kernel) rfl) T.out).mono ?_
 rintro e w2 ⟨rfl,h1⟩
 clear T
 have T:=hid h1
 clear h1
 go_wp2_with fail
 refine (open_two (x':=k5.2.1) (L2:=k5.2.2) O4.out (by decide) (by decide) (by decide) (by decide) (Prod.ext (show _ = ((⟨#[111,110,101]⟩:ByteArray),(0:Int)) from by decide +kernel) rfl) T.out).mono ?_
 rintro e w2 ⟨rfl,h1⟩
 clear T
 have T:=hid h1
 clear h1
 go_wp2_with fail
 refine (open_two (x':=k6.2.1) (L2:=k6.2.2) O5.out (by decide) (by decide) (by decide) (by decide) (Prod.ext (show _ = ((⟨#[]⟩:ByteArray),(12:Int)) from by decide +kernel) rfl) T.out).mono ?_
 rintro e w2 ⟨rfl,h1⟩
 clear T
 have T:=hid h1
 clear h1
 go_wp2_with fail
 refine (open_two (x':=k7.2.1) (L2:=k7.2.2) O6.out (by decide) (by decide) (by decide) (by decide) (Prod.ext (show _ = ((⟨#[]⟩:ByteArray),(12:Int)) from by decide +kernel) rfl) T.out).mono ?_
 rintro e w2 ⟨rfl,h1⟩
 clear T
 have T:=hid h1
 clear h1
 replace T:=hid T.out.swap
 go_wp2_with fail
 refine (open_two (x':=k8.2.1) (L2:=k8.2.2) O3.out (by decide) (by decide) (by decide) (by decide) (Prod.ext (show _ = ((⟨#[]⟩:ByteArray),(9:Int)) from by decide +kernel) rfl) T.out).mono ?_
 rintro e w2 ⟨rfl,h1⟩
 clear T
 have T:=hid h1
 clear h1
 replace T:=hid T.out.swap
 go_wp2_with fail
 refine (open_two (x':=k9.2.1) (L2:=k9.2.2) O7.out (by decide) (by decide) (by decide) (by decide) (Prod.ext (show _ = ((⟨#[]⟩:ByteArray),(13:Int)) from by decide +kernel) rfl) T.out).mono ?_
 rintro e w2 ⟨rfl,h1⟩
 clear T
 have T:=hid h1
 clear h1
 go_wp2_with fail
 refine (open_two (x':=k10.2.1) (L2:=k10.2.2) O9.out (by decide) (by decide) (by decide) (by decide) (Prod.ext (show _ = ((⟨#[]⟩:ByteArray),(1:Int)) from by decide +kernel) rfl) T.out).mono ?_
 rintro e w2 ⟨rfl,h1⟩
 clear T
 have T:=hid h1
 clear h1
 replace T:=hid T.out.swap
 have n1:k8.2.1.oe = 1:=by decide +kernel
 have n2:k8.2.1.sent = 1:=by decide +kernel
 have n3:k8.2.1.rc.ie = 0:=by decide +kernel
 have n4:k10.2.1.oe = 0:=by decide +kernel
 have n5:k10.2.1.sent = 0:=by decide +kernel
 have n6:k10.2.1.rc.ie = 1:=by decide +kernel
 have n7:k8.2.1.h = 1:=by decide +kernel
 have n8:(kKeys k8.2.1.rc.es).length = 0:=by decide +kernel
 have n9:(kKeys k10.2.1.rc.es).length = 1:=by decide +kernel
 have N1:=hid n1; have N2:=hid n2; have N3:=hid n3; have N4:=hid n4; have N5:=hid n5; have N6:=hid n6; have N7:=hid n7; have N8:=hid n8; have N9:=hid n9
 clear n1 n2 n3 n4 n5 n6 n7 n8 n9
 go_wp2_with fail
 refine (now_two T.out).mono ?_
 rw [N1.out,N2.out,N3.out]
 rintro e w2 ⟨rfl,h1⟩
 clear T
 have T:=hid h1.swap
 clear h1
 go_wp2_with fail
 refine (now_two T.out).mono ?_
 rw [N4.out,N5.out,N6.out]
 rintro e w2 ⟨rfl,h1⟩
 clear T
 have T:=hid h1
 clear h1
 go_wp2_with fail
 obtain ⟨ada,capa,adb,capb,hT⟩:=T.out
 refine (new19_no (show ¬ (getB k10.2.2 1 = true ∧ getB k10.2.2 2 = true ∧ getB k10.2.2 0 = true) from by decide +kernel) hT).mono ?_
 rintro e w2 ⟨rfl,h1⟩
 clear T hT
 have T:Hid (Two w w2 b pb pa k10.2.1 k8.2.1 k10.2.2 20000 []):=hid ⟨_,_,_,_,h1⟩
 clear h1
 go_wp2_with fail
 refine (keys_two O10.out.rc.len T.out).mono ?_
 rw [N9.out]
 rintro e w2 ⟨a2,c2,rfl,h1⟩
 clear T
 have T:=hid h1.swap
 clear h1
 go_wp2_with fail
 refine (keys_two O8.out.rc.len T.out).mono ?_
 rw [N8.out]
 rintro e w2 ⟨a3,c3,rfl,h1⟩
 clear T
 have T:=hid h1
 clear h1
 go_wp2_with fail
 refine (of_two T.out).mono ?_
 rw [N7.out]
 rintro e w2 ⟨rfl,h1⟩
 clear T
 have T:=hid h1
 clear h1
 have hf:=field_x 1
 go_wp2_with fail
 go_ret
 exact ⟨rfl,T.out.below⟩
end Go.Proofs.Ytpcfmafokkffgaa
namespace Go.Proofs.Ytpcfmafokkffgaa
open Go.RowKit

/-- Two sides: what the first one seals the second one opens. -/
structure Good2 (L:List T) (x y:Se):Prop where
 g:Good L
 nc:Non L 2
 nd:Non L 3
 le:3 ≤ L.length
 xo:SeOk x
 yo:SeOk y
 xs:Sd L 2 1 x
 xr:Rv L 3 x.rc
 yr:Rv L 2 y.rc
 yh:y.h = 1

section
variable {W w:World} {Rs:List Res} {b pa pb:Nat} {x y:Se} {L:List T}
end
end Go.Proofs.Ytpcfmafokkffgaa
namespace Go.Proofs.Ytpcfmafokkffgaa
open Go.RowKit

section
variable {W w w':World} {R R':Res} {Rs:List Res} {b pa pb:Nat} {x y:Se} {L L2:List T} {m:Int}
end
set_option maxRecDepth 100000 in
set_option maxHeartbeats 2000000 in
/-- What it was made of, where it lies. -/
theorem of19_calm {w:World} {p b:Nat} {x:Se} {v:Value} (hp:w.heap[p]? = some (seO b x v)) :
 Calls Try.prog 46 #[.pointer (some ⟨p,0,none⟩)] w fun e' w'=>e' = .returned (.agg #[.int .i64 x.h,.int .i64 x.s,.int .i64 x.r,.int .i64 x.v]) ∧ Below w.heap.size w w':=by
 obtain ⟨ok,oe,sent,⟨ik,ie,nx,bt,es⟩,xh,xs,xr,xv⟩:=x
 have H:=hid ((Hd.refl w).boxk w.heap.size rfl (o:=.cells #[.int .i64 0,.int .i64 0,.int .i64 0,.int .i64 0] 72 (0,0)))
 obtain ⟨wo,hwo⟩:∃ wo,w.alloc (.cells #[.int .i64 0,.int .i64 0,.int .i64 0,.int .i64 0] 72 (0,0)) = wo:=⟨_,rfl⟩
 rw [hwo] at H
 have hk:=(H.out.below.block p (Array.getElem?_eq_some_iff.1 hp).1).trans hp
 clear hp
 have c9:=(cell_of_heap hk 9).trans (show _ = some (.int .i64 xh) from rfl)
 have c10:=(cell_of_heap hk 10).trans (show _ = some (.int .i64 xs) from rfl)
 have c11:=(cell_of_heap hk 11).trans (show _ = some (.int .i64 xr) from rfl)
 have c12:=(cell_of_heap hk 12).trans (show _ = some (.int .i64 xv) from rfl)
 have cs:=(Array.getElem?_eq_some_iff.1 hk).1
 clear hk
 have hk:=Hd.nthk 0 H.out rfl
 obtain ⟨q0,q1,q2,q3⟩:=cells4 hk
 have qs:=(Array.getElem?_eq_some_iff.1 hk).1
 have qf:=frozen_of_heap hk
 clear hk
 go_enter Try.func46,Try.ntmps46
 go_wp2_with fail
 refine bodyPost_ret (v:=.agg #[.int .i64 xh,.int .i64 xs,.int .i64 xr,.int .i64 xv]) (by simp [results,Try.results46,go_sem,q0,q1,q2,q3]) rfl ⟨rfl,?_⟩
 exact ((((H.out.set 0 (.int .i64 xh)).set 1 (.int .i64 xs)).set 2 (.int .i64 xr)).set 3 (.int .i64 xv)).below
end Go.Proofs.Ytpcfmafokkffgaa
namespace Go.Proofs.Ytpcfmafokkffgaa
open Go.RowKit

/-- What was sealed: epoch, number, name. -/
abbrev Tr:=Int × Int × Int
def trC (l:List Tr):List Value:=l.flatMap fun z=>[.int .i64 z.1,.int .i64 z.2.1,.int .i64 z.2.2]
theorem trC_append (l k:List Tr):trC (l ++ k) = trC l ++ trC k:=List.flatMap_append
theorem trC_get {z:Tr} {j:Nat} {v:Value} (hv:[Value.int .i64 z.1,.int .i64 z.2.1,.int .i64 z.2.2][j]? = some v):∀ {l:List Tr} {k:Nat},l[k]? = some z → (trC l)[k * 3 + j]? = some v
 | [],_,h=>by simp at h
 | a::l,0,h=>by
  simp only [List.getElem?_cons_zero,Option.some.injEq] at h
  subst h
  unfold trC
  rw [List.flatMap_cons,List.getElem?_append_left (by have:=(List.getElem?_eq_some_iff.1 hv).1; simpa using this)]
  simpa using hv
 | a::l,k + 1,h=>by
  have ih:=trC_get hv (l:=l) (k:=k) (by simpa using h)
  unfold trC
  rw [List.flatMap_cons,List.getElem?_append_right (by simp; omega)]
  rw [← ih]
  unfold trC
  congr 1
  simp
  omega

theorem info_tr:∃ i,Try.prog.info? 55 = some i ∧ i.zero = some (.agg #[.int .i64 0,.int .i64 0,.int .i64 0]) ∧ i.size = 3 ∧ i.bytes = 24:=info_parts (by kernel_rfl)
section
variable {W w:World} {Rs:List Res} {b pa pb:Nat} {x y:Se} {L:List T} {m:Int}
/-- APPEND ONE. -/
theorem append_tr {ops:Array Oper} {rest:List Oper} {o:Oper} {a:Act} {Q:Exit → Act → World → Prop} {l:List Tr} {n:Nat} {v:Value} (z:Tr) {cs:Array Value}
 (hgd:o.guard = none) (s u:Operand) (ho:o.op = .call { callee:=.builtin .append,args:=#[s,u],argTypes:=#[54,54] }) (hcs:cs = #[.int .i64 z.1,.int .i64 z.2.1,.int .i64 z.2.2]) (h:Hd W w (RowR 55 3 v n (trC l)::Rs)) (hs:a.eval s = v) (hu:a.eval u = .slice (some ⟨w.heap.size,0,none⟩) 1 1) (hn:n ≤ 1000)
 (hK:∀ g' cap w',Hd W w' (RowR 55 3 (.slice (some ⟨g',0,none⟩) (n + 1) cap) (n + 1) (trC (l ++ [z]))::Rs) → wpList Try.prog ops Q rest (a.put o.dst (.slice (some ⟨g',0,none⟩) (n + 1) cap)) w') :
 wpList Try.prog ops Q (o::rest) a (w.alloc (.cells cs 55 (0,0))):=by
 subst hcs
 have hd:=h.al (o:=.cells #[.int .i64 z.1,.int .i64 z.2.1,.int .i64 z.2.2] 55 (0,0))
 obtain ⟨i,hi,hz,hsz,hby⟩:=info_tr
 refine wpList_append_lies _ hgd s u 54 ho 0 55 i _ 3 24 Try.underlying54 hi hz hsz hby rfl (by decide) v n _ hs hd.owns ⟨w.heap.size,0,none⟩ 1 1 [.int .i64 z.1,.int .i64 z.2.1,.int .i64 z.2.2] hu rfl (World.news_of_block (heap_alloc_new _ _)) (by intro u hu; simp only [List.mem_cons,List.not_mem_nil,or_false] at hu; rcases hu with rfl | rfl | rfl <;> rfl) (by decide) (by simp only [maxLen]; omega) (by omega) (Nat.zero_le _) _ rfl ?_
 intro g cap w' ho' hg hgg _
 refine hK g cap w' ?_
 rw [trC_append]
 exact hd.grown ho' hg hgg
end
/-- What was sealed, the texts being their numbers. -/
def SentOk (L:List T) (l:List Tr):Prop:=∀ k z,l[k]? = some z → Sl L 2 1 z.1 z.2.1 ⟨#[UInt8.ofNat k]⟩ z.2.2 ∧ (0 ≤ z.2.1 ∧ z.2.1 < 256) ∧ z.1 ≤ 100
end Go.Proofs.Ytpcfmafokkffgaa
namespace Go.Proofs.Ytpcfmafokkffgaa
open Go.RowKit

section
variable {W w w':World} {R R':Res} {Rs:List Res} {b pa pb b' qa qb:Nat} {x y x2 y2:Se} {L L2:List T} {m:Int}
theorem Four.first (h:Four W w b pa pb b' qa qb x y L x2 y2 L2 m (R::Rs)):∃ Ss,Hd W w (R::Ss) ∧ ∀ w' R',Hd W w' (R'::Ss) → Four W w' b pa pb b' qa qb x y L x2 y2 L2 m (R'::Rs):=by
 obtain ⟨a1,c1,a2,c2,a3,c3,a4,c4,h⟩:=h
 refine ⟨_,h.front 10 rfl,fun w' R' h'=>⟨a1,c1,a2,c2,a3,c3,a4,c4,?_⟩⟩
 exact h'.back 10 rfl
theorem Four.nil (h:Four W w b pa pb b' qa qb x y L x2 y2 L2 m Rs):∃ Ss,Hd W w Ss ∧ ∀ w' R',Hd W w' (R'::Ss) → Four W w' b pa pb b' qa qb x y L x2 y2 L2 m (R'::Rs):=by
 obtain ⟨a1,c1,a2,c2,a3,c3,a4,c4,h⟩:=h
 refine ⟨_,h,fun w' R' h'=>⟨a1,c1,a2,c2,a3,c3,a4,c4,?_⟩⟩
 exact h'.back 10 rfl
theorem Four.still (h:Four W w b pa pb b' qa qb x y L x2 y2 L2 m Rs) (hb:Below w.heap.size w w'):Four W w' b pa pb b' qa qb x y L x2 y2 L2 m Rs:=by
 obtain ⟨a1,c1,a2,c2,a3,c3,a4,c4,h⟩:=h
 exact ⟨a1,c1,a2,c2,a3,c3,a4,c4,h.still hb⟩
theorem Four.dropR (h:Four W w b pa pb b' qa qb x y L x2 y2 L2 m (R::Rs)):Four W w b pa pb b' qa qb x y L x2 y2 L2 m Rs:=by
 obtain ⟨a1,c1,a2,c2,a3,c3,a4,c4,h⟩:=h
 exact ⟨a1,c1,a2,c2,a3,c3,a4,c4,(h.front 10 rfl).drop⟩
theorem Four.boxk {o:Obj} (k:Nat) (hk:w.heap.size = k) (h:Four W w b pa pb b' qa qb x y L x2 y2 L2 m Rs):Four W (w.alloc o) b pa pb b' qa qb x y L x2 y2 L2 m (Blk k o::Rs):=by
 obtain ⟨Ss,h1,h2⟩:=h.nil
 exact h2 _ _ (h1.boxk k hk)
theorem Four.row {E:TypeId} (k:Nat) (hk:w.heap.size = k) (h:Four W w b pa pb b' qa qb x y L x2 y2 L2 m Rs) (size:Nat):Four W (w.alloc (.cells #[] E (0,0))) b pa pb b' qa qb x y L x2 y2 L2 m (RowR E size (.slice (some ⟨k,0,none⟩) 0 0) 0 []::Rs):=by
 subst hk
 obtain ⟨Ss,h1,h2⟩:=h.nil
 exact h2 _ _ h1.row_newS
/-- Where a seen one lies. -/
theorem Four.tr_cell {g n cap k:Nat} {l:List Tr} {z:Tr} (h:Four W w b pa pb b' qa qb x y L x2 y2 L2 m (RowR 55 3 (.slice (some ⟨g,0,none⟩) n cap) n (trC l)::Rs)) (hz:l[k]? = some z) :
 w.cell? ⟨g,k * 3,none⟩ = some (.int .i64 z.1) ∧ w.cell? ⟨g,k * 3 + 1,none⟩ = some (.int .i64 z.2.1) ∧ w.cell? ⟨g,k * 3 + 2,none⟩ = some (.int .i64 z.2.2):=by
 obtain ⟨Ss,h1,_⟩:=h.first
 have key:∀ {j:Nat} {v:Value},[Value.int .i64 z.1,.int .i64 z.2.1,.int .i64 z.2.2][j]? = some v → w.cell? ⟨g,k * 3 + j,none⟩ = some v:=fun hv=>by
  obtain ⟨g2,cap2,h2,h3⟩:=h1.row_cell (trC_get hv hz)
  simp only [Value.slice.injEq,Option.some.injEq,Addr.mk.injEq,and_true,true_and] at h2
  rw [h2.1]
  exact h3
 exact ⟨key (j:=0) rfl,key (j:=1) rfl,key (j:=2) rfl⟩
end
end Go.Proofs.Ytpcfmafokkffgaa
namespace Go.Proofs.Ytpcfmafokkffgaa
open Go.RowKit

theorem ref_agg (k:Int) (s:ByteArray) (n a b c:Int) (w:World) :
 Calls Try.prog 53 #[.agg #[.int .i64 k,.string s,.int .u64 n,.int .i64 a,.int .i64 b,.int .i64 c]] w fun e w' =>
  e = .returned (.agg #[.int .i64 k,.string s,.int .u64 n,.int .i64 a,.int .i64 b,.int .i64 c]) ∧ Below w.heap.size w w':=ref_calls k s n a b c w

set_option maxRecDepth 100000 in
set_option maxHeartbeats 4000000 in
theorem same2_calls {W w:World} {Rs:List Res} {b b':Nat} {L:List T} {m m':Int} (h:Hd W w (Sto b L m::RSto b' L m'::Rs)) :
 Calls Try.prog 32 #[.pointer (some ⟨b,0,none⟩),.pointer (some ⟨b',0,none⟩)] w fun e w'=>e = .returned (.int .i64 1) ∧ Below w.heap.size w w':=by
 obtain ⟨a,cap,hr⟩:=h.swap.rsto
 obtain ⟨lb,db,mb,lc,dc,hs⟩:=h.sto
 have hL:L.length ≤ 1048576:=by have:=hs.m1; have:=hs.len; omega
 have Hs:=hid hs
 have Hr:=hid hr
 have r0:∀ x:Later w,x.w.cell? ⟨b',0,none⟩ = some (.slice a L.length cap):=fun x=>x.cell hr.c0
 clear h hs hr
 go_enter Try.func32,Try.ntmps32
 go_wp2_with fail
 refine wp_region_calm (by kernel_rfl) (by kernel_rfl) ?_
 repeat (go_big_quiet_step ((go_at_call 18; exact Calls.calm_same (len_calls' (Hs.out.later (Later.below _))))))
 refine wpQuiet_nil ?_
 intro w2 hw2
 obtain ⟨⟨w2,hb2⟩,rfl⟩:=hw2
 have Hb2:=hid hb2
 clear r0 hb2
 go_wp2_with fail
 go_loopw [5] (fun i wr=>∃ j:Nat,j ≤ L.length ∧ i = .int .i64 ((j:Int) + 1) ∧ Hid (Below w.heap.size w wr)) (fun i _=>(L.length + 1) - (intOf i).toNat)
 case atStart=>exact ⟨0,Nat.zero_le _,rfl,Hb2⟩
 case round =>
  obtain ⟨j,hj,rfl,Hb⟩:=hrel
  have c0:=(Hr.out.later Hb.out).c0
  by_cases hlt:j < L.length
  · have d1:decide ((j:Int) + 1 ≤ (L.length:Int)) = true:=by simp; omega
    have d2:decide (j + 1 ≤ L.length) = true:=by simp; omega
    have d3:decide (j < L.length) = true:=by simp; omega
    obtain ⟨t,ht⟩:∃ t,L[j]? = some t:=⟨L[j]'(by omega),List.getElem?_eq_getElem _⟩
    have hg:=getT_in ht
    obtain ⟨k,s,n,a1,b1,c1⟩:=t
    obtain ⟨g,rfl,hgl,hc⟩:=(Hr.out.later Hb.out).cl j _ ht
    have Hg:=hid hg
    have Hc:=hid hc
    have Hgl:=hid hgl
    have C0:=hid c0
    clear ht hg hc hgl
    go_wp2_with fail
    refine (get_calls _ (Hs.out.later Hb.out)).mono ?_
    rw [Hg.out.1,Hg.out.2]
    simp only [T.val]
    rintro e w3 ⟨rfl,hb3⟩
    clear c0
    go_wp2_with fail
    obtain ⟨w4,hw4⟩:∃ w4,w4 = w3.alloc (.cells #[.int .i64 k,.string s,.int .u64 n,.int .i64 a1,.int .i64 b1,.int .i64 c1] 47):=⟨_,rfl⟩
    have hbox:w4.heap[w3.heap.size]? = some (.cells #[.int .i64 k,.string s,.int .u64 n,.int .i64 a1,.int .i64 b1,.int .i64 c1] 47):=by rw [hw4]; exact heap_at rfl
    have hb34:Below w3.heap.size w3 w4:=by rw [hw4]; exact (Below.refl _ _).alloc (Nat.le_refl _) _
    rw [← hw4]
    clear hw4
    have hb4:Below wr.heap.size wr w4:=hb3.trans (hb34.mono hb3.size)
    generalize w3.heap.size = B at *
    have e0:∀ x:Later w4,x.w.cell? ⟨B,0,none⟩ = some (.int .i64 k):=fun x=>x.cell (by rw [cell_of_heap hbox]; rfl)
    have e1:∀ x:Later w4,x.w.cell? ⟨B,1,none⟩ = some (.string s):=fun x=>x.cell (by rw [cell_of_heap hbox]; rfl)
    have e2:∀ x:Later w4,x.w.cell? ⟨B,2,none⟩ = some (.int .u64 n):=fun x=>x.cell (by rw [cell_of_heap hbox]; rfl)
    have e3:∀ x:Later w4,x.w.cell? ⟨B,3,none⟩ = some (.int .i64 a1):=fun x=>x.cell (by rw [cell_of_heap hbox]; rfl)
    have e4:∀ x:Later w4,x.w.cell? ⟨B,4,none⟩ = some (.int .i64 b1):=fun x=>x.cell (by rw [cell_of_heap hbox]; rfl)
    have e5:∀ x:Later w4,x.w.cell? ⟨B,5,none⟩ = some (.int .i64 c1):=fun x=>x.cell (by rw [cell_of_heap hbox]; rfl)
    have f0:∀ x:Later w4,x.w.cell? ⟨b',0,none⟩ = some (.slice (some ⟨g,0,none⟩) L.length cap):=fun x=>x.cell ((hb4.cell (p:=⟨b',0,none⟩) (Hr.out.later Hb.out).lt).trans C0.out)
    have g0:∀ x:Later w4,x.w.cell? ⟨g,j * 6,none⟩ = some (.int .i64 k):=fun x=>x.cell ((hb4.cell (p:=⟨g,j * 6 + 0,none⟩) Hgl.out).trans (Hc.out 0 _ rfl))
    have g1:∀ x:Later w4,x.w.cell? ⟨g,j * 6 + 1,none⟩ = some (.string s):=fun x=>x.cell ((hb4.cell (p:=⟨g,j * 6 + 1,none⟩) Hgl.out).trans (Hc.out 1 _ rfl))
    have g2:∀ x:Later w4,x.w.cell? ⟨g,j * 6 + 2,none⟩ = some (.int .u64 n):=fun x=>x.cell ((hb4.cell (p:=⟨g,j * 6 + 2,none⟩) Hgl.out).trans (Hc.out 2 _ rfl))
    have g3:∀ x:Later w4,x.w.cell? ⟨g,j * 6 + 3,none⟩ = some (.int .i64 a1):=fun x=>x.cell ((hb4.cell (p:=⟨g,j * 6 + 3,none⟩) Hgl.out).trans (Hc.out 3 _ rfl))
    have g4:∀ x:Later w4,x.w.cell? ⟨g,j * 6 + 4,none⟩ = some (.int .i64 b1):=fun x=>x.cell ((hb4.cell (p:=⟨g,j * 6 + 4,none⟩) Hgl.out).trans (Hc.out 4 _ rfl))
    have g5:∀ x:Later w4,x.w.cell? ⟨g,j * 6 + 5,none⟩ = some (.int .i64 c1):=fun x=>x.cell ((hb4.cell (p:=⟨g,j * 6 + 5,none⟩) Hgl.out).trans (Hc.out 5 _ rfl))
    have Hb4:=hid hb4
    have hj0:(0:Int) ≤ (j:Int):=by omega
    have hj1:(j:Int) < (L.length:Int):=by omega
    have hw1:IntKind.i64.wrap ((j:Int) + 1 - 1) = (j:Int):=by rw [show (j:Int) + 1 - 1 = j from by omega]; exact IntWalk.i64_in _ (by omega)
    clear hb3 hb34 hb4 hbox
    refine wp_region_calm (by kernel_rfl) (by kernel_rfl) ?_
    repeat (go_big_quiet_step ((go_at_call 53; exact Calls.calm (ref_agg k s n a1 b1 c1 _))))
    refine wpQuiet_nil ?_
    intro w5 hw5
    obtain ⟨⟨w5,hb5⟩,rfl⟩:=hw5
    have Hb5:=hid (Hb4.out.trans (hb5.mono Hb4.out.size))
    clear e0 e1 e2 e3 e4 e5 f0 g0 g1 g2 g3 g4 g5 hw1 hb5
    go_wp2_with fail
    go_roundw
    case rel=>exact ⟨j + 1,by omega,by go_num,hid (Hb.out.trans (Hb5.out.mono Hb.out.size))⟩
    case measure=>simp [intOf]; omega
  · have d1:decide ((j:Int) + 1 ≤ (L.length:Int)) = false:=by simp; omega
    have d2:decide (j + 1 ≤ L.length) = false:=by simp; omega
    have d3:decide (j < L.length) = false:=by simp; omega
    go_wp2_with fail
    go_ret
    exact ⟨rfl,Hb.out⟩
end Go.Proofs.Ytpcfmafokkffgaa
namespace Go.Proofs.Ytpcfmafokkffgaa
open Go.RowKit Go.ChangeShapes Go.WideShapes

/-- So many integers lie there, each of its kind's range. -/
def NumsIn (k:IntKind) (w:World) (a:Option Addr) (zs:List Int):Prop :=
 ∀ (i:Nat) (z:Int),zs[i]? = some z → k.min ≤ z ∧ z ≤ k.max ∧ ∃ g o,a = some ⟨g,o,none⟩ ∧ w.cell? ⟨g,o + i,none⟩ = some (.int k z)

theorem wf_range {k:IntKind} {n:Int} (h:(Lit.int k n).wf = true):k.min ≤ n ∧ n ≤ k.max:=by
 simpa [Lit.wf] using h

theorem addr_spot {w:World} {a:Addr} {v:Value} (h:w.cell? a = some v):a.spot = none:=by
 unfold World.cell? at h
 split at h
 · split at h
   · cases h
   · rename_i hn; simpa using hn
 · cases h

section
variable {H:Type} {enc:TypeId × Value → H} {w:World} {base:Nat} {spare:Nat → Bool} {held:Bool}

theorem arr_cell {n:Nat} {k:IntKind} {e:TypeId} (hc:Try.prog.cellsOf e = 1) (he:Try.prog.underlying e = some (.int k)) {m:Nat} {cs:List Value} {xs:List (DataW H × List MemPlace)}
 (hx:∀ (i:Nat),i < n → DataW.trod enc Try.prog w base spare held m e ((cs.drop (i * Try.prog.cellsOf e)).take (Try.prog.cellsOf e)) = xs[i]?) (hn:xs.length = n) (i:Nat) (c:Value) (hi:i < n) (hci:(cs.drop i).take 1 = [c]) :
 ∃ z:Int,c = .int k z ∧ k.min ≤ z ∧ z ≤ k.max:=by
 have h1:=hx i hi
 rw [hc,Nat.mul_one,hci,List.getElem?_eq_getElem (by omega)] at h1
 obtain ⟨z,hz,_,hw⟩:=DataW.trod_int he h1
 simp only [List.cons.injEq,and_true] at hz
 exact ⟨z,hz,wf_range hw⟩
end
end Go.Proofs.Ytpcfmafokkffgaa
namespace Go.Proofs.Ytpcfmafokkffgaa
open Go.RowKit Go.ChangeShapes Go.WideShapes

/-- So many rows of n integers lie there. -/
def RowsIn (n:Nat) (k:IntKind) (w:World) (a:Option Addr) (zs:List (List Int)):Prop :=
 ∀ (i:Nat) (z:List Int),zs[i]? = some z → z.length = n ∧ (∀ x ∈ z,k.min ≤ x ∧ x ≤ k.max) ∧ ∃ g o,a = some ⟨g,o,none⟩ ∧ ∀ (j:Nat) (v:Int),z[j]? = some v → w.cell? ⟨g,o + i * n + j,none⟩ = some (.int k v)

section
variable {H:Type} {enc:TypeId × Value → H} {w:World} {base:Nat} {spare:Nat → Bool} {held:Bool}

set_option maxRecDepth 100000 in
theorem trod_row {n:Nat} {k:IntKind} {t e:TypeId} {fuel:Nat} {cs:List Value} {x:DataW H × List MemPlace} (ht:Try.prog.underlying t = some (.array n e)) (he:Try.prog.underlying e = some (.int k)) (hc:Try.prog.cellsOf e = 1) (hC:Try.prog.cellsOf t = n)
 (h:DataW.trod enc Try.prog w base spare held fuel t cs = some x):∃ z:List Int,cs = z.map (Value.int k) ∧ z.length = n ∧ ∀ y ∈ z,k.min ≤ y ∧ y ≤ k.max:=by
 obtain ⟨xs,m,_,_,hlen,hxs,hf⟩:=DataW.trod_array ht h
 rw [hC] at hlen
 have each:∀ i,i < n → ∃ z:Int,cs[i]? = some (.int k z) ∧ k.min ≤ z ∧ z ≤ k.max:=fun i hi=>by
  have hci:cs[i]? = some (cs[i]'(by omega)):=List.getElem?_eq_getElem (by omega)
  obtain ⟨z,hz,hr⟩:=arr_cell hc he hf hxs i (cs[i]'(by omega)) hi (by rw [List.drop_eq_getElem_cons (by omega),List.take_succ_cons]; rfl)
  exact ⟨z,by rw [hci,hz],hr⟩
 obtain ⟨f,hf'⟩:=Deep.choose_lt each
 refine ⟨(List.range n).map f,List.ext_getElem? fun i=>?_,by simp,fun y hy=>?_⟩
 · by_cases hi:i < n
   · rw [(hf' i hi).1]
     simp [hi]
   · rw [List.getElem?_eq_none (by omega),List.getElem?_eq_none (by simp; omega)]
 · simp only [List.mem_map,List.mem_range] at hy
   obtain ⟨i,hi,rfl⟩:=hy
   exact (hf' i hi).2

set_option maxRecDepth 100000 in
/-- A SLICE OF ROWS OPENED. -/
theorem open_rows {n:Nat} {k:IntKind} {t ar e:TypeId} {fuel:Nat} {a:Option Addr} {len cap:Nat} {x:DataW H × List MemPlace} (hn:0 < n) (hs:Try.prog.underlying t = some (.slice ar)) (ht:Try.prog.underlying ar = some (.array n e)) (he:Try.prog.underlying e = some (.int k)) (hc:Try.prog.cellsOf e = 1) (hC:Try.prog.cellsOf ar = n)
 (h:DataW.trod enc Try.prog w base spare held fuel t [.slice a len cap] = some x) :
 ∃ zs:List (List Int),len = zs.length ∧ len ≤ maxLen ∧ RowsIn n k w a zs:=by
 rcases Deep.open_slice (P:=Try.prog) (t:=t) (e:=ar) hs h with ⟨hcs,_⟩ | ⟨a',l,c,m,n',D,Pl,hcs,_,hl,hm,hmm,_,hx⟩
 · simp only [List.cons.injEq,Value.slice.injEq,and_true] at hcs
   obtain ⟨rfl,rfl,rfl⟩:=hcs
   exact ⟨[],rfl,Nat.zero_le _,fun i t hi=>by simp at hi⟩
 · simp only [List.cons.injEq,Value.slice.injEq,and_true] at hcs
   obtain ⟨rfl,rfl,rfl⟩:=hcs
   have hle:len ≤ m:=by rw [hmm]; split <;> omega
   have each:∀ i,i < len → ∃ z:List Int,w.cells? base (a'.add (i * n)) n = some (z.map (Value.int k)) ∧ z.length = n ∧ ∀ y ∈ z,k.min ≤ y ∧ y ≤ k.max:=fun i hi=>by
    obtain ⟨cs',h1,h2⟩:=hx i (by omega)
    rw [hC] at h1
    obtain ⟨z,rfl,hz⟩:=trod_row ht he hc hC h2
    exact ⟨z,h1,hz⟩
   obtain ⟨f,hf⟩:=Deep.choose_lt each
   refine ⟨(List.range len).map f,by simp,Nat.le_trans hl hm,fun i t hi=>?_⟩
   have hil:i < len:=by
    have:=(List.getElem?_eq_some_iff.1 hi).1
    simpa using this
   have ht':t = f i:=by
    rw [List.getElem?_map,List.getElem?_range hil] at hi
    simpa using hi.symm
   subst ht'
   obtain ⟨h1,h2,h3⟩:=hf i hil
   obtain ⟨h10,h20,_⟩:=hf 0 (by omega)
   obtain ⟨_,_,hz⟩:=World.cells?_some h10
   have hz0:=hz 0 hn
   have e0:(a'.add (0 * n)).add 0 = a':=by simp [Addr.add]
   rw [e0] at hz0
   have hspot:a'.spot = none:=by
    have hv:((f 0).map (Value.int k))[0]? = some (.int k ((f 0)[0]'(by omega))):=by
     rw [List.getElem?_map,List.getElem?_eq_getElem (by omega)]; rfl
    rw [hv] at hz0
    exact addr_spot hz0
   obtain ⟨g,o,sp⟩:=a'
   simp only at hspot
   subst hspot
   obtain ⟨_,_,hc'⟩:=World.cells?_some h1
   refine ⟨h2,h3,g,o,rfl,fun j v hj=>?_⟩
   have hj6:j < n:=by have:=(List.getElem?_eq_some_iff.1 hj).1; omega
   have:=hc' j hj6
   rw [Addr.add_lit,Addr.add_lit,List.getElem?_map,hj] at this
   exact this
end
end Go.Proofs.Ytpcfmafokkffgaa
namespace Go.Proofs.Ytpcfmafokkffgaa
open Go.RowKit Go.WideShapes

section
variable {H:Type} {enc:TypeId × Value → H} {w:World} {base:Nat} {spare:Nat → Bool} {held:Bool}

set_option maxRecDepth 100000 in
theorem trod_S {fuel:Nat} {cs:List Value} {x:DataW H × List MemPlace} (h:DataW.trod enc Try.prog w base spare held fuel 72 cs = some x):∃ ck k hh n:Int,cs = [.int .i64 ck,.int .i64 k,.int .i64 hh,.int .i64 n]:=by
 have hu:Try.prog.underlying 72 = some (.struct (Try.prog.fieldsOf 72)):=by kernel_rfl
 obtain ⟨xs,n,_,_,hlen,hxs,hf⟩:=DataW.trod_struct hu h
 have hsz:Try.prog.cellsOf 72 = 4:=by kernel_rfl
 have hfs:(Try.prog.fieldsOf 72).size = 4:=by kernel_rfl
 rw [hsz] at hlen
 rw [hfs] at hxs
 match cs,hlen with
 | [c0,c1,c2,c3],_ =>
  have c1':Try.prog.cellsOf 3 = 1:=by kernel_rfl
  have some_of:∀ i:Nat,i < 4 → ∃ y,xs[i]? = some y:=fun i hi=>⟨xs[i]'(by omega),List.getElem?_eq_getElem (by omega)⟩
  have key:∀ (i ty off:Nat) (c:Value),i < 4 → (((Try.prog.fieldsOf 72)[i]?).map fun f=>(f.type,f.offset)) = some (ty,off) → Try.prog.cellsOf ty = 1 → (([c0,c1,c2,c3].drop off).take 1 = [c]) → ∃ y,DataW.trod enc Try.prog w base spare held n ty [c] = some y:=by
   intro i ty off c hi hfi h1 h2
   obtain ⟨f,hfe,hfo⟩:=Option.map_eq_some_iff.1 hfi
   simp only [Prod.mk.injEq] at hfo
   obtain ⟨y,hy⟩:=some_of i hi
   have:=hf i f hfe
   rw [hfo.1,hfo.2,h1,h2,hy] at this
   exact ⟨y,this⟩
  obtain ⟨y0,e0⟩:=key 0 3 0 c0 (by decide) (by kernel_rfl) c1' rfl
  obtain ⟨y1,e1⟩:=key 1 3 1 c1 (by decide) (by kernel_rfl) c1' rfl
  obtain ⟨y2,e2⟩:=key 2 3 2 c2 (by decide) (by kernel_rfl) c1' rfl
  obtain ⟨y3,e3⟩:=key 3 3 3 c3 (by decide) (by kernel_rfl) c1' rfl
  obtain ⟨a,f0,_⟩:=DataW.trod_int (k:=.i64) (by kernel_rfl) e0
  obtain ⟨b,f1,_⟩:=DataW.trod_int (k:=.i64) (by kernel_rfl) e1
  obtain ⟨c,f2,_⟩:=DataW.trod_int (k:=.i64) (by kernel_rfl) e2
  obtain ⟨m,f3,_⟩:=DataW.trod_int (k:=.i64) (by kernel_rfl) e3
  simp only [List.cons.injEq,and_true] at f0 f1 f2 f3
  subst f0 f1 f2 f3
  exact ⟨a,b,c,m,rfl⟩

set_option maxRecDepth 100000 in
theorem open_S {r:Reach} {b0:Nat} {v:Value} {d:DataW H} {p:List MemPlace}
 (hv:Value.okWide Try.prog w r b0 72 v) (h:DataW.Trod enc Try.prog w base spare held 72 v d p):∃ ck k hh n:Int,v = .agg #[.int .i64 ck,.int .i64 k,.int .i64 hh,.int .i64 n]:=by
 have hu:Try.prog.underlying 72 = some (.struct (Try.prog.fieldsOf 72)):=by kernel_rfl
 simp only [Value.okWide,hu] at hv
 obtain ⟨cs,rfl,_⟩:=hv
 obtain ⟨fuel,hf⟩:=h
 obtain ⟨a,b,c,m,hz⟩:=trod_S hf
 exact ⟨a,b,c,m,by rw [← hz]; rfl⟩
end
end Go.Proofs.Ytpcfmafokkffgaa
namespace Go.Proofs.Ytpcfmafokkffgaa
open Go.RowKit

section
variable {P:Program} {ops:Array Oper} {md:Region.Mode} {C:World → Prop}

/-- Each operation behind the n-th waits for one from the n-th on. -/
def laterB (md:Region.Mode) (ops:Array Oper) (n:Nat):Bool :=
 (List.range ops.size).all fun t=>decide (t ≤ n) || (List.range t).any fun j=>decide (n ≤ j) && Region.waitsFor md ops t j

theorem stays {t j:Nat} {listed:Array Bool} (hw:Region.waitsFor md ops t j = true) (hj:listed.getD j true = false):t ∉ Region.ready md ops listed:=by
 intro hr
 obtain ⟨_,ot,hot,hall⟩:=mem_ready.1 hr
 obtain ⟨o',ho',e,he,hb,hon⟩:=Region.waitsFor_spec hw
 obtain rfl:=Option.some.inj (ho'.symm.trans hot)
 have h2:=hall e he hb
 rw [hon,getD_both hj] at h2
 cases h2

theorem sink_stays {n:Nat} {listed:Array Bool} (hs:Region.sinkB md ops n = true) (hn:n < ops.size) (inv:HeadInv md ops n listed):∀ (d i:Nat),n ≤ i + d → i < n → listed.getD i true = false → n ∉ Region.ready md ops listed
 | 0,i,hd,hi,_=>by omega
 | d + 1,i,hd,hi,hun=>by
  obtain ⟨j,hj,hj2⟩:=List.any_eq_true.1 (List.all_eq_true.1 hs i (List.mem_range.2 hi))
  simp only [Bool.and_eq_true,decide_eq_true_eq] at hj2
  have hjn:=List.mem_range.1 hj
  by_cases hjt:j = n
  · subst hjt; exact stays hj2.2 hun
  · cases hl:listed.getD j true with
    | false=>exact sink_stays hs hn inv d j (by omega) (by omega) hl
    | true =>
     exfalso
     obtain ⟨oj,hoj,e,he,hb,hon⟩:=Region.waitsFor_spec hj2.2
     have hjs:j < listed.size:=by rw [inv.size]; omega
     have hl':listed.getD j false = true:=by simp [hjs] at hl ⊢; exact hl
     have:=inv.closed j oj hoj hl' e he hb
     rw [hon,getD_both hun] at this
     cases this

theorem tail_stays {n:Nat} {listed:Array Bool} (hs:Region.sinkB md ops n = true) (hl:laterB md ops n = true) (hn:n < ops.size) (inv:HeadInv md ops n listed) {i:Nat} (hi:i < n) (hun:listed.getD i true = false) {t:Nat} (ht:n ≤ t) :
 t ∉ Region.ready md ops listed:=by
 by_cases htn:t = n
 · subst htn; exact sink_stays hs hn inv t i (by omega) hi hun
 · intro hr
   have htl:t < ops.size:=by obtain ⟨_,o,ho,_⟩:=mem_ready.1 hr; exact (Array.getElem?_eq_some_iff.1 ho).1
   have h1:=List.all_eq_true.1 hl t (List.mem_range.2 htl)
   simp only [Bool.or_eq_true,decide_eq_true_eq] at h1
   rcases h1 with h1 | h1
   · omega
   · obtain ⟨j,hj,hj2⟩:=List.any_eq_true.1 h1
     simp only [Bool.and_eq_true,decide_eq_true_eq] at hj2
     have:=List.mem_range.1 hj
     exact stays hj2.2 (inv.tail j hj2.1 (by omega)) hr

/-- The first n operations in every order; then 'L'. -/
def headQ (P:Program) (md:Region.Mode) (ops:Array Oper) (C:World → Prop) (n:Nat) (L:Array Bool → Act → Prop):Nat → Array Bool → Act → Prop
 | 0,listed,a=>L listed a
 | f + 1,listed,a=>Region.ready md ops listed ≠ [] ∧ ∀ i ∈ Region.ready md ops listed,i < n ∧ qOp P ops C i (headQ P md ops C n L f (listed.setIfInBounds i true)) a

theorem headQ_any {n g:Nat} {L:Array Bool → Act → Prop} {Q:Exit → Act → World → Prop} (hL:∀ listed a w,C w → L listed a → wpAny P md ops Q g listed a w) :
 ∀ (f:Nat) (listed:Array Bool) (a:Act) (w:World),C w → headQ P md ops C n L f listed a → wpAny P md ops Q (f + g) listed a w
 | 0,listed,a,w,hw,h=>by rw [Nat.zero_add]; exact hL _ _ _ hw h
 | f + 1,listed,a,w,hw,h=>by
  rw [Nat.succ_add]
  exact ⟨fun h0=>absurd h0 h.1,fun i hi=>wpOp_of_qOp hw (fun a' w' hw' h'=>headQ_any hL f _ a' w' hw' h') (h.2 i hi).2⟩

theorem headQ_first {n i:Nat} {oi:Oper} {v:Value} {L:Array Bool → Act → Prop} (hi:ops[i]? = some oi) (hsel:Region.noSelect ops = true) (hs:Region.sinkB md ops n = true) (hl:laterB md ops n = true) (hn:n < ops.size) (hin:i < n)
 (hL:∀ listed a,L listed a → ∀ j ∈ Region.ready md ops listed,n ≤ j) :
 ∀ (f:Nat) (listed:Array Bool) (a:Act),HeadInv md ops n listed →
  (∀ j oj,ops[j]? = some oj → j ≠ i → listed.getD j true = false → (∀ e ∈ oj.after,Region.binds md e = true → e.on ≠ i) → oi.apart ops oj = true) →
  i ∈ Region.ready md ops listed → YieldsIn P ops C oi v a →
  headQ P md ops C n L f (listed.setIfInBounds i true) (a.put oi.dst v) → headQ P md ops C n L (f + 1) listed a:=by
 intro f
 induction f with
 | zero =>
  intro listed a inv _ hr hy H
  have hun:=(mem_ready.1 hr).1
  refine ⟨List.ne_nil_of_mem hr,fun j hj=>?_⟩
  have hjn:j < n:=Nat.lt_of_not_le fun h=>tail_stays hs hl hn inv hin hun h hj
  by_cases hji:j = i
  · subst hji; exact ⟨hjn,hy.qOp hi H⟩
  · have:=hL _ _ H j (ready_mono hj hji); omega
 | succ f ih =>
  intro listed a inv hap hr hy H
  have hun:=(mem_ready.1 hr).1
  refine ⟨List.ne_nil_of_mem hr,fun j hj=>?_⟩
  have hjn:j < n:=Nat.lt_of_not_le fun h=>tail_stays hs hl hn inv hin hun h hj
  refine ⟨hjn,?_⟩
  by_cases hji:j = i
  · subst hji; exact hy.qOp hi H
  obtain ⟨hjun,oj,hoj,hall⟩:=mem_ready.1 hj
  have hno:∀ e ∈ oj.after,Region.binds md e = true → e.on ≠ i:=fun e he hb heq=>by
   have h1:=hall e he hb
   rw [heq,getD_both hun] at h1
   cases h1
  have h2:=qOp_put hoj (hap j oj hoj hji hjun hno) (fun cs b=>Region.noSelect_spec hsel i oi cs b hi) (fun cs b=>Region.noSelect_spec hsel j oj cs b hoj) hy (H.2 j (ready_mono hj hji)).2
  refine qOp_mono (fun a' h3=>ih (listed.setIfInBounds j true) a' (inv.set hj hjn) (fun k ok hk hki hkun hkno=>hap k ok hk hki ?_ hkno) (ready_mono hr (Ne.symm hji)) h3.1 ?_) h2
  · by_cases hjk:j = k
    · subst hjk; exact hjun
    · rwa [getD_set_ne true hjk] at hkun
  · rw [Array.setIfInBounds_comm _ _ hji]
    exact h3.2

/-- In the text's order each of the first n can come up; then the n-th alone; then the others in the text's order. -/
def turnLex (md:Region.Mode) (ops:Array Oper):Nat → Nat → Array Bool → Bool
 | 0,k,listed=>decide (Region.ready md ops listed = [k]) && Region.lexFrom md ops (ops.size - (k + 1)) (k + 1) (listed.setIfInBounds k true)
 | f + 1,k,listed=>(Region.ready md ops listed).contains k && Region.free md ops listed k && turnLex md ops f (k + 1) (listed.setIfInBounds k true)

def turnB (md:Region.Mode) (ops:Array Oper) (n:Nat):Bool :=
 Region.noSelect ops && decide (n < ops.size) && Region.sinkB md ops n && laterB md ops n && turnLex md ops n 0 (Array.replicate ops.size false)

theorem headQ_lex {n:Nat} {R:Act → Prop} (hsel:Region.noSelect ops = true) (hs:Region.sinkB md ops n = true) (hl:laterB md ops n = true) (hn:n < ops.size) :
 ∀ (l:List Oper) (k:Nat) (listed:Array Bool) (a:Act),(∀ j,j < l.length → l[j]? = ops[k + j]?) → k + l.length = n → HeadInv md ops n listed → turnLex md ops l.length k listed = true → wpQuiet P ops C R l a →
  headQ P md ops C n (fun listed' a'=>Region.ready md ops listed' = [n] ∧ Region.lexFrom md ops (ops.size - (n + 1)) (n + 1) (listed'.setIfInBounds n true) = true ∧ R a') l.length listed a
 | [],k,listed,a,_,hk,_,hB,h=>by
  obtain rfl:k = n:=by simpa using hk
  simp only [List.length_nil,turnLex,Bool.and_eq_true,decide_eq_true_eq] at hB
  exact ⟨hB.1,hB.2,h⟩
 | o::l,k,listed,a,hops,hk,inv,hB,h=>by
  have h0:ops[k]? = some o:=by simpa using (hops 0 (by simp)).symm
  simp only [List.length_cons,turnLex,Bool.and_eq_true] at hB
  obtain ⟨⟨hr,hf⟩,hB'⟩:=hB
  have hkn:k < n:=by simp only [List.length_cons] at hk; omega
  have hr':k ∈ Region.ready md ops listed:=by simpa using hr
  have hq:qOp P ops C k (wpQuiet P ops C R l) a:=by unfold qOp; simp only [h0]; exact h
  obtain ⟨v,hy,hK⟩:=yieldsIn_of_qOp h0 hq
  exact headQ_first h0 hsel hs hl hn hkn (fun listed' a' hL j hj=>by rw [hL.1] at hj; have:=List.mem_singleton.1 hj; omega) l.length listed a inv (Region.free_spec h0 hf) hr' hy
   (headQ_lex hsel hs hl hn l (k + 1) _ _ (fun j hj=>by have:=hops (j + 1) (by simp; omega); simpa [Nat.add_assoc,Nat.add_comm 1 j] using this) (by simp only [List.length_cons] at hk; omega) (inv.set hr' hkn) hB' hK)

theorem wp_turn_exit {o:Oper} {a:Act} {w:World} {R:Act → World → Prop} {Q:Exit → Act → World → Prop}
 (h:o.wp P a w (fun a' w'=>R a' w') (fun e a' w'=>e = .normal ∧ R a' w')):o.wp P a w R Q:=by
 unfold Oper.wp at *
 generalize (execOp a.eval o).run P w = r at *
 cases r with
 | ok n w' =>
  cases n <;> simp only [Oper.upon] at h ⊢ <;> first | exact h | skip
  case enter f args =>
   refine Calls.mono h fun e w'' he=>?_
   cases e with
   | returned v=>exact he
   | panicked c=>exact absurd he.1 (by simp)
   | outgrown=>obtain ⟨_,_,he,_⟩:=he; exact absurd he (by simp)
 | halt x w' =>
  cases x <;> simp only [Oper.upon] at h ⊢
  case panic v=>exact absurd h.1 (by simp)

/-- THE RULE. -/
theorem wp_region_turn {id:Nat} {Q:Exit → Act → World → Prop} {a:Act} {w:World} {l:List Oper} (n:Nat) (o:Oper) (hm:P.follows .mixedOrders = true) (hB:turnB .any l.toArray n = true) (ho:l[n]? = some o) (hg:o.guard = none) (hC:C { w with drawn:=w.drawn + 1 })
 (h:wpQuiet P l.toArray C (fun a1=>∀ w1,C w1 → ∀ K:Exit → Act → World → Prop,
  (∀ a2 w2,(∃ D:World → Prop,D w2 ∧ wpQuiet P l.toArray D (fun a3=>∀ w3,D w3 → Q .normal a3 w3) (l.drop (n + 1)) a2) → K .normal a2 w2) → wpList P l.toArray K [o] a1 w1) (l.take n) a) :
 (Code.region id l.toArray true).wp P Q a w:=by
 simp only [turnB,Bool.and_eq_true,decide_eq_true_eq] at hB
 obtain ⟨⟨⟨⟨hsel,hn⟩,hs⟩,hl⟩,hlex⟩:=hB
 have hn':n < l.length:=by simpa using hn
 have htl:(l.take n).length = n:=by simp; omega
 have hsz:l.toArray.size - (n + 1) = (l.drop (n + 1)).length:=by simp
 have inv0:HeadInv .any l.toArray n (Array.replicate l.toArray.size false) :=
  ⟨by simp,fun j oj _ hl=>(by rw [getD_replicate_false] at hl; cases hl),fun t _ ht=>getD_in (by simpa using ht) (getD_replicate_false _ _)⟩
 have ho':l.toArray[n]? = some o:=by simpa using ho
 have H:=headQ_lex (P:=P) (C:=C) (md:=.any) (n:=n) hsel hs hl hn (l.take n) 0 _ a (fun j hj=>by
  have hj':j < n:=by rw [htl] at hj; exact hj
  simp [hj']) (by simpa using htl) inv0 (by rw [htl]; exact hlex) h
 refine wp_region_any hm ?_
 have:=headQ_any (Q:=Q) (g:=(l.drop (n + 1)).length + 1) (fun listed a1 w1 hw1 hL=>?_) _ _ _ _ hC H
 · rw [htl,show n + ((l.drop (n + 1)).length + 1) = l.toArray.size by simp; omega] at this
   exact this
 · obtain ⟨hr,hx,hR⟩:=hL
   refine ⟨fun h0=>(by rw [hr] at h0; cases h0),fun i hi=>?_⟩
   rw [hr] at hi
   obtain rfl:=List.mem_singleton.1 hi
   have hk:=hR w1 hw1 (fun e a2 w2=>e = .normal ∧ (∃ D:World → Prop,D w2 ∧ wpQuiet P l.toArray D (fun a3=>∀ w3,D w3 → Q .normal a3 w3) (l.drop (i + 1)) a2)) (fun a2 w2 h2=>⟨rfl,h2⟩)
   have hwant:Region.wanted o (yielded l.toArray a1.tmps) = true:=by simp [Region.wanted,hg]
   simp only [wpList,hwant,if_true] at hk
   unfold wpOp
   simp only [ho',hwant,if_true]
   rcases hk with hk | ⟨_,_,_,hk⟩
   · left
     refine Oper.wp_mono (fun a2 w2 h2=>?_) (wp_turn_exit (Q:=Q) (Oper.wp_mono (fun a2 w2 h2=>h2.2) hk))
     obtain ⟨D,hD,h3⟩:=h2
     refine wpAny_of_quiet (C:=D) (Q:=fun a3=>∀ w3,D w3 → Q .normal a3 w3) (fun _ w3 hw3 h4=>h4 w3 hw3) _ _ _ _ hD ?_
     exact wpAnyQ_lex (C:=D) (md:=.any) hsel (l.drop (i + 1)) (i + 1) _ a2 (fun j=>by simp [List.getElem?_drop]) (by rw [← hsz]; exact hx) h3
   · exact absurd hk.1 (by simp)
end
end Go.Proofs.Ytpcfmafokkffgaa
