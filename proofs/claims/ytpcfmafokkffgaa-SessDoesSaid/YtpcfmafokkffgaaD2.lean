/-
  Walks and laws that the proof stands on, one behind another: RegB Put LawA RefA Args RefB RMay RPut. For every input.
-/
import Derived.Test.YtpcfmafokkffgaaD1
import Derived.StillTailTactics
import Derived.Handy
import Derived.ProofKit
import Derived.Deep.Slices
import Derived.Deep.DeepCutAuto
import Derived.Deep.RegionHeld3
namespace Go.Proofs.Ytpcfmafokkffgaa
open Go.RowKit

theorem all_listed {ops:Array Oper} (hd:ops.toList.map (fun o=>(o.after.toList.filter (Region.binds .any)).map (·.on)) = deps15) {listed:Array Bool} (hs:listed.size = 23) (hr:Region.ready .any ops listed = []):∀ i,i < 23 → listed.getD i false = true:=by
 have hlen:ops.size = 23:=by
  have:=congrArg List.length hd
  simpa [deps15] using this
 have hdl:∀ i,i < 23 → ∀ d ∈ deps15.getD i [],d < i:=by decide
 intro i
 induction i using Nat.strongRecOn with
 | _ i ih =>
  intro hi
  refine Classical.byContradiction fun hne=>?_
  have h1:listed.getD i true = false:=by
   have hlt:i < listed.size:=by omega
   simp only [Array.getD_eq_getD_getElem?,Array.getElem?_eq_getElem hlt,Option.getD_some] at hne ⊢
   simpa using hne
  have hio:i < ops.size:=by omega
  have hmem:i ∈ Region.ready .any ops listed:=mem_ready.2 ⟨h1,ops[i],Array.getElem?_eq_getElem hio,fun e he hb=>by
   have h2:deps15[i]? = some ((ops[i].after.toList.filter (Region.binds .any)).map (·.on)):=by
    rw [← hd,List.getElem?_map,Array.getElem?_toList,Array.getElem?_eq_getElem hio]; rfl
   have h3:e.on ∈ deps15.getD i []:=by
    simp only [List.getD,h2,Option.getD_some,List.mem_map,List.mem_filter]
    exact ⟨e,⟨by simpa using he,hb⟩,rfl⟩
   have h4:=hdl i hi e.on h3
   exact ih e.on h4 (by omega)⟩
  rw [hr] at hmem
  cases hmem

theorem getD_set_other {listed:Array Bool} {i j:Nat} (h:j ≠ i):(listed.setIfInBounds i true).getD j false = listed.getD j false:=by
 simp [Array.getElem?_setIfInBounds_ne (Ne.symm h)]
theorem getD_set_self {listed:Array Bool} {i:Nat} (h:listed.getD i true = false):(listed.setIfInBounds i true).getD i false = true:=by
 have hlt:i < listed.size:=by
  rcases Nat.lt_or_ge i listed.size with h' | h'
  · exact h'
  · simp [Array.getElem?_eq_none h'] at h
 simp [hlt]
theorem getD_false {listed:Array Bool} {i:Nat} (h:listed.getD i true = false):listed.getD i false = false:=by
 cases hl:listed[i]? with
 | none=>simp [hl] at h
 | some x=>simp [hl] at h ⊢; exact h

/-- The world on the way. -/
structure Wd (W:World) (b lb db mb:Nat) (m:Int) (sl:Value) (n:Nat) (xs:List Value) (sd:Value) (nd:Nat) (ds:List Value) (t:T) (d:Int) (x1 x2:Nat) (v1 v2:Value) (c7 c8 c15 c16 c19 c22:Bool) (X:World):Prop where
 pw:PW W b lb db mb m (if c19 then v1 else sl) (if c22 then v2 else sd) (if c8 then v1 else sl) (if c8 then n + 1 else n) (if c8 then xs ++ T.cells t else xs) (if c16 then v2 else sd) (if c16 then nd + 1 else nd) (if c16 then ds ++ [.int .i64 (d + 1)] else ds) X
 n1:c7 = true → c8 = false → W.heap.size ≤ x1 ∧ X.heap[x1]? = some (.cells (T.cells t).toArray 47 (0,0))
 n2:c15 = true → c16 = false → W.heap.size ≤ x2 ∧ X.heap[x2]? = some (.cells #[.int .i64 (d + 1)] 3 (0,0))

theorem PW.store0 {W X:World} {b lb db mb:Nat} {m:Int} {h0 h1 vl:Value} {nl:Nat} {xs:List Value} {vd:Value} {nd:Nat} {ds:List Value} (h:PW W b lb db mb m h0 h1 vl nl xs vd nd ds X) (u:Value) :
 PW W b lb db mb m u h1 vl nl xs vd nd ds (X.setCell ⟨b,0,none⟩ u):=by
 have hk:∀ k,k ≠ b → (X.setCell ⟨b,0,none⟩ u).heap[k]? = X.heap[k]?:=fun k hk=>Below.heap_setCell _ _ _ _ hk
 refine ⟨?_,own_keep h.ol fun g e=>hk g (h.bl g e).1,own_keep h.od fun g e=>hk g (h.bd g e).1,h.bl,h.bd,h.ld,h.lts,fun k k0 k1 k2 k3=>(hk k k1).trans (h.old k k0 k1 k2 k3),h.os,h.tape,h.output,by simpa using h.size⟩
 simp only [World.setCell,Array.getElem?_modify,h.hdr]
 simp
theorem PW.store1 {W X:World} {b lb db mb:Nat} {m:Int} {h0 h1 vl:Value} {nl:Nat} {xs:List Value} {vd:Value} {nd:Nat} {ds:List Value} (h:PW W b lb db mb m h0 h1 vl nl xs vd nd ds X) (u:Value) :
 PW W b lb db mb m h0 u vl nl xs vd nd ds (X.setCell ⟨b,1,none⟩ u):=by
 have hk:∀ k,k ≠ b → (X.setCell ⟨b,1,none⟩ u).heap[k]? = X.heap[k]?:=fun k hk=>Below.heap_setCell _ _ _ _ hk
 refine ⟨?_,own_keep h.ol fun g e=>hk g (h.bl g e).1,own_keep h.od fun g e=>hk g (h.bd g e).1,h.bl,h.bd,h.ld,h.lts,fun k k0 k1 k2 k3=>(hk k k1).trans (h.old k k0 k1 k2 k3),h.os,h.tape,h.output,by simpa using h.size⟩
 simp only [World.setCell,Array.getElem?_modify,h.hdr]
 simp

def I15 (W:World) (b lb db mb:Nat) (m:Int) (sl:Value) (n:Nat) (xs:List Value) (sd:Value) (nd:Nat) (ds:List Value) (t:T) (d:Int) (a0:Act) (listed:Array Bool) (a:Act) (X:World):Prop :=
 listed.size = 23 ∧ (∀ i,i < 23 → listed.getD i false = true → ∀ d ∈ deps15.getD i [],listed.getD d false = true) ∧ ∃ x1 x2 g1 k1 g2 k2,Slots a0 (val15 b sl sd (T.val t) d x1 x2 (.slice (some ⟨g1,0,none⟩) (n + 1) k1) (.slice (some ⟨g2,0,none⟩) (nd + 1) k2)) listed a ∧
  Wd W b lb db mb m sl n xs sd nd ds t d x1 x2 (.slice (some ⟨g1,0,none⟩) (n + 1) k1) (.slice (some ⟨g2,0,none⟩) (nd + 1) k2) (listed.getD 7 false) (listed.getD 8 false) (listed.getD 15 false) (listed.getD 16 false) (listed.getD 19 false) (listed.getD 22 false) X

set_option maxHeartbeats 1000000 in
theorem region15 {ops:Array Oper} (hc:ops.toList.map (fun o=>(o.dst,o.op,o.guard)) = core15) (hd:ops.toList.map (fun o=>(o.after.toList.filter (Region.binds .any)).map (·.on)) = deps15) {id:Nat} {Q:Exit → Act → World → Prop} {a0:Act} {W:World}
 {b lb db mb B lc dc:Nat} {m:Int} {n nd:Nat} {xs ds:List Value} {t:T} {d:Int} (hs:76 < a0.tmps.size) (e0:a0.eval (.tmp 0) = .pointer (some ⟨b,0,none⟩)) (e3:a0.eval (.tmp 3) = .pointer (some ⟨B,0,none⟩)) (e8:a0.eval (.tmp 8) = .int .i64 d)
 (hP:PW W b lb db mb m (.slice (some ⟨lb,0,none⟩) n lc) (.slice (some ⟨db,0,none⟩) nd dc) (.slice (some ⟨lb,0,none⟩) n lc) n xs (.slice (some ⟨db,0,none⟩) nd dc) nd ds W) (hbox:W.heap[B]? = some (.cells (T.cells t).toArray 47 (0,0)))
 (hB:B ≠ b ∧ B ≠ lb ∧ B ≠ db) (hn:n ≤ 1048577) (hnd:nd ≤ 1048577) (d0:0 ≤ d) (d1:d ≤ 1048577)
 (hQ:∀ a' X g1 k1 g2 k2,a'.tmps.size = a0.tmps.size → a'.defers = a0.defers → (∀ t:Nat,(t < 56 ∨ 76 < t) → a'.eval (.tmp t) = a0.eval (.tmp t)) →
  PW W b lb db mb m (.slice (some ⟨g1,0,none⟩) (n + 1) k1) (.slice (some ⟨g2,0,none⟩) (nd + 1) k2) (.slice (some ⟨g1,0,none⟩) (n + 1) k1) (n + 1) (xs ++ T.cells t) (.slice (some ⟨g2,0,none⟩) (nd + 1) k2) (nd + 1) (ds ++ [.int .i64 (d + 1)]) X → Q .normal a' X) :
 (Code.region id ops true).wp Try.prog Q a0 W:=by
 have hlen:ops.size = 23:=by
  have:=congrArg List.length hd
  simpa [deps15] using this
 refine wp_region_inv (I15 W b lb db mb m (.slice (some ⟨lb,0,none⟩) n lc) n xs (.slice (some ⟨db,0,none⟩) nd dc) nd ds t d) (by kernel_rfl) ?_ ?_ ?_
 · refine ⟨by simp [hlen],fun i _ h=>?_,0,0,0,0,0,0,⟨rfl,rfl,fun _ _=>rfl,fun i d h _=>?_⟩,?_⟩
   · rw [hlen] at h
     simp only [Array.getD_eq_getD_getElem?,Array.getElem?_replicate] at h
     split at h <;> simp at h
   · rw [hlen] at h
     simp only [Array.getD_eq_getD_getElem?,Array.getElem?_replicate] at h
     split at h <;> simp at h
   · rw [hlen]
     exact ⟨hP.drew,fun h=>by simp at h,fun h=>by simp at h⟩
 · intro listed a X ⟨hsz,hcl,x1,x2,g1,k1,g2,k2,hS,hW⟩ i hi
   obtain ⟨hu,o,ho,_⟩:=mem_ready.1 hi
   have hi23:i < 23:=by have:=(Array.getElem?_eq_some_iff.1 ho).1; omega
   have hcore:=op_core hc ho
   have hsz':(listed.setIfInBounds i true).size = 23:=by simpa using hsz
   have hself:=getD_set_self hu
   have hf:=getD_false hu
   have hBX:X.heap[B]? = some (.cells (T.cells t).toArray 47 (0,0)):=(hW.pw.old B (Array.getElem?_eq_some_iff.1 hbox).1 hB.1 hB.2.1 hB.2.2).trans hbox
   have E0:a.eval (.tmp 0) = .pointer (some ⟨b,0,none⟩):=(hS.rest 0 (by omega)).trans e0
   have E3:a.eval (.tmp 3) = .pointer (some ⟨B,0,none⟩):=(hS.rest 3 (by omega)).trans e3
   have E8:a.eval (.tmp 8) = .int .i64 d:=(hS.rest 8 (by omega)).trans e8
   have hcl':∀ j,j < 23 → (listed.setIfInBounds i true).getD j false = true → ∀ d ∈ deps15.getD j [],(listed.setIfInBounds i true).getD d false = true:=fun j hj hl d hd'=>by
    have up:∀ d,listed.getD d false = true → (listed.setIfInBounds i true).getD d false = true:=fun d h=>by
     by_cases e:d = i
     · rw [e]; exact hself
     · rw [getD_set_other e]; exact h
    rcases getD_set hl with e | e
    · rw [e] at hd'; exact up d (ready_dep hd d hi hd')
    · exact up d (hcl j hj e d hd')
   have hno:∀ j,j < 23 → i ∈ deps15.getD j [] → listed.getD j false = false:=fun j hj hd'=>by
    cases h:listed.getD j false with
    | false=>rfl
    | true=>have:=hcl j hj h i hd'; rw [hf] at this; cases this
   have hcases:i = 0 ∨ i = 1 ∨ i = 2 ∨ i = 3 ∨ i = 4 ∨ i = 5 ∨ i = 6 ∨ i = 7 ∨ i = 8 ∨ i = 9 ∨ i = 10 ∨ i = 11 ∨ i = 12 ∨ i = 13 ∨ i = 14 ∨ i = 15 ∨ i = 16 ∨ i = 17 ∨ i = 18 ∨ i = 19 ∨ i = 20 ∨ i = 21 ∨ i = 22:=by omega
   rcases hcases with rfl | rfl | rfl | rfl | rfl | rfl | rfl | rfl | rfl | rfl | rfl | rfl | rfl | rfl | rfl | rfl | rfl | rfl | rfl | rfl | rfl | rfl | rfl
   · simp only [core15,List.getElem?_cons_zero,Option.some.injEq,Prod.mk.injEq] at hcore
     obtain ⟨hdst,hop,hg⟩:=hcore
     refine wpOp_plain ho hg.symm ?_
     refine wp_of_run (exec_move hop.symm _ _) ?_
     rw [E0]
     exact ⟨hsz',hcl',x1,x2,g1,k1,g2,k2,hS.step hs (by rw [← hdst]; rfl) (.inr (by simp [val15])) (fun _ _ _=>rfl),by rw [getD_set_other (i:=0) (show 7 ≠ 0 by decide),getD_set_other (i:=0) (show 8 ≠ 0 by decide),getD_set_other (i:=0) (show 15 ≠ 0 by decide),getD_set_other (i:=0) (show 16 ≠ 0 by decide),getD_set_other (i:=0) (show 19 ≠ 0 by decide),getD_set_other (i:=0) (show 22 ≠ 0 by decide)]; exact hW⟩
   · simp only [core15,List.getElem?_cons_succ,List.getElem?_cons_zero,Option.some.injEq,Prod.mk.injEq] at hcore
     obtain ⟨hdst,hop,hg⟩:=hcore
     refine wpOp_plain ho hg.symm ?_
     refine wp_of_run (exec_move hop.symm _ _) ?_
     rw [E0]
     exact ⟨hsz',hcl',x1,x2,g1,k1,g2,k2,hS.step hs (by rw [← hdst]; rfl) (.inr (by simp [val15])) (fun _ _ _=>rfl),by rw [getD_set_other (i:=1) (show 7 ≠ 1 by decide),getD_set_other (i:=1) (show 8 ≠ 1 by decide),getD_set_other (i:=1) (show 15 ≠ 1 by decide),getD_set_other (i:=1) (show 16 ≠ 1 by decide),getD_set_other (i:=1) (show 19 ≠ 1 by decide),getD_set_other (i:=1) (show 22 ≠ 1 by decide)]; exact hW⟩
   · simp only [core15,List.getElem?_cons_succ,List.getElem?_cons_zero,Option.some.injEq,Prod.mk.injEq] at hcore
     obtain ⟨hdst,hop,hg⟩:=hcore
     refine wpOp_plain ho hg.symm ?_
     refine wp_of_run (exec_move hop.symm _ _) ?_
     rw [E0]
     exact ⟨hsz',hcl',x1,x2,g1,k1,g2,k2,hS.step hs (by rw [← hdst]; rfl) (.inr (by simp [val15])) (fun _ _ _=>rfl),by rw [getD_set_other (i:=2) (show 7 ≠ 2 by decide),getD_set_other (i:=2) (show 8 ≠ 2 by decide),getD_set_other (i:=2) (show 15 ≠ 2 by decide),getD_set_other (i:=2) (show 16 ≠ 2 by decide),getD_set_other (i:=2) (show 19 ≠ 2 by decide),getD_set_other (i:=2) (show 22 ≠ 2 by decide)]; exact hW⟩
   · simp only [core15,List.getElem?_cons_succ,List.getElem?_cons_zero,Option.some.injEq,Prod.mk.injEq] at hcore
     obtain ⟨hdst,hop,hg⟩:=hcore
     refine wpOp_plain ho hg.symm ?_
     refine wp_of_run (exec_nil hop.symm (hS.has 2 58 (ready_dep hd 2 hi (by decide)) rfl) _ _) ?_
     exact ⟨hsz',hcl',x1,x2,g1,k1,g2,k2,hS.step hs (by rw [← hdst]; rfl) (.inr (by simp [val15])) (fun _ _ _=>rfl),by rw [getD_set_other (i:=3) (show 7 ≠ 3 by decide),getD_set_other (i:=3) (show 8 ≠ 3 by decide),getD_set_other (i:=3) (show 15 ≠ 3 by decide),getD_set_other (i:=3) (show 16 ≠ 3 by decide),getD_set_other (i:=3) (show 19 ≠ 3 by decide),getD_set_other (i:=3) (show 22 ≠ 3 by decide)]; exact hW⟩
   · simp only [core15,List.getElem?_cons_succ,List.getElem?_cons_zero,Option.some.injEq,Prod.mk.injEq] at hcore
     obtain ⟨hdst,hop,hg⟩:=hcore
     refine wpOp_plain ho hg.symm ?_
     refine wp_of_run (exec_fa0 hop.symm (hS.has 3 59 (ready_dep hd 3 hi (by decide)) rfl) _) ?_
     exact ⟨hsz',hcl',x1,x2,g1,k1,g2,k2,hS.step hs (by rw [← hdst]; rfl) (.inr (by simp [val15])) (fun _ _ _=>rfl),by rw [getD_set_other (i:=4) (show 7 ≠ 4 by decide),getD_set_other (i:=4) (show 8 ≠ 4 by decide),getD_set_other (i:=4) (show 15 ≠ 4 by decide),getD_set_other (i:=4) (show 16 ≠ 4 by decide),getD_set_other (i:=4) (show 19 ≠ 4 by decide),getD_set_other (i:=4) (show 22 ≠ 4 by decide)]; exact hW⟩
   · simp only [core15,List.getElem?_cons_succ,List.getElem?_cons_zero,Option.some.injEq,Prod.mk.injEq] at hcore
     obtain ⟨hdst,hop,hg⟩:=hcore
     refine wpOp_plain ho hg.symm ?_
     have hpw:=hW.pw
     rw [hno 19 (by omega) (by decide)] at hpw
     refine wp_of_run (exec_load_l hop.symm (hS.has 4 60 (ready_dep hd 4 hi (by decide)) rfl) hpw.c0) ?_
     exact ⟨hsz',hcl',x1,x2,g1,k1,g2,k2,hS.step hs (by rw [← hdst]; rfl) (.inr (by simp [val15])) (fun _ _ _=>rfl),by rw [getD_set_other (i:=5) (show 7 ≠ 5 by decide),getD_set_other (i:=5) (show 8 ≠ 5 by decide),getD_set_other (i:=5) (show 15 ≠ 5 by decide),getD_set_other (i:=5) (show 16 ≠ 5 by decide),getD_set_other (i:=5) (show 19 ≠ 5 by decide),getD_set_other (i:=5) (show 22 ≠ 5 by decide)]; exact hW⟩
   · simp only [core15,List.getElem?_cons_succ,List.getElem?_cons_zero,Option.some.injEq,Prod.mk.injEq] at hcore
     obtain ⟨hdst,hop,hg⟩:=hcore
     refine wpOp_plain ho hg.symm ?_
     refine wp_of_run (exec_load_t hop.symm E3 hBX) ?_
     exact ⟨hsz',hcl',x1,x2,g1,k1,g2,k2,hS.step hs (by rw [← hdst]; rfl) (.inr (by simp [val15])) (fun _ _ _=>rfl),by rw [getD_set_other (i:=6) (show 7 ≠ 6 by decide),getD_set_other (i:=6) (show 8 ≠ 6 by decide),getD_set_other (i:=6) (show 15 ≠ 6 by decide),getD_set_other (i:=6) (show 16 ≠ 6 by decide),getD_set_other (i:=6) (show 19 ≠ 6 by decide),getD_set_other (i:=6) (show 22 ≠ 6 by decide)]; exact hW⟩
   · simp only [core15,List.getElem?_cons_succ,List.getElem?_cons_zero,Option.some.injEq,Prod.mk.injEq] at hcore
     obtain ⟨hdst,hop,hg⟩:=hcore
     refine wpOp_plain ho hg.symm ?_
     refine wp_of_run (exec_build_t hop.symm (hS.has 6 62 (ready_dep hd 6 hi (by decide)) rfl)) ?_
     have hpw:=hW.pw
     refine ⟨hsz',hcl',X.heap.size,x2,g1,k1,g2,k2,hS.step hs (by rw [← hdst]; rfl) (.inr (by simp [val15])) (fun j hj _=>by simp [val15,hj]),?_⟩
     rw [getD_set_other (i:=7) (show 8 ≠ 7 by decide),getD_set_other (i:=7) (show 15 ≠ 7 by decide),getD_set_other (i:=7) (show 16 ≠ 7 by decide),getD_set_other (i:=7) (show 19 ≠ 7 by decide),getD_set_other (i:=7) (show 22 ≠ 7 by decide)]
     exact ⟨hpw.alloc _,fun _ _=>⟨hpw.size,heap_at rfl⟩,fun h1 h2=>⟨(hW.n2 h1 h2).1,(Below.heap_alloc _ _ _ (Array.getElem?_eq_some_iff.1 (hW.n2 h1 h2).2).1).trans (hW.n2 h1 h2).2⟩⟩
   · simp only [core15,List.getElem?_cons_succ,List.getElem?_cons_zero,Option.some.injEq,Prod.mk.injEq] at hcore
     obtain ⟨hdst,hop,hg⟩:=hcore
     refine wpOp_plain ho hg.symm ?_
     have hpw:=hW.pw
     rw [hf,hno 19 (by omega) (by decide),hno 16 (by omega) (by decide),hno 22 (by omega) (by decide)] at hpw
     have hn1:=hW.n1 (ready_dep hd 7 hi (by decide)) hf
     have key:=step_l (ops:=ops) (a:=a) (K:=fun a' w'=>I15 W b lb db mb m (.slice (some ⟨lb,0,none⟩) n lc) n xs (.slice (some ⟨db,0,none⟩) nd dc) nd ds t d a0 (listed.setIfInBounds 8 true) a' w') (Q:=Q) (E:=True) hg.symm (.tmp 61) (.tmp 63) hop.symm t x1 hpw (hS.has 5 61 (ready_dep hd 5 hi (by decide)) rfl) (hS.has 7 63 (ready_dep hd 7 hi (by decide)) rfl) hn1.2 hn ?_
     · rw [if_pos (by simp [Region.wanted,← hg])] at key; exact key
     · intro g cap X' hp' hkeep hsize
       refine ⟨hsz',hcl',x1,x2,g,cap,g2,k2,hS.step hs (by rw [← hdst]; rfl) (.inr (by simp [val15])) (fun j hj _=>by simp [val15,hj]),?_⟩
       rw [getD_set_other (i:=8) (show 7 ≠ 8 by decide),getD_set_other (i:=8) (show 15 ≠ 8 by decide),getD_set_other (i:=8) (show 16 ≠ 8 by decide),getD_set_other (i:=8) (show 19 ≠ 8 by decide),getD_set_other (i:=8) (show 22 ≠ 8 by decide),hself,hno 19 (by omega) (by decide),hno 16 (by omega) (by decide),hno 22 (by omega) (by decide)]
       refine ⟨hp',(fun _ h=>by cases h),fun h1 h2=>?_⟩
       have h3:=hW.n2 h1 (hno 16 (by omega) (by decide))
       exact ⟨h3.1,(hkeep x2 (Array.getElem?_eq_some_iff.1 h3.2).1 ⟨h3.1,fun e=>by simp [Value.ownBlock] at e; have:=hP.lts.2.1; omega⟩).trans h3.2⟩
   · simp only [core15,List.getElem?_cons_succ,List.getElem?_cons_zero,Option.some.injEq,Prod.mk.injEq] at hcore
     obtain ⟨hdst,hop,hg⟩:=hcore
     refine wpOp_plain ho hg.symm ?_
     refine wp_of_run (exec_move hop.symm _ _) ?_
     rw [E0]
     exact ⟨hsz',hcl',x1,x2,g1,k1,g2,k2,hS.step hs (by rw [← hdst]; rfl) (.inr (by simp [val15])) (fun _ _ _=>rfl),by rw [getD_set_other (i:=9) (show 7 ≠ 9 by decide),getD_set_other (i:=9) (show 8 ≠ 9 by decide),getD_set_other (i:=9) (show 15 ≠ 9 by decide),getD_set_other (i:=9) (show 16 ≠ 9 by decide),getD_set_other (i:=9) (show 19 ≠ 9 by decide),getD_set_other (i:=9) (show 22 ≠ 9 by decide)]; exact hW⟩
   · simp only [core15,List.getElem?_cons_succ,List.getElem?_cons_zero,Option.some.injEq,Prod.mk.injEq] at hcore
     obtain ⟨hdst,hop,hg⟩:=hcore
     refine wpOp_plain ho hg.symm ?_
     refine wp_of_run (exec_nil hop.symm (hS.has 9 65 (ready_dep hd 9 hi (by decide)) rfl) _ _) ?_
     exact ⟨hsz',hcl',x1,x2,g1,k1,g2,k2,hS.step hs (by rw [← hdst]; rfl) (.inr (by simp [val15])) (fun _ _ _=>rfl),by rw [getD_set_other (i:=10) (show 7 ≠ 10 by decide),getD_set_other (i:=10) (show 8 ≠ 10 by decide),getD_set_other (i:=10) (show 15 ≠ 10 by decide),getD_set_other (i:=10) (show 16 ≠ 10 by decide),getD_set_other (i:=10) (show 19 ≠ 10 by decide),getD_set_other (i:=10) (show 22 ≠ 10 by decide)]; exact hW⟩
   · simp only [core15,List.getElem?_cons_succ,List.getElem?_cons_zero,Option.some.injEq,Prod.mk.injEq] at hcore
     obtain ⟨hdst,hop,hg⟩:=hcore
     refine wpOp_plain ho hg.symm ?_
     refine wp_of_run (exec_fa1 hop.symm (hS.has 10 66 (ready_dep hd 10 hi (by decide)) rfl) _) ?_
     exact ⟨hsz',hcl',x1,x2,g1,k1,g2,k2,hS.step hs (by rw [← hdst]; rfl) (.inr (by simp [val15])) (fun _ _ _=>rfl),by rw [getD_set_other (i:=11) (show 7 ≠ 11 by decide),getD_set_other (i:=11) (show 8 ≠ 11 by decide),getD_set_other (i:=11) (show 15 ≠ 11 by decide),getD_set_other (i:=11) (show 16 ≠ 11 by decide),getD_set_other (i:=11) (show 19 ≠ 11 by decide),getD_set_other (i:=11) (show 22 ≠ 11 by decide)]; exact hW⟩
   · simp only [core15,List.getElem?_cons_succ,List.getElem?_cons_zero,Option.some.injEq,Prod.mk.injEq] at hcore
     obtain ⟨hdst,hop,hg⟩:=hcore
     refine wpOp_plain ho hg.symm ?_
     have hpw:=hW.pw
     rw [hno 22 (by omega) (by decide)] at hpw
     refine wp_of_run (exec_load_d hop.symm (hS.has 11 67 (ready_dep hd 11 hi (by decide)) rfl) hpw.c1) ?_
     exact ⟨hsz',hcl',x1,x2,g1,k1,g2,k2,hS.step hs (by rw [← hdst]; rfl) (.inr (by simp [val15])) (fun _ _ _=>rfl),by rw [getD_set_other (i:=12) (show 7 ≠ 12 by decide),getD_set_other (i:=12) (show 8 ≠ 12 by decide),getD_set_other (i:=12) (show 15 ≠ 12 by decide),getD_set_other (i:=12) (show 16 ≠ 12 by decide),getD_set_other (i:=12) (show 19 ≠ 12 by decide),getD_set_other (i:=12) (show 22 ≠ 12 by decide)]; exact hW⟩
   · simp only [core15,List.getElem?_cons_succ,List.getElem?_cons_zero,Option.some.injEq,Prod.mk.injEq] at hcore
     obtain ⟨hdst,hop,hg⟩:=hcore
     refine wpOp_plain ho hg.symm ?_
     refine wp_of_run (exec_move hop.symm _ _) ?_
     rw [E8]
     exact ⟨hsz',hcl',x1,x2,g1,k1,g2,k2,hS.step hs (by rw [← hdst]; rfl) (.inr (by simp [val15])) (fun _ _ _=>rfl),by rw [getD_set_other (i:=13) (show 7 ≠ 13 by decide),getD_set_other (i:=13) (show 8 ≠ 13 by decide),getD_set_other (i:=13) (show 15 ≠ 13 by decide),getD_set_other (i:=13) (show 16 ≠ 13 by decide),getD_set_other (i:=13) (show 19 ≠ 13 by decide),getD_set_other (i:=13) (show 22 ≠ 13 by decide)]; exact hW⟩
   · simp only [core15,List.getElem?_cons_succ,List.getElem?_cons_zero,Option.some.injEq,Prod.mk.injEq] at hcore
     obtain ⟨hdst,hop,hg⟩:=hcore
     refine wpOp_plain ho hg.symm ?_
     refine wp_of_run (exec_add1 hop.symm (hS.has 13 69 (ready_dep hd 13 hi (by decide)) rfl) rfl d0 d1) ?_
     exact ⟨hsz',hcl',x1,x2,g1,k1,g2,k2,hS.step hs (by rw [← hdst]; rfl) (.inr (by simp [val15])) (fun _ _ _=>rfl),by rw [getD_set_other (i:=14) (show 7 ≠ 14 by decide),getD_set_other (i:=14) (show 8 ≠ 14 by decide),getD_set_other (i:=14) (show 15 ≠ 14 by decide),getD_set_other (i:=14) (show 16 ≠ 14 by decide),getD_set_other (i:=14) (show 19 ≠ 14 by decide),getD_set_other (i:=14) (show 22 ≠ 14 by decide)]; exact hW⟩
   · simp only [core15,List.getElem?_cons_succ,List.getElem?_cons_zero,Option.some.injEq,Prod.mk.injEq] at hcore
     obtain ⟨hdst,hop,hg⟩:=hcore
     refine wpOp_plain ho hg.symm ?_
     refine wp_of_run (exec_build_d hop.symm (hS.has 14 70 (ready_dep hd 14 hi (by decide)) rfl)) ?_
     have hpw:=hW.pw
     refine ⟨hsz',hcl',x1,X.heap.size,g1,k1,g2,k2,hS.step hs (by rw [← hdst]; rfl) (.inr (by simp [val15])) (fun j hj _=>by simp [val15,hj]),?_⟩
     rw [getD_set_other (i:=15) (show 7 ≠ 15 by decide),getD_set_other (i:=15) (show 8 ≠ 15 by decide),getD_set_other (i:=15) (show 16 ≠ 15 by decide),getD_set_other (i:=15) (show 19 ≠ 15 by decide),getD_set_other (i:=15) (show 22 ≠ 15 by decide)]
     exact ⟨hpw.alloc _,fun h1 h2=>⟨(hW.n1 h1 h2).1,(Below.heap_alloc _ _ _ (Array.getElem?_eq_some_iff.1 (hW.n1 h1 h2).2).1).trans (hW.n1 h1 h2).2⟩,fun _ _=>⟨hpw.size,heap_at rfl⟩⟩
   · simp only [core15,List.getElem?_cons_succ,List.getElem?_cons_zero,Option.some.injEq,Prod.mk.injEq] at hcore
     obtain ⟨hdst,hop,hg⟩:=hcore
     refine wpOp_plain ho hg.symm ?_
     have hpw:=hW.pw
     have h8:=ready_dep hd 8 hi (by decide)
     rw [hf,hno 19 (by omega) (by decide),h8,hno 22 (by omega) (by decide)] at hpw
     have hn2:=hW.n2 (ready_dep hd 15 hi (by decide)) hf
     have key:=step_d (ops:=ops) (a:=a) (K:=fun a' w'=>I15 W b lb db mb m (.slice (some ⟨lb,0,none⟩) n lc) n xs (.slice (some ⟨db,0,none⟩) nd dc) nd ds t d a0 (listed.setIfInBounds 16 true) a' w') (Q:=Q) (E:=True) hg.symm (.tmp 68) (.tmp 71) hop.symm (d + 1) x2 hpw (hS.has 12 68 (ready_dep hd 12 hi (by decide)) rfl) (hS.has 15 71 (ready_dep hd 15 hi (by decide)) rfl) hn2.2 hnd ?_
     · rw [if_pos (by simp [Region.wanted,← hg])] at key; exact key
     · intro g cap X' hp' hkeep hsize
       refine ⟨hsz',hcl',x1,x2,g1,k1,g,cap,hS.step hs (by rw [← hdst]; rfl) (.inr (by simp [val15])) (fun j hj _=>by simp [val15,hj]),?_⟩
       rw [getD_set_other (i:=16) (show 7 ≠ 16 by decide),getD_set_other (i:=16) (show 8 ≠ 16 by decide),getD_set_other (i:=16) (show 15 ≠ 16 by decide),getD_set_other (i:=16) (show 19 ≠ 16 by decide),getD_set_other (i:=16) (show 22 ≠ 16 by decide),hself,hno 19 (by omega) (by decide),h8,hno 22 (by omega) (by decide)]
       exact ⟨hp',(fun _ h=>by cases h),(fun _ h=>by cases h)⟩
   · simp only [core15,List.getElem?_cons_succ,List.getElem?_cons_zero,Option.some.injEq,Prod.mk.injEq] at hcore
     obtain ⟨hdst,hop,hg⟩:=hcore
     refine wpOp_plain ho hg.symm ?_
     refine wp_of_run (exec_nil hop.symm (hS.has 0 56 (ready_dep hd 0 hi (by decide)) rfl) _ _) ?_
     exact ⟨hsz',hcl',x1,x2,g1,k1,g2,k2,hS.step hs (by rw [← hdst]; rfl) (.inr (by simp [val15])) (fun _ _ _=>rfl),by rw [getD_set_other (i:=17) (show 7 ≠ 17 by decide),getD_set_other (i:=17) (show 8 ≠ 17 by decide),getD_set_other (i:=17) (show 15 ≠ 17 by decide),getD_set_other (i:=17) (show 16 ≠ 17 by decide),getD_set_other (i:=17) (show 19 ≠ 17 by decide),getD_set_other (i:=17) (show 22 ≠ 17 by decide)]; exact hW⟩
   · simp only [core15,List.getElem?_cons_succ,List.getElem?_cons_zero,Option.some.injEq,Prod.mk.injEq] at hcore
     obtain ⟨hdst,hop,hg⟩:=hcore
     refine wpOp_plain ho hg.symm ?_
     refine wp_of_run (exec_fa0 hop.symm (hS.has 17 73 (ready_dep hd 17 hi (by decide)) rfl) _) ?_
     exact ⟨hsz',hcl',x1,x2,g1,k1,g2,k2,hS.step hs (by rw [← hdst]; rfl) (.inr (by simp [val15])) (fun _ _ _=>rfl),by rw [getD_set_other (i:=18) (show 7 ≠ 18 by decide),getD_set_other (i:=18) (show 8 ≠ 18 by decide),getD_set_other (i:=18) (show 15 ≠ 18 by decide),getD_set_other (i:=18) (show 16 ≠ 18 by decide),getD_set_other (i:=18) (show 19 ≠ 18 by decide),getD_set_other (i:=18) (show 22 ≠ 18 by decide)]; exact hW⟩
   · simp only [core15,List.getElem?_cons_succ,List.getElem?_cons_zero,Option.some.injEq,Prod.mk.injEq] at hcore
     obtain ⟨hdst,hop,hg⟩:=hcore
     refine wpOp_plain ho hg.symm ?_
     have hpw:=hW.pw
     have h8:=ready_dep hd 8 hi (by decide)
     have h16:=ready_dep hd 16 hi (by decide)
     refine wp_of_skip (exec_store_l hop.symm (hS.has 18 74 (ready_dep hd 18 hi (by decide)) rfl) (hS.has 8 64 (ready_dep hd 8 hi (by decide)) rfl) hpw.c0 hpw.f0) ?_
     refine ⟨hsz',hcl',x1,x2,g1,k1,g2,k2,hS.step hs (by rw [← hdst]; rfl) (.inl rfl) (fun _ _ _=>rfl),?_⟩
     rw [getD_set_other (i:=19) (show 7 ≠ 19 by decide),getD_set_other (i:=19) (show 8 ≠ 19 by decide),getD_set_other (i:=19) (show 15 ≠ 19 by decide),getD_set_other (i:=19) (show 16 ≠ 19 by decide),getD_set_other (i:=19) (show 22 ≠ 19 by decide),hself]
     exact ⟨hpw.store0 _,(fun _ h=>by rw [h8] at h; cases h),(fun _ h=>by rw [h16] at h; cases h)⟩
   · simp only [core15,List.getElem?_cons_succ,List.getElem?_cons_zero,Option.some.injEq,Prod.mk.injEq] at hcore
     obtain ⟨hdst,hop,hg⟩:=hcore
     refine wpOp_plain ho hg.symm ?_
     refine wp_of_run (exec_nil hop.symm (hS.has 1 57 (ready_dep hd 1 hi (by decide)) rfl) _ _) ?_
     exact ⟨hsz',hcl',x1,x2,g1,k1,g2,k2,hS.step hs (by rw [← hdst]; rfl) (.inr (by simp [val15])) (fun _ _ _=>rfl),by rw [getD_set_other (i:=20) (show 7 ≠ 20 by decide),getD_set_other (i:=20) (show 8 ≠ 20 by decide),getD_set_other (i:=20) (show 15 ≠ 20 by decide),getD_set_other (i:=20) (show 16 ≠ 20 by decide),getD_set_other (i:=20) (show 19 ≠ 20 by decide),getD_set_other (i:=20) (show 22 ≠ 20 by decide)]; exact hW⟩
   · simp only [core15,List.getElem?_cons_succ,List.getElem?_cons_zero,Option.some.injEq,Prod.mk.injEq] at hcore
     obtain ⟨hdst,hop,hg⟩:=hcore
     refine wpOp_plain ho hg.symm ?_
     refine wp_of_run (exec_fa1 hop.symm (hS.has 20 75 (ready_dep hd 20 hi (by decide)) rfl) _) ?_
     exact ⟨hsz',hcl',x1,x2,g1,k1,g2,k2,hS.step hs (by rw [← hdst]; rfl) (.inr (by simp [val15])) (fun _ _ _=>rfl),by rw [getD_set_other (i:=21) (show 7 ≠ 21 by decide),getD_set_other (i:=21) (show 8 ≠ 21 by decide),getD_set_other (i:=21) (show 15 ≠ 21 by decide),getD_set_other (i:=21) (show 16 ≠ 21 by decide),getD_set_other (i:=21) (show 19 ≠ 21 by decide),getD_set_other (i:=21) (show 22 ≠ 21 by decide)]; exact hW⟩
   · simp only [core15,List.getElem?_cons_succ,List.getElem?_cons_zero,Option.some.injEq,Prod.mk.injEq] at hcore
     obtain ⟨hdst,hop,hg⟩:=hcore
     refine wpOp_plain ho hg.symm ?_
     have hpw:=hW.pw
     have h8:=ready_dep hd 8 hi (by decide)
     have h16:=ready_dep hd 16 hi (by decide)
     refine wp_of_skip (exec_store_d hop.symm (hS.has 21 76 (ready_dep hd 21 hi (by decide)) rfl) (hS.has 16 72 (ready_dep hd 16 hi (by decide)) rfl) hpw.c1 hpw.f1) ?_
     refine ⟨hsz',hcl',x1,x2,g1,k1,g2,k2,hS.step hs (by rw [← hdst]; rfl) (.inl rfl) (fun _ _ _=>rfl),?_⟩
     rw [getD_set_other (i:=22) (show 7 ≠ 22 by decide),getD_set_other (i:=22) (show 8 ≠ 22 by decide),getD_set_other (i:=22) (show 15 ≠ 22 by decide),getD_set_other (i:=22) (show 16 ≠ 22 by decide),getD_set_other (i:=22) (show 19 ≠ 22 by decide),hself]
     exact ⟨hpw.store1 _,(fun _ h=>by rw [h8] at h; cases h),(fun _ h=>by rw [h16] at h; cases h)⟩
 · intro listed a X ⟨hsz,hcl,x1,x2,g1,k1,g2,k2,hS,hW⟩ hr
   have hall:=all_listed hd hsz hr
   have hpw:=hW.pw
   rw [hall 8 (by omega),hall 16 (by omega),hall 19 (by omega),hall 22 (by omega)] at hpw
   exact hQ a X g1 k1 g2 k2 hS.size hS.defers hS.rest hpw
end Go.Proofs.Ytpcfmafokkffgaa
namespace Go.Proofs.Ytpcfmafokkffgaa
open Go.RowKit

set_option maxRecDepth 100000 in
set_option maxHeartbeats 2000000 in
theorem put_no {b:Nat} {L:List T} {m:Int} {lb db mb lc dc:Nat} (k:Int) (s:ByteArray) (n a b' c:Int) {w:World} (h:StoAt w b L m lb db mb lc dc)
 (hm:¬ T.may L.length ⟨k,s,n,a,b',c⟩) :
 Calls Try.prog 24 #[.pointer (some ⟨b,0,none⟩),T.val ⟨k,s,n,a,b',c⟩] w fun e w'=>e = .returned (.tuple #[.int .i64 0,.int .i64 1]) ∧ Below w.heap.size w w':=by
 have Hq:Hid (∀ w',StoAt w' b L m lb db mb lc dc → Calls Try.prog 57 #[.pointer (some ⟨b,0,none⟩),.agg #[.int .i64 k,.string s,.int .u64 n,.int .i64 a,.int .i64 b',.int .i64 c]] w' fun e w'' =>
  e = .returned (.bool false) ∧ Below w'.heap.size w' w''):=hid fun w' h'=>by
  have hq:=may_calls k s n a b' c h'
  rw [decide_eq_false hm] at hq
  exact hq
 have Hs:Hid (∀ o,StoAt (w.alloc o) b L m lb db mb lc dc):=hid fun o=>h.later ((Below.refl _ _).alloc (Nat.le_refl _) _)
 clear h hm
 simp only [T.val]
 go_enter Try.func24,Try.ntmps24
 go_wp2_with fail
 refine (Hq.out _ (Hs.out _)).mono ?_
 rintro e w1 ⟨rfl,hb1⟩
 go_wp2_with fail
 go_ret2
 exact ⟨rfl,((Below.refl _ _).alloc (Nat.le_refl _) _).trans (hb1.mono (by simp <;> omega))⟩

set_option maxRecDepth 100000 in
set_option maxHeartbeats 2000000 in
theorem put_is {b:Nat} {L:List T} {m:Int} {lb db mb lc dc:Nat} (k:Int) (s:ByteArray) (n a b' c:Int) {w:World} (h:StoAt w b L m lb db mb lc dc)
 (hm:T.may L.length ⟨k,s,n,a,b',c⟩) {i:Nat} (hi:find ⟨k,s,n,a,b',c⟩ L = some i) :
 Calls Try.prog 24 #[.pointer (some ⟨b,0,none⟩),T.val ⟨k,s,n,a,b',c⟩] w fun e w'=>e = .returned (.tuple #[.int .i64 ((i:Int) + 1),.int .i64 0]) ∧ Below w.heap.size w w':=by
 have Hq:Hid (∀ w',StoAt w' b L m lb db mb lc dc → Calls Try.prog 57 #[.pointer (some ⟨b,0,none⟩),.agg #[.int .i64 k,.string s,.int .u64 n,.int .i64 a,.int .i64 b',.int .i64 c]] w' fun e w'' =>
  e = .returned (.bool true) ∧ Below w'.heap.size w' w''):=hid fun w' h'=>by
  have hq:=may_calls k s n a b' c h'
  rw [decide_eq_true hm] at hq
  exact hq
 have Hk:Hid (∀ w',StoAt w' b L m lb db mb lc dc → ∀ w'',w''.heap[mb]? = w'.heap[mb]? → (Instr.lookup 116 (.map (some mb)) (.agg #[.int .i64 k,.string s,.int .u64 n,.int .i64 a,.int .i64 b',.int .i64 c]) true).run Try.prog w'' =
  .ok (.tuple #[.int .i64 ((i:Int) + 1),.bool true]) w''):=hid fun w' h' w'' hw=>by
  obtain ⟨es,ck,h1,h2⟩:=h'.hm
  have:=lookup_T ⟨k,s,n,a,b',c⟩ w'' (hw.trans h1) h2
  rw [hi] at this
  exact this
 have Hs:Hid (∀ o,StoAt (w.alloc o) b L m lb db mb lc dc):=hid fun o=>h.later ((Below.refl _ _).alloc (Nat.le_refl _) _)
 clear h hm hi
 simp only [T.val]
 go_enter Try.func24,Try.ntmps24
 go_wp2_with fail
 refine (Hq.out _ (Hs.out _)).mono ?_
 rintro e w1 ⟨rfl,hb1⟩
 have hs1:=(Hs.out _).later hb1
 have hbox:w1.heap[w.heap.size]? = some (.cells #[.int .i64 k,.string s,.int .u64 n,.int .i64 a,.int .i64 b',.int .i64 c] 47):=by rw [hb1.block _ (by simp)]; exact heap_at rfl
 have hbw:Below w.heap.size w w1:=((Below.refl _ _).alloc (Nat.le_refl _) _).trans (hb1.mono (by simp <;> omega))
 clear hb1
 go_wp2_with fail
 have c2:∀ x:Later w1,x.w.cell? ⟨b,2,none⟩ = some (.map (some mb)):=fun x=>x.cell hs1.c2
 have d0:∀ x:Later w1,x.w.cell? ⟨w.heap.size,0,none⟩ = some (.int .i64 k):=fun x=>x.cell (by rw [cell_of_heap hbox]; rfl)
 have d1:∀ x:Later w1,x.w.cell? ⟨w.heap.size,1,none⟩ = some (.string s):=fun x=>x.cell (by rw [cell_of_heap hbox]; rfl)
 have d2:∀ x:Later w1,x.w.cell? ⟨w.heap.size,2,none⟩ = some (.int .u64 n):=fun x=>x.cell (by rw [cell_of_heap hbox]; rfl)
 have d3:∀ x:Later w1,x.w.cell? ⟨w.heap.size,3,none⟩ = some (.int .i64 a):=fun x=>x.cell (by rw [cell_of_heap hbox]; rfl)
 have d4:∀ x:Later w1,x.w.cell? ⟨w.heap.size,4,none⟩ = some (.int .i64 b'):=fun x=>x.cell (by rw [cell_of_heap hbox]; rfl)
 have d5:∀ x:Later w1,x.w.cell? ⟨w.heap.size,5,none⟩ = some (.int .i64 c):=fun x=>x.cell (by rw [cell_of_heap hbox]; rfl)
 have hlk:∀ x:Later w1,(Instr.lookup 116 (.map (some mb)) (.agg #[.int .i64 k,.string s,.int .u64 n,.int .i64 a,.int .i64 b',.int .i64 c]) true).run Try.prog x.w = .ok (.tuple #[.int .i64 ((i:Int) + 1),.bool true]) x.w :=
  fun x=>Hk.out _ hs1 _ (x.below.block _ hs1.mlt)
 have Hbox:=hid hbox
 clear hbox
 refine wp_region_calm (by kernel_rfl) (by kernel_rfl) ?_
 repeat (go_big_quiet_step (fail))
 refine wpQuiet_nil ?_
 intro w3 hw3
 obtain ⟨⟨w3,hb3⟩,rfl⟩:=hw3
 clear c2 d0 d1 d2 d3 d4 d5 hlk
 go_wp2_with fail
 go_ret2
 exact ⟨rfl,hbw.trans (hb3.mono hbw.size)⟩
set_option maxRecDepth 100000 in
set_option maxHeartbeats 2000000 in
theorem put_full {b:Nat} {L:List T} {m:Int} {lb db mb lc dc:Nat} (k:Int) (s:ByteArray) (n a b' c:Int) {w:World} (h:StoAt w b L m lb db mb lc dc)
 (hm:T.may L.length ⟨k,s,n,a,b',c⟩) (hi:find ⟨k,s,n,a,b',c⟩ L = none) (hfull:m ≤ L.length) :
 Calls Try.prog 24 #[.pointer (some ⟨b,0,none⟩),T.val ⟨k,s,n,a,b',c⟩] w fun e w'=>e = .returned (.tuple #[.int .i64 0,.int .i64 4]) ∧ Below w.heap.size w w':=by
 have Hq:Hid (∀ w',StoAt w' b L m lb db mb lc dc → Calls Try.prog 57 #[.pointer (some ⟨b,0,none⟩),.agg #[.int .i64 k,.string s,.int .u64 n,.int .i64 a,.int .i64 b',.int .i64 c]] w' fun e w'' =>
  e = .returned (.bool true) ∧ Below w'.heap.size w' w''):=hid fun w' h'=>by
  have hq:=may_calls k s n a b' c h'
  rw [decide_eq_true hm] at hq
  exact hq
 have Hk:Hid (∀ w',StoAt w' b L m lb db mb lc dc → ∀ w'',w''.heap[mb]? = w'.heap[mb]? → (Instr.lookup 116 (.map (some mb)) (.agg #[.int .i64 k,.string s,.int .u64 n,.int .i64 a,.int .i64 b',.int .i64 c]) true).run Try.prog w'' =
  .ok (.tuple #[.int .i64 0,.bool false]) w''):=hid fun w' h' w'' hw=>by
  obtain ⟨es,ck,h1,h2⟩:=h'.hm
  have:=lookup_T ⟨k,s,n,a,b',c⟩ w'' (hw.trans h1) h2
  rw [hi] at this
  exact this
 have Hs:Hid (∀ o,StoAt (w.alloc o) b L m lb db mb lc dc):=hid fun o=>h.later ((Below.refl _ _).alloc (Nat.le_refl _) _)
 clear h hm hi
 simp only [T.val]
 go_enter Try.func24,Try.ntmps24
 go_wp2_with fail
 refine (Hq.out _ (Hs.out _)).mono ?_
 rintro e w1 ⟨rfl,hb1⟩
 have hs1:=(Hs.out _).later hb1
 have hbox:w1.heap[w.heap.size]? = some (.cells #[.int .i64 k,.string s,.int .u64 n,.int .i64 a,.int .i64 b',.int .i64 c] 47):=by rw [hb1.block _ (by simp)]; exact heap_at rfl
 have hbw:Below w.heap.size w w1:=((Below.refl _ _).alloc (Nat.le_refl _) _).trans (hb1.mono (by simp <;> omega))
 clear hb1
 go_wp2_with fail
 have c2:∀ x:Later w1,x.w.cell? ⟨b,2,none⟩ = some (.map (some mb)):=fun x=>x.cell hs1.c2
 have d0:∀ x:Later w1,x.w.cell? ⟨w.heap.size,0,none⟩ = some (.int .i64 k):=fun x=>x.cell (by rw [cell_of_heap hbox]; rfl)
 have d1:∀ x:Later w1,x.w.cell? ⟨w.heap.size,1,none⟩ = some (.string s):=fun x=>x.cell (by rw [cell_of_heap hbox]; rfl)
 have d2:∀ x:Later w1,x.w.cell? ⟨w.heap.size,2,none⟩ = some (.int .u64 n):=fun x=>x.cell (by rw [cell_of_heap hbox]; rfl)
 have d3:∀ x:Later w1,x.w.cell? ⟨w.heap.size,3,none⟩ = some (.int .i64 a):=fun x=>x.cell (by rw [cell_of_heap hbox]; rfl)
 have d4:∀ x:Later w1,x.w.cell? ⟨w.heap.size,4,none⟩ = some (.int .i64 b'):=fun x=>x.cell (by rw [cell_of_heap hbox]; rfl)
 have d5:∀ x:Later w1,x.w.cell? ⟨w.heap.size,5,none⟩ = some (.int .i64 c):=fun x=>x.cell (by rw [cell_of_heap hbox]; rfl)
 have hlk:∀ x:Later w1,(Instr.lookup 116 (.map (some mb)) (.agg #[.int .i64 k,.string s,.int .u64 n,.int .i64 a,.int .i64 b',.int .i64 c]) true).run Try.prog x.w = .ok (.tuple #[.int .i64 0,.bool false]) x.w :=
  fun x=>Hk.out _ hs1 _ (x.below.block _ hs1.mlt)
 have Hbox:=hid hbox
 clear hbox
 refine wp_region_calm (by kernel_rfl) (by kernel_rfl) ?_
 repeat (go_big_quiet_step (fail))
 refine wpQuiet_nil ?_
 intro w3 hw3
 obtain ⟨⟨w3,hb3⟩,rfl⟩:=hw3
 clear c2 d0 d1 d2 d3 d4 d5 hlk
 go_wp2_with fail
 have hs3:=hs1.later hb3
 have hbw3:=hbw.trans (hb3.mono hbw.size)
 have hd:decide (m ≤ (L.length:Int)) = true:=by simpa using hfull
 have c3:∀ x:Later w3,x.w.cell? ⟨b,3,none⟩ = some (.int .i64 m):=fun x=>x.cell hs3.c3
 have Hs3:Hid (∀ x:Later w3,StoAt x.w b L m lb db mb lc dc):=hid fun x=>hs3.later x.below
 clear hfull hs3
 refine wp_region_calm (by kernel_rfl) (by kernel_rfl) ?_
 repeat (go_big_quiet_step ((go_at_call 18; exact Calls.calm_same (len_calls' (Hs3.out _)))))
 refine wpQuiet_nil ?_
 intro w4 hw4
 obtain ⟨⟨w4,hb4⟩,rfl⟩:=hw4
 clear c3
 go_wp2_with fail
 go_ret2
 exact ⟨rfl,hbw3.trans (hb4.mono hbw3.size)⟩

def patch (f:Nat → Value):Nat → List Value → List Value
 | _,[]=>[]
 | i,v::l=>(if 56 ≤ i ∧ i ≤ 76 then f i else v)::patch f (i + 1) l

theorem patch_get (f:Nat → Value):∀ (l:List Value) (i j:Nat),(patch f i l)[j]? = (l[j]?).map fun v=>if 56 ≤ i + j ∧ i + j ≤ 76 then f (i + j) else v
 | [],i,j=>by simp [patch]
 | v::l,i,0=>by simp [patch]
 | v::l,i,j + 1=>by
  simp only [patch,List.getElem?_cons_succ,patch_get f l (i + 1) j]
  rw [show i + 1 + j = i + (j + 1) from by omega]

theorem act_lit {a a0:Act} (hs:a.tmps.size = a0.tmps.size) (hd:a.defers = a0.defers) (hr:∀ t:Nat,(t < 56 ∨ 76 < t) → a.eval (.tmp t) = a0.eval (.tmp t)) :
 a = { tmps:=(patch (fun i=>a.eval (.tmp i)) 0 a0.tmps.toList).toArray,defers:=a0.defers }:=by
 obtain ⟨t,d⟩:=a
 obtain ⟨t0,d0⟩:=a0
 dsimp only at hs hd
 subst hd
 congr 1
 apply Array.ext_getElem?
 intro i
 simp only [List.getElem?_toArray,patch_get,Nat.zero_add,Array.getElem?_toList]
 by_cases h:i < t.size
 · have h3:i < t0.size:=by omega
   simp only [Array.getElem?_eq_getElem h,Array.getElem?_eq_getElem h3,Option.map_some,Option.some.injEq]
   split
   · simp [Act.eval,h]
   · have:=hr i (by omega)
     simpa [Act.eval,h,h3] using this
 · have h3:¬ i < t0.size:=by omega
   simp [h,h3]

theorem deepest_le {ds:List Int} {n:Int} (h0:0 ≤ n) (h:∀ x ∈ ds,0 ≤ x ∧ x ≤ n) (ps:List Int):0 ≤ deepest ds ps ∧ deepest ds ps ≤ n:=by
 have key:∀ (ps:List Int) (m:Int),0 ≤ m → m ≤ n → 0 ≤ ps.foldl (fun m p=>max m (ds.getD p.toNat 0)) m ∧ ps.foldl (fun m p=>max m (ds.getD p.toNat 0)) m ≤ n:=by
  intro ps
  induction ps with
  | nil=>intro m h1 h2; exact ⟨h1,h2⟩
  | cons p ps ih =>
   intro m h1 h2
   have hd:0 ≤ ds.getD p.toNat 0 ∧ ds.getD p.toNat 0 ≤ n:=by
    by_cases hp:p.toNat < ds.length
    · rw [show ds.getD p.toNat 0 = ds[p.toNat] from by simp [List.getD,List.getElem?_eq_getElem hp]]
      exact h _ (List.getElem_mem hp)
    · rw [show ds.getD p.toNat 0 = 0 from by simp [List.getD,List.getElem?_eq_none (Nat.le_of_not_lt hp)]]
      exact ⟨Int.le_refl _,h0⟩
   exact ih _ (by dsimp only; rw [Int.max_def]; split <;> omega) (by dsimp only; rw [Int.max_def]; split <;> omega)
 exact key ps 0 (Int.le_refl _) h0

theorem depths_range (L:List T):∀ x ∈ depths L,0 ≤ x ∧ x ≤ (L.length:Int):=by
 have key:∀ (n:Nat) (L:List T),L.length = n → ∀ x ∈ depths L,0 ≤ x ∧ x ≤ (L.length:Int):=by
  intro n
  induction n with
  | zero =>
   intro L hL x hx
   obtain rfl:=List.eq_nil_of_length_eq_zero hL
   simp [depths] at hx
   subst hx; simp
  | succ n ih =>
   intro L hL x hx
   obtain ⟨M,t,rfl⟩:∃ M t,L = M ++ [t]:=⟨L.dropLast,L.getLast (by intro e; simp [e] at hL),(List.dropLast_concat_getLast _).symm⟩
   have hM:M.length = n:=by simp at hL; exact hL
   have ihM:=ih M hM
   rw [depths_snoc,List.mem_append,List.mem_singleton] at hx
   simp only [List.length_append,List.length_cons,List.length_nil]
   rcases hx with hx | hx
   · have:=ihM x hx; omega
   · have:=deepest_le (by omega) ihM t.parts
     omega
 exact key _ L rfl

theorem deepest_range {L:List T} (ps:List Int):0 ≤ deepest (depths L) ps ∧ deepest (depths L) ps ≤ L.length:=deepest_le (by omega) (depths_range L) ps

/-- What a put of a new term leaves. -/
def PutPost (b:Nat) (L:List T) (m:Int) (t:T) (f:Frag) (w w':World):Prop :=
 ∃ g:Frag,Sto b (L ++ [t]) m g ∧ FragIn g w' ∧ (∀ k,g k ≠ none → f k ≠ none ∨ w.heap.size ≤ k) ∧ w'.os = w.os ∧ w'.tape = w.tape ∧ w'.output = w.output ∧ w.heap.size ≤ w'.heap.size ∧ (∀ k,k < w.heap.size → f k = none → w'.heap[k]? = w.heap[k]?)

theorem put_end {b lb db mb lc dc ck:Nat} {lcur dcur:Array Value} {es:Array MapEntry} {L:List T} {m:Int} {t:T} {w w5 X:World} {g1 k1 g2 k2:Nat} {dd:Int} (hf:FragIn (stoFrag b lb db mb lc dc ck lcur dcur es (L.length + 1) m) w) (hok:StoOk b lb db mb lc dc lcur dcur es L m)
 (hb:Below w.heap.size w w5) (hX:PW w5 b lb db mb m (.slice (some ⟨g1,0,none⟩) (L.length + 1 + 1) k1) (.slice (some ⟨g2,0,none⟩) (L.length + 1 + 1) k2) (.slice (some ⟨g1,0,none⟩) (L.length + 1 + 1) k1) (L.length + 1 + 1) (cellsOf (zeroT::L) ++ T.cells t)
  (.slice (some ⟨g2,0,none⟩) (L.length + 1 + 1) k2) (L.length + 1 + 1) (ints (depths L) ++ [.int .i64 (dd + 1)]) X) (hm:t.may L.length) (hi:find t L = none) (hlt:(L.length:Int) < m) (hd:deepest (depths L) t.parts = dd) :
 PutPost b L m t (stoFrag b lb db mb lc dc ck lcur dcur es (L.length + 1) m) w (setMap X.drew mb (.map (es.push { key:=T.val t,val:=.int .i64 ((L.length:Int) + 1),born:=ck }) (ck + 1))):=by
 obtain ⟨p1,p2,p3,p4,p5,p6⟩:=hok.apart
 have hmb:mb < w.heap.size:=(Array.getElem?_eq_some_iff.1 (hf mb (.map es ck) (by simp [stoFrag,Ne.symm p3,Ne.symm p5,Ne.symm p6]))).1
 have hs5:=hb.size
 have hsX:=hX.size
 obtain ⟨q1,q2⟩:=hX.bl g1 rfl
 obtain ⟨r1,r2⟩:=hX.bd g2 rfl
 have s1:g1 ≠ g2:=fun e=>hX.ld g1 rfl (by rw [e]; rfl)
 have hg1:g1 ≠ mb:=by rcases q2 with e | e <;> omega
 have hg2:g2 ≠ mb:=by rcases r2 with e | e <;> omega
 obtain ⟨ol1,ol2⟩:=hX.ol
 obtain ⟨od1,od2⟩:=hX.od
 rcases ol2 with ⟨h,_⟩ | ⟨g1',k1',lcur',hv1,_,hl2,hl3,hl4,hl5,hl6⟩
 · cases h
 rcases od2 with ⟨h,_⟩ | ⟨g2',k2',dcur',hv2,_,hd2,hd3,hd4,hd5,hd6⟩
 · cases h
 obtain ⟨rfl,rfl⟩:g1' = g1 ∧ k1' = k1:=by simp at hv1; exact ⟨hv1.1.symm,hv1.2.symm⟩
 obtain ⟨rfl,rfl⟩:g2' = g2 ∧ k2' = k2:=by simp at hv2; exact ⟨hv2.1.symm,hv2.2.symm⟩
 have hne:∀ (o:Obj) (k:Nat),k ≠ mb → (setMap X.drew mb o).heap[k]? = X.heap[k]?:=fun o k hk=>by
  simp only [setMap,heap_drew,Array.getElem?_setIfInBounds_ne (Ne.symm hk)]
 have hat:∀ (o:Obj),(setMap X.drew mb o).heap[mb]? = some o:=fun o=>by
  simp only [setMap,heap_drew]
  exact Array.getElem?_setIfInBounds_self_of_lt (by omega)
 have hsz:∀ (o:Obj),(setMap X.drew mb o).heap.size = X.heap.size:=fun o=>by simp [setMap,heap_drew]
 refine ⟨stoFrag b g1' g2' mb k1' k2' (ck + 1) lcur' dcur' (es.push { key:=T.val t,val:=.int .i64 ((L.length:Int) + 1),born:=ck }) (L.length + 1 + 1) m,
  ⟨g1',g2',mb,k1',k2',ck + 1,lcur',dcur',es.push { key:=T.val t,val:=.int .i64 ((L.length:Int) + 1),born:=ck },by simp,?_⟩,stoFrag_in ?_ ?_ ?_ (hat _),fun k hk=>?_,hX.os.trans hb.os,hX.tape.trans hb.tape,hX.output.trans hb.output,by rw [hsz]; omega,fun k hk hfk=>?_⟩
 · refine ⟨hok.good.snoc hm (find_none.1 hi),hok.m0,hok.m1,by simp; omega,⟨Ne.symm q1,Ne.symm r1,p3,s1,hg1,hg2⟩,hl5,by simpa using hl3,hl4,?_,by simpa using hd5,by simpa using hd3,hd4,?_,names_push hok.names⟩
   · rw [show (L ++ [t]).length + 1 = L.length + 1 + 1 from by simp,hl6]
     simp [cellsOf]
   · rw [show (L ++ [t]).length + 1 = L.length + 1 + 1 from by simp]
     have:dcur'.toList.take (L.length + 1 + 1) = ints (depths L) ++ [.int .i64 (dd + 1)]:=by simpa using hd6
     rw [this,depths_snoc,hd]
     simp [ints]
 · rw [hne _ _ p3]; exact hX.hdr
 · rw [hne _ _ hg1]; exact hl2
 · rw [hne _ _ hg2]; exact hd2
 · rcases stoFrag_at hk with rfl | rfl | rfl | rfl
   · left; simp [stoFrag]
   · rcases q2 with rfl | e
     · left; simp [stoFrag,Ne.symm p1]
     · right; omega
   · rcases r2 with rfl | e
     · left; simp [stoFrag,Ne.symm p2,Ne.symm p4]
     · right; omega
   · left; simp [stoFrag,Ne.symm p3,Ne.symm p5,Ne.symm p6]
 · have hk1:k ≠ b:=fun e=>by subst e; simp [stoFrag] at hfk
   have hk2:k ≠ lb:=fun e=>by subst e; simp [stoFrag,Ne.symm p1] at hfk
   have hk3:k ≠ db:=fun e=>by subst e; simp [stoFrag,Ne.symm p2,Ne.symm p4] at hfk
   have hk4:k ≠ mb:=fun e=>by subst e; simp [stoFrag,Ne.symm p3,Ne.symm p5,Ne.symm p6] at hfk
   rw [hne _ _ hk4,hX.old k (by omega) hk1 hk2 hk3,hb.block k hk]

set_option maxRecDepth 100000 in
set_option maxHeartbeats 2000000 in
theorem put_new {b:Nat} {L:List T} {m:Int} {lb db mb lc dc ck:Nat} {lcur dcur:Array Value} {es:Array MapEntry} (k:Int) (s:ByteArray) (n a b' c:Int) {w:World} (hfr:FragIn (stoFrag b lb db mb lc dc ck lcur dcur es (L.length + 1) m) w)
 (hok:StoOk b lb db mb lc dc lcur dcur es L m)
 (hm:T.may L.length ⟨k,s,n,a,b',c⟩) (hi:find ⟨k,s,n,a,b',c⟩ L = none) (hfull:L.length < m) :
 Calls Try.prog 24 #[.pointer (some ⟨b,0,none⟩),T.val ⟨k,s,n,a,b',c⟩] w fun e w'=>e = .returned (.tuple #[.int .i64 (L.length + 1),.int .i64 0]) ∧ PutPost b L m ⟨k,s,n,a,b',c⟩ (stoFrag b lb db mb lc dc ck lcur dcur es (L.length + 1) m) w w':=by
 have h:=stoAt_of hfr hok
 have hs1lt:b < w.heap.size ∧ lb < w.heap.size ∧ db < w.heap.size:=⟨h.lt,h.llt,h.dlt⟩
 have Hfr:=hid hfr
 have Hok:=hid hok
 clear hfr hok
 have Hq:Hid (∀ w',StoAt w' b L m lb db mb lc dc → Calls Try.prog 57 #[.pointer (some ⟨b,0,none⟩),.agg #[.int .i64 k,.string s,.int .u64 n,.int .i64 a,.int .i64 b',.int .i64 c]] w' fun e w'' =>
  e = .returned (.bool true) ∧ Below w'.heap.size w' w''):=hid fun w' h'=>by
  have hq:=may_calls k s n a b' c h'
  rw [decide_eq_true hm] at hq
  exact hq
 have Hk:Hid (∀ w',StoAt w' b L m lb db mb lc dc → ∀ w'',w''.heap[mb]? = w'.heap[mb]? → (Instr.lookup 116 (.map (some mb)) (.agg #[.int .i64 k,.string s,.int .u64 n,.int .i64 a,.int .i64 b',.int .i64 c]) true).run Try.prog w'' =
  .ok (.tuple #[.int .i64 0,.bool false]) w''):=hid fun w' h' w'' hw=>by
  obtain ⟨es,ck,h1,h2⟩:=h'.hm
  have:=lookup_T ⟨k,s,n,a,b',c⟩ w'' (hw.trans h1) h2
  rw [hi] at this
  exact this
 have Hs:Hid (∀ o,StoAt (w.alloc o) b L m lb db mb lc dc):=hid fun o=>h.later ((Below.refl _ _).alloc (Nat.le_refl _) _)
 have Hm:=hid hm
 have hfull':=hfull
 have hlen':=h.len
 have hmlt:=h.mlt
 have Hi:=hid hi
 have hm1':=h.m1
 clear h hm hi
 simp only [T.val]
 go_enter Try.func24,Try.ntmps24
 go_wp2_with fail
 refine (Hq.out _ (Hs.out _)).mono ?_
 rintro e w1 ⟨rfl,hb1⟩
 have hs1:=(Hs.out _).later hb1
 have hbox:w1.heap[w.heap.size]? = some (.cells #[.int .i64 k,.string s,.int .u64 n,.int .i64 a,.int .i64 b',.int .i64 c] 47):=by rw [hb1.block _ (by simp)]; exact heap_at rfl
 have hbw:Below w.heap.size w w1:=((Below.refl _ _).alloc (Nat.le_refl _) _).trans (hb1.mono (by simp <;> omega))
 clear hb1
 go_wp2_with fail
 have c2:∀ x:Later w1,x.w.cell? ⟨b,2,none⟩ = some (.map (some mb)):=fun x=>x.cell hs1.c2
 have d0:∀ x:Later w1,x.w.cell? ⟨w.heap.size,0,none⟩ = some (.int .i64 k):=fun x=>x.cell (by rw [cell_of_heap hbox]; rfl)
 have d1:∀ x:Later w1,x.w.cell? ⟨w.heap.size,1,none⟩ = some (.string s):=fun x=>x.cell (by rw [cell_of_heap hbox]; rfl)
 have d2:∀ x:Later w1,x.w.cell? ⟨w.heap.size,2,none⟩ = some (.int .u64 n):=fun x=>x.cell (by rw [cell_of_heap hbox]; rfl)
 have d3:∀ x:Later w1,x.w.cell? ⟨w.heap.size,3,none⟩ = some (.int .i64 a):=fun x=>x.cell (by rw [cell_of_heap hbox]; rfl)
 have d4:∀ x:Later w1,x.w.cell? ⟨w.heap.size,4,none⟩ = some (.int .i64 b'):=fun x=>x.cell (by rw [cell_of_heap hbox]; rfl)
 have d5:∀ x:Later w1,x.w.cell? ⟨w.heap.size,5,none⟩ = some (.int .i64 c):=fun x=>x.cell (by rw [cell_of_heap hbox]; rfl)
 have hlk:∀ x:Later w1,(Instr.lookup 116 (.map (some mb)) (.agg #[.int .i64 k,.string s,.int .u64 n,.int .i64 a,.int .i64 b',.int .i64 c]) true).run Try.prog x.w = .ok (.tuple #[.int .i64 0,.bool false]) x.w :=
  fun x=>Hk.out _ hs1 _ (x.below.block _ hs1.mlt)
 have hBlt:w.heap.size < w1.heap.size:=(Array.getElem?_eq_some_iff.1 hbox).1
 have Hbox:=hid hbox
 clear hbox
 refine wp_region_calm (by kernel_rfl) (by kernel_rfl) ?_
 repeat (go_big_quiet_step (fail))
 refine wpQuiet_nil ?_
 intro w3 hw3
 obtain ⟨⟨w3,hb3⟩,rfl⟩:=hw3
 clear c2 d0 d1 d2 d3 d4 d5 hlk
 go_wp2_with fail
 have hs3:=hs1.later hb3
 have hbw3:=hbw.trans (hb3.mono hbw.size)
 have hd:decide (m ≤ (L.length:Int)) = false:=by simp; omega
 have c3:∀ x:Later w3,x.w.cell? ⟨b,3,none⟩ = some (.int .i64 m):=fun x=>x.cell hs3.c3
 have Hs3:Hid (∀ x:Later w3,StoAt x.w b L m lb db mb lc dc):=hid fun x=>hs3.later x.below
 clear hfull hs3
 refine wp_region_calm (by kernel_rfl) (by kernel_rfl) ?_
 repeat (go_big_quiet_step ((go_at_call 18; exact Calls.calm_same (len_calls' (Hs3.out _)))))
 refine wpQuiet_nil ?_
 intro w4 hw4
 obtain ⟨⟨w4,hb4⟩,rfl⟩:=hw4
 clear c3
 have hs4:=Hs3.out ⟨w4,hb4⟩
 have hbw4:=hbw3.trans (hb4.mono hbw3.size)
 have hbox4:w4.heap[w.heap.size]? = some (.cells #[.int .i64 k,.string s,.int .u64 n,.int .i64 a,.int .i64 b',.int .i64 c] 47):=by
  rw [hb4.block _ (by have:=hb3.size; omega),hb3.block _ hBlt]; exact Hbox.out
 have e0:w4.cell? ⟨w.heap.size,0,none⟩ = some (.int .i64 k):=by rw [cell_of_heap hbox4]; rfl
 have e1:w4.cell? ⟨w.heap.size,1,none⟩ = some (.string s):=by rw [cell_of_heap hbox4]; rfl
 have e2:w4.cell? ⟨w.heap.size,2,none⟩ = some (.int .u64 n):=by rw [cell_of_heap hbox4]; rfl
 have e3:w4.cell? ⟨w.heap.size,3,none⟩ = some (.int .i64 a):=by rw [cell_of_heap hbox4]; rfl
 have e4:w4.cell? ⟨w.heap.size,4,none⟩ = some (.int .i64 b'):=by rw [cell_of_heap hbox4]; rfl
 have e5:w4.cell? ⟨w.heap.size,5,none⟩ = some (.int .i64 c):=by rw [cell_of_heap hbox4]; rfl
 clear hs1 Hs3
 go_wp2_with fail
 refine (parts_calls k s n a b' c _).mono ?_
 rintro e w5 ⟨ad,rfl,hb5,hl⟩
 have hs5:=hs4.later hb5
 have hbw5:=hbw4.trans (hb5.mono hbw4.size)
 have hbox5:w5.heap[w.heap.size]? = some (.cells #[.int .i64 k,.string s,.int .u64 n,.int .i64 a,.int .i64 b',.int .i64 c] 47):=by rw [hb5.block _ (by have:=(Array.getElem?_eq_some_iff.1 hbox4).1; omega)]; exact hbox4
 clear e0 e1 e2 e3 e4 e5 hbox4 hs4
 have hpl:(T.parts ⟨k,s,n,a,b',c⟩).length = many k:=parts_length _
 have hpi:∀ j,j < many k → 1 ≤ (T.parts ⟨k,s,n,a,b',c⟩).getD j 0 ∧ (T.parts ⟨k,s,n,a,b',c⟩).getD j 0 ≤ L.length:=fun j hj=>by
  refine Hm.out.2.2.2.2.2 _ ?_
  rw [← hpl] at hj
  rw [show (T.parts ⟨k,s,n,a,b',c⟩).getD j 0 = (T.parts ⟨k,s,n,a,b',c⟩)[j] from by simp [List.getD,List.getElem?_eq_getElem hj]]
  exact List.getElem_mem hj
 go_wp2_with fail
 have hm3:=many_le k
 generalize hps:T.parts ⟨k,s,n,a,b',c⟩ = ps at *
 have Hpl:=hid hpl
 have Hpi:=hid hpi
 have Hps:=hid hps
 clear hpl hpi hps
 generalize many k = q at *
 have c1:=hs5.c1
 have c0:=hs5.c0
 go_loop [8,37] (fun d i=>∃ j:Nat,j ≤ q ∧ i = .int .i64 j ∧ d = .int .i64 (deepest (depths L) (ps.take j))) (fun _ i=>q - (intOf i).toNat)
 case atStart=>exact ⟨0,Nat.zero_le _,rfl,by simp [deepest]⟩
 case round =>
  obtain ⟨j,hj,rfl,rfl⟩:=hrel
  by_cases hlt:j < q
  · have hlen:j < ps.length:=by rw [Hpl.out]; exact hlt
    obtain ⟨g,rfl,hc⟩:∃ g,ad = some ⟨g,0,none⟩ ∧ w5.cell? ⟨g,j,none⟩ = some (.int .i64 (ps.getD j 0)):=by
     rcases hl with ⟨h,_⟩ | ⟨g,h1,_,h2⟩
     · rw [h] at hlen; simp at hlen
     · exact ⟨g,h1,ints_cell h2 hlen⟩
    have hpj:=Hpi.out j hlt
    have hcd:w5.cell? ⟨db,(ps.getD j 0).toNat,none⟩ = some (.int .i64 ((depths L).getD (ps.getD j 0).toNat 0)):=hs5.cd _ (by omega)
    have Hst:Hid (deepest (depths L) (ps.take (j + 1)) = max (deepest (depths L) (ps.take j)) ((depths L).getD (ps.getD j 0).toNat 0)):=hid (by
     rw [List.take_succ_eq_append_getElem hlen]
     simp only [deepest,List.foldl_append,List.foldl_cons,List.foldl_nil]
     rw [show ps.getD j 0 = ps[j] from by simp [List.getD,List.getElem?_eq_getElem hlen]])
    clear hl
    generalize ps.getD j 0 = p at *
    generalize (depths L).getD p.toNat 0 = dp at *
    have hj64:(j:Int) ≤ 3:=by omega
    go_wp2_with fail
    go_round
    case rel=>exact ⟨j + 1,by omega,by go_num,by rw [Hst.out,Int.max_def]; congr 1; split <;> split <;> omega⟩
    case measure=>simp [intOf]; omega
  · obtain rfl:j = q:=by omega
    have Htk:Hid (ps.take j = ps):=hid (List.take_of_length_le (by rw [Hpl.out]; omega))
    rw [Htk.out]
    clear hj hlt hl
    go_wp2_with fail
    have hP0:PW w5 b lb db mb m (.slice (some ⟨lb,0,none⟩) (L.length + 1) lc) (.slice (some ⟨db,0,none⟩) (L.length + 1) dc) (.slice (some ⟨lb,0,none⟩) (L.length + 1) lc) (L.length + 1) (cellsOf (zeroT::L))
     (.slice (some ⟨db,0,none⟩) (L.length + 1) dc) (L.length + 1) (ints (depths L)) w5:=pw_start (fragIn_later Hfr.out hbw5) Hok.out
    have hB5:w.heap.size < w5.heap.size:=(Array.getElem?_eq_some_iff.1 hbox5).1
    have hdd:=deepest_range (L:=L) ps
    generalize hddd:deepest (depths L) ps = dd at *
    have Hdd:=hid hddd
    clear hddd
    have hL:L.length ≤ 1048576:=by omega
    have hBn:w.heap.size ≠ b ∧ w.heap.size ≠ lb ∧ w.heap.size ≠ db:=⟨by have:=Hok.out; have:=hs1lt.1; omega,by have:=hs1lt.2.1; omega,by have:=hs1lt.2.2; omega⟩
    refine region15 (t:=⟨k,s,n,a,b',c⟩) (by kernel_rfl) (by kernel_rfl) (by simp) rfl rfl rfl hP0 hbox5 hBn (by omega) (by omega) (by omega) (by omega) ?_
    intro a' X g1 k1 g2 k2 z1 z2 z3 hX
    rw [act_lit z1 z2 z3]
    clear z1 z2 z3
    simp only [patch,Nat.reduceAdd,Nat.reduceLeDiff,and_self,and_true,and_false,if_true,if_false]
    generalize a'.eval (.tmp 56) = y56; generalize a'.eval (.tmp 57) = y57; generalize a'.eval (.tmp 58) = y58; generalize a'.eval (.tmp 59) = y59; generalize a'.eval (.tmp 60) = y60; generalize a'.eval (.tmp 61) = y61; generalize a'.eval (.tmp 62) = y62
    generalize a'.eval (.tmp 63) = y63; generalize a'.eval (.tmp 64) = y64; generalize a'.eval (.tmp 65) = y65; generalize a'.eval (.tmp 66) = y66; generalize a'.eval (.tmp 67) = y67; generalize a'.eval (.tmp 68) = y68; generalize a'.eval (.tmp 69) = y69
    generalize a'.eval (.tmp 70) = y70; generalize a'.eval (.tmp 71) = y71; generalize a'.eval (.tmp 72) = y72; generalize a'.eval (.tmp 73) = y73; generalize a'.eval (.tmp 74) = y74; generalize a'.eval (.tmp 75) = y75; generalize a'.eval (.tmp 76) = y76
    have hboxX:X.heap[w.heap.size]? = some (.cells (T.cells ⟨k,s,n,a,b',c⟩).toArray 47 (0,0)):=(hX.old _ hB5 hBn.1 hBn.2.1 hBn.2.2).trans hbox5
    have hmX:X.heap[mb]? = some (.map es ck):=by
     obtain ⟨p1,p2,p3,p4,p5,p6⟩:=Hok.out.apart
     rw [hX.old mb (by have:=hbw5.size; omega) (Ne.symm p3) (Ne.symm p5) (Ne.symm p6),hbw5.block mb hmlt]
     exact Hfr.out mb _ (by simp [stoFrag,Ne.symm p3,Ne.symm p5,Ne.symm p6])
    have hmu:=mapUpdate_T ⟨k,s,n,a,b',c⟩ ((L.length:Int) + 1) X.drew hmX Hok.out.names Hi.out
    have q0:X.cell? ⟨w.heap.size,0,none⟩ = some (.int .i64 k):=by rw [cell_of_heap hboxX]; rfl
    have q1:X.cell? ⟨w.heap.size,1,none⟩ = some (.string s):=by rw [cell_of_heap hboxX]; rfl
    have q2:X.cell? ⟨w.heap.size,2,none⟩ = some (.int .u64 n):=by rw [cell_of_heap hboxX]; rfl
    have q3:X.cell? ⟨w.heap.size,3,none⟩ = some (.int .i64 a):=by rw [cell_of_heap hboxX]; rfl
    have q4:X.cell? ⟨w.heap.size,4,none⟩ = some (.int .i64 b'):=by rw [cell_of_heap hboxX]; rfl
    have q5:X.cell? ⟨w.heap.size,5,none⟩ = some (.int .i64 c):=by rw [cell_of_heap hboxX]; rfl
    have qm:X.cell? ⟨b,2,none⟩ = some (.map (some mb)):=by rw [cell_of_heap hX.hdr]; rfl
    simp only [T.val] at hmu
    have HX:=hid hX
    clear hX hboxX hmX hP0 hbox5
    go_wp2_with fail
    go_still_tail 6,(by kernel_rfl)
    change wpList _ _ _ _ _ X.drew
    go_wp2_with fail
    go_ret2
    refine ⟨rfl,?_⟩
    have hfin:=put_end (t:=⟨k,s,n,a,b',c⟩) Hfr.out Hok.out hbw5 HX.out Hm.out Hi.out hfull' (by rw [Hps.out]; exact Hdd.out)
    exact hfin

/-- PUT: what it answers, and what the store then is. -/
theorem put_calls {W w:World} {Rs:List Res} {b:Nat} {L:List T} {m:Int} (k:Int) (s:ByteArray) (n a b' c:Int) (h:Hd W w (Sto b L m::Rs)) :
 Calls Try.prog 24 #[.pointer (some ⟨b,0,none⟩),T.val ⟨k,s,n,a,b',c⟩] w fun e w' =>
  e = .returned (.tuple #[.int .i64 (put m L ⟨k,s,n,a,b',c⟩).1,.int .i64 (put m L ⟨k,s,n,a,b',c⟩).2.1]) ∧ Hd W w' (Sto b (put m L ⟨k,s,n,a,b',c⟩).2.2 m::Rs):=by
 obtain ⟨lb,db,mb,lc,dc,hat⟩:=h.sto
 by_cases hm:T.may L.length ⟨k,s,n,a,b',c⟩
 case neg =>
  have e:put m L ⟨k,s,n,a,b',c⟩ = (0,1,L):=by unfold put; rw [if_neg hm]
  rw [e]
  exact (put_no k s n a b' c hat hm).mono fun _ _ ⟨h1,h2⟩=>⟨h1,h.still h2⟩
 cases hi:find ⟨k,s,n,a,b',c⟩ L with
 | some i =>
  have e:put m L ⟨k,s,n,a,b',c⟩ = ((i:Int) + 1,0,L):=by unfold put; rw [if_pos hm,hi]
  rw [e]
  exact (put_is k s n a b' c hat hm hi).mono fun _ _ ⟨h1,h2⟩=>⟨h1,h.still h2⟩
 | none =>
  by_cases hfull:m ≤ L.length
  · have e:put m L ⟨k,s,n,a,b',c⟩ = (0,4,L):=by unfold put; rw [if_pos hm,hi]; simp [hfull]
    rw [e]
    exact (put_full k s n a b' c hat hm hi hfull).mono fun _ _ ⟨h1,h2⟩=>⟨h1,h.still h2⟩
  · have e:put m L ⟨k,s,n,a,b',c⟩ = ((L.length:Int) + 1,0,L ++ [⟨k,s,n,a,b',c⟩]):=by unfold put; rw [if_pos hm,hi]; simp [hfull]
    rw [e]
    obtain ⟨f,⟨lb,db,mb,lc,dc,ck,lcur,dcur,es,rfl,hok⟩,hf,_,hclose⟩:=h.open
    refine (put_new k s n a b' c hf hok hm hi (by omega)).mono fun _ w' ⟨h1,g,hg,hgi,hgn,g1,g2,g3,g4,g5⟩=>⟨h1,?_⟩
    exact hclose w' _ g hg hgi hgn g1 g2 g3 g4 g5
end Go.Proofs.Ytpcfmafokkffgaa
namespace Go.Proofs.Ytpcfmafokkffgaa
open Go.RowKit

/-- So many ints lie there. -/
def IntsAt (w:World) (a:Option Addr) (xs:List Int):Prop :=
 xs = [] ∨ ∃ g o,a = some ⟨g,o,none⟩ ∧ ∀ j,j < xs.length → w.cell? ⟨g,o + j,none⟩ = some (.int .i64 (xs.getD j 0))

theorem list_ne {xs ys:List Int} (_hl:xs.length = ys.length) {j:Nat} (_hj:j < xs.length) (h:xs.getD j 0 ≠ ys.getD j 0):xs ≠ ys:=fun e=>h (by rw [e])
theorem list_eq {xs ys:List Int} (hl:xs.length = ys.length) (h:∀ j,j < xs.length → xs.getD j 0 = ys.getD j 0):xs = ys:=by
 refine List.ext_getElem hl fun i h1 h2=>?_
 have:=h i h1
 simpa [List.getD,List.getElem?_eq_getElem h1,List.getElem?_eq_getElem h2] using this

theorem ret_bool {a b:Bool} (h:a = b):Ending.returned (.bool a) = .returned (.bool b):=by rw [h]

set_option maxHeartbeats 1000000 in
theorem same_calls {xs ys:List Int} {a1 a2:Option Addr} {n1 c1 n2 c2:Nat} {w:World} (h1:IntsAt w a1 xs) (h2:IntsAt w a2 ys) (e1:n1 = xs.length) (e2:n2 = ys.length) (hm1:n1 ≤ 4611686018427387904) (hm2:n2 ≤ 4611686018427387904) :
 Calls Try.prog 31 #[.slice a1 n1 c1,.slice a2 n2 c2] w fun e w'=>e = .returned (.bool (decide (xs = ys))) ∧ Below w.heap.size w w':=by
 have E1:=hid e1
 have E2:=hid e2
 clear e1 e2
 by_cases hl:n1 = n2
 case neg =>
  have hne:((n1:Int) != (n2:Int)) = true:=by rw [bne_iff_ne]; omega
  have hf:decide (xs = ys) = false:=decide_eq_false fun e=>hl (by rw [E1.out,E2.out,e])
  rw [hf]
  go_enter Try.func31,Try.ntmps31
  go_wp2
  go_ret
  exact ⟨rfl,Below.refl _ _⟩
 obtain rfl:=hl
 have hne:((n1:Int) != (n1:Int)) = false:=by simp
 go_enter Try.func31,Try.ntmps31
 go_wp2_with fail
 go_loopw [5] (fun i wr=>∃ j:Nat,j ≤ n1 ∧ i = .int .i64 j ∧ Below w.heap.size w wr ∧ Hid (∀ r,r < j → xs.getD r 0 = ys.getD r 0)) (fun i _=>n1 - (intOf i).toNat)
 case atStart=>exact ⟨0,Nat.zero_le _,rfl,Below.refl _ _,hid fun r hr=>by omega⟩
 case round =>
  obtain ⟨j,hj,rfl,hb,hin⟩:=hrel
  by_cases hlt:j < n1
  · have hjx:j < xs.length:=by rw [← E1.out]; exact hlt
    have hjy:j < ys.length:=by rw [← E2.out]; exact hlt
    obtain ⟨g1,o1,rfl,hc1⟩:=h1.resolve_left fun e=>by rw [e] at hjx; simp at hjx
    obtain ⟨g2,o2,rfl,hc2⟩:=h2.resolve_left fun e=>by rw [e] at hjy; simp at hjy
    have d1:=hc1 j hjx
    have d2:=hc2 j hjy
    have k1:∀ x:Later wr,x.w.cell? ⟨g1,o1 + j,none⟩ = some (.int .i64 (xs.getD j 0)):=fun x=>x.cell ((hb.cell (World.block_lt_of_cell? w _ d1)).trans d1)
    have k2:∀ x:Later wr,x.w.cell? ⟨g2,o2 + j,none⟩ = some (.int .i64 (ys.getD j 0)):=fun x=>x.cell ((hb.cell (World.block_lt_of_cell? w _ d2)).trans d2)
    have hno:xs.getD j 0 ≠ ys.getD j 0 → Hid (decide (xs = ys) = false):=fun h=>hid (decide_eq_false (list_ne (by rw [← E1.out,← E2.out]) hjx h))
    have hst:xs.getD j 0 = ys.getD j 0 → Hid (∀ r,r < j + 1 → xs.getD r 0 = ys.getD r 0):=fun h=>hid fun r hr=>by
     by_cases hrj:r < j
     · exact hin.out r hrj
     · obtain rfl:r = j:=by omega
       exact h
    clear d1 d2 hc1 hc2 h1 h2 hin
    have hj64:(0:Int) ≤ (j:Int):=by omega
    have hj65:(j:Int) < (n1:Int):=by omega
    generalize xs.getD j 0 = p at *
    generalize ys.getD j 0 = q at *
    by_cases hpq:p = q
    · have hne2:(p != q) = false:=by simpa using hpq
      have hst':=hst hpq
      clear hno hst hpq
      go_wp2_with fail
      refine wp_region_calm (by kernel_rfl) (by kernel_rfl) ?_
      repeat (go_big_quiet_step (fail))
      refine wpQuiet_nil ?_
      intro w3 hw3
      obtain ⟨⟨w3,hb3⟩,rfl⟩:=hw3
      clear k1 k2
      go_wp2_with fail
      go_roundw
      case rel=>exact ⟨j + 1,by omega,by go_num,hb.trans (hb3.mono hb.size),hst'⟩
      case measure=>simp [intOf]; omega
    · have hne2:(p != q) = true:=by rw [bne_iff_ne]; exact hpq
      have hno':=hno hpq
      clear hno hst hpq
      go_wp2_with fail
      refine wp_region_calm (by kernel_rfl) (by kernel_rfl) ?_
      repeat (go_big_quiet_step (fail))
      refine wpQuiet_nil ?_
      intro w3 hw3
      obtain ⟨⟨w3,hb3⟩,rfl⟩:=hw3
      clear k1 k2
      go_wp2_with fail
      go_ret
      exact ⟨by rw [hno'.out]; rfl,hb.trans (hb3.mono hb.size)⟩
  · obtain rfl:j = n1:=by omega
    have Hy:Hid (decide (xs = ys) = true):=hid (decide_eq_true (list_eq (by rw [← E1.out,← E2.out]) fun r hr=>hin.out r (by rw [E1.out]; exact hr)))
    go_wp2_with fail
    go_ret
    exact ⟨by rw [Hy.out]; rfl,hb⟩

/-- A term with a text of at most 1100 bytes. -/
def T.cut (t:T):T:={ t with s:=if t.s.size ≤ 1100 then t.s else t.s.extract 0 1100 }

set_option maxHeartbeats 1000000 in
theorem cut_calls (k:Int) (s:ByteArray) (n a b c:Int) (w:World) (hs:s.size ≤ maxLen) :
 Calls Try.prog 26 #[.agg #[.int .i64 k,.string s,.int .u64 n,.int .i64 a,.int .i64 b,.int .i64 c]] w fun e w' =>
  e = .returned (T.val (T.cut ⟨k,s,n,a,b,c⟩)) ∧ Below w.heap.size w w':=by
 unfold maxLen at hs
 by_cases h:s.size ≤ 1100
 · have e:T.cut ⟨k,s,n,a,b,c⟩ = ⟨k,s,n,a,b,c⟩:=by simp [T.cut,h]
   rw [e]
   go_enter Try.func26,Try.ntmps26
   go_wp2
   refine bodyPost_ret (v:=T.val ⟨k,s,n,a,b,c⟩) (by simp [results,Try.results26,go_sem,T.val]) rfl ⟨rfl,?_⟩
   exact ((Below.refl _ _).alloc (Nat.le_refl _) _).alloc (by simp) _
 · have e:T.cut ⟨k,s,n,a,b,c⟩ = ⟨k,s.extract 0 1100,n,a,b,c⟩:=by simp [T.cut,h]
   rw [e]
   go_enter Try.func26,Try.ntmps26
   go_wp2
   refine bodyPost_ret (v:=T.val ⟨k,s.extract 0 1100,n,a,b,c⟩) (by simp [results,Try.results26,go_sem,T.val]) rfl ⟨rfl,?_⟩
   exact ((Below.refl _ _).alloc (Nat.le_refl _) _).alloc (by simp) _
end Go.Proofs.Ytpcfmafokkffgaa
namespace Go.Proofs.Ytpcfmafokkffgaa
open Go.RowKit

set_option maxHeartbeats 1000000 in
theorem many_lit (k:Int) (w:World) (h:k = 3 ∨ k = 5 ∨ k = 9 ∨ k = 4 ∨ k = 6 ∨ k = 7 ∨ k = 8 ∨ k = 11 ∨ k = 10) :
 Calls Try.prog 97 #[.int .i64 k] w fun e w'=>e = .returned (.int .i64 (many k)) ∧ w = w':=by
 rcases h with rfl | rfl | rfl | rfl | rfl | rfl | rfl | rfl | rfl
 all_goals
  go_enter Try.func97,Try.ntmps97
  go_wp2
  go_ret
  exact ⟨rfl,rfl⟩

set_option maxHeartbeats 1000000 in
theorem many_other (k:Int) (w:World) (h3:(k == 3) = false) (h5:(k == 5) = false) (h9:(k == 9) = false) (h4:(k == 4) = false) (h6:(k == 6) = false) (h7:(k == 7) = false) (h8:(k == 8) = false) (h11:(k == 11) = false) (h10:(k == 10) = false) :
 Calls Try.prog 97 #[.int .i64 k] w fun e w'=>e = .returned (.int .i64 0) ∧ w = w':=by
 go_enter Try.func97,Try.ntmps97
 go_wp2
 go_ret
 exact ⟨rfl,rfl⟩

theorem many_calls (k:Int) (w:World) :
 Calls Try.prog 97 #[.int .i64 k] w fun e w'=>e = .returned (.int .i64 (many k)) ∧ w = w':=by
 by_cases h:k = 3 ∨ k = 5 ∨ k = 9 ∨ k = 4 ∨ k = 6 ∨ k = 7 ∨ k = 8 ∨ k = 11 ∨ k = 10
 · exact many_lit k w h
 · simp only [not_or] at h
   obtain ⟨h3,h5,h9,h4,h6,h7,h8,h11,h10⟩:=h
   have e:many k = 0:=by simp [many, *]
   rw [e]
   exact many_other k w (by simpa using h3) (by simpa using h5) (by simpa using h9) (by simpa using h4) (by simpa using h6) (by simpa using h7) (by simpa using h8) (by simpa using h11) (by simpa using h10)
end Go.Proofs.Ytpcfmafokkffgaa
namespace Go.Proofs.Ytpcfmafokkffgaa
open Go.RowKit Go.ChangeShapes Go.WideShapes

/-- One block of the call's own. -/
def Blk (k:Nat) (o:Obj):Res:=fun f=>f = fun j=>if j = k then some o else none

theorem Hd.box {W w:World} {Rs:List Res} (h:Hd W w Rs) (o:Obj):Hd W (w.alloc o) (Blk w.heap.size o::Rs):=by
 refine h.add ((Below.refl _ _).alloc (Nat.le_refl _) _) _ rfl (fun k o' hk=>?_) (fun k hk=>?_)
 · split at hk
   · rename_i e; subst e; rw [heap_at rfl]; exact hk
   · cases hk
 · split at hk
   · omega
   · exact absurd rfl hk

theorem Hd.blk {W w:World} {Rs:List Res} {k:Nat} {o:Obj} (h:Hd W w (Blk k o::Rs)):w.heap[k]? = some o:=by
 obtain ⟨f,hf,hi,_⟩:=h.open
 exact hi k o (by rw [hf]; simp)

/-- So many terms lie there. -/
def TermsIn (w:World) (a:Option Addr) (ts:List T):Prop :=
 ∀ (i:Nat) (t:T),ts[i]? = some t → ∃ g o,a = some ⟨g,o,none⟩ ∧ t.s.size ≤ maxLen ∧ ∀ (j:Nat) (v:Value),t.cells[j]? = some v → w.cell? ⟨g,o + i * 6 + j,none⟩ = some v

theorem TermsIn.later {w w':World} {a:Option Addr} {ts:List T} (h:TermsIn w a ts) (hb:Below w.heap.size w w'):TermsIn w' a ts:=fun i t hi=>by
 obtain ⟨g,o,ha,hs,hc⟩:=h i t hi
 exact ⟨g,o,ha,hs,fun j v hj=>(hb.cell (World.block_lt_of_cell? w _ (hc j v hj))).trans (hc j v hj)⟩

section
variable {H:Type} {enc:TypeId × Value → H} {w:World} {base:Nat} {spare:Nat → Bool} {held:Bool}

set_option maxRecDepth 100000 in
theorem trod_T {fuel:Nat} {cs:List Value} {x:DataW H × List MemPlace} (h:DataW.trod enc Try.prog w base spare held fuel 47 cs = some x):∃ t:T,cs = t.cells ∧ t.s.size ≤ maxLen:=by
 have hu:Try.prog.underlying 47 = some (.struct (Try.prog.fieldsOf 47)):=by kernel_rfl
 obtain ⟨xs,n,_,_,hlen,hxs,hf⟩:=DataW.trod_struct hu h
 have hsz:Try.prog.cellsOf 47 = 6:=by kernel_rfl
 have hfs:(Try.prog.fieldsOf 47).size = 6:=by kernel_rfl
 rw [hsz] at hlen
 rw [hfs] at hxs
 match cs,hlen with
 | [c0,c1,c2,c3,c4,c5],_ =>
  have c1':Try.prog.cellsOf 3 = 1:=by kernel_rfl
  have c2':Try.prog.cellsOf 9 = 1:=by kernel_rfl
  have c3':Try.prog.cellsOf 45 = 1:=by kernel_rfl
  have some_of:∀ i:Nat,i < 6 → ∃ y,xs[i]? = some y:=fun i hi=>⟨xs[i]'(by omega),List.getElem?_eq_getElem (by omega)⟩
  have key:∀ (i ty off:Nat) (c:Value),i < 6 → (((Try.prog.fieldsOf 47)[i]?).map fun f=>(f.type,f.offset)) = some (ty,off) → Try.prog.cellsOf ty = 1 → (([c0,c1,c2,c3,c4,c5].drop off).take 1 = [c]) → ∃ y,DataW.trod enc Try.prog w base spare held n ty [c] = some y:=by
   intro i ty off c hi hfi h1 h2
   obtain ⟨f,hfe,hfo⟩:=Option.map_eq_some_iff.1 hfi
   simp only [Prod.mk.injEq] at hfo
   obtain ⟨y,hy⟩:=some_of i hi
   have:=hf i f hfe
   rw [hfo.1,hfo.2,h1,h2,hy] at this
   exact ⟨y,this⟩
  obtain ⟨y0,e0⟩:=key 0 3 0 c0 (by decide) (by kernel_rfl) c1' rfl
  obtain ⟨y1,e1⟩:=key 1 9 1 c1 (by decide) (by kernel_rfl) c2' rfl
  obtain ⟨y2,e2⟩:=key 2 45 2 c2 (by decide) (by kernel_rfl) c3' rfl
  obtain ⟨y3,e3⟩:=key 3 3 3 c3 (by decide) (by kernel_rfl) c1' rfl
  obtain ⟨y4,e4⟩:=key 4 3 4 c4 (by decide) (by kernel_rfl) c1' rfl
  obtain ⟨y5,e5⟩:=key 5 3 5 c5 (by decide) (by kernel_rfl) c1' rfl
  obtain ⟨k,f0,_⟩:=DataW.trod_int (k:=.i64) (by kernel_rfl) e0
  obtain ⟨s,f1,_,hs⟩:=DataW.trod_string (by kernel_rfl) e1
  obtain ⟨m,f2,_⟩:=DataW.trod_int (k:=.u64) (by kernel_rfl) e2
  obtain ⟨a,f3,_⟩:=DataW.trod_int (k:=.i64) (by kernel_rfl) e3
  obtain ⟨b,f4,_⟩:=DataW.trod_int (k:=.i64) (by kernel_rfl) e4
  obtain ⟨c,f5,_⟩:=DataW.trod_int (k:=.i64) (by kernel_rfl) e5
  simp only [List.cons.injEq,and_true] at f0 f1 f2 f3 f4 f5
  subst f0 f1 f2 f3 f4 f5
  exact ⟨⟨k,s,m,a,b,c⟩,rfl,hs⟩

set_option maxRecDepth 100000 in
/-- A SLICE OF TERMS OPENED. -/
theorem open_terms {fuel:Nat} {a:Option Addr} {len cap:Nat} {x:DataW H × List MemPlace} (h:DataW.trod enc Try.prog w base spare held fuel 22 [.slice a len cap] = some x) :
 ∃ ts:List T,len = ts.length ∧ len ≤ maxLen ∧ TermsIn w a ts:=by
 rcases Deep.open_slice (P:=Try.prog) (t:=22) (e:=47) (by kernel_rfl) h with ⟨hcs,_⟩ | ⟨a',l,c,m,n,D,Pl,hcs,_,hl,hm,hmm,_,hx⟩
 · simp only [List.cons.injEq,Value.slice.injEq,and_true] at hcs
   obtain ⟨rfl,rfl,rfl⟩:=hcs
   exact ⟨[],rfl,Nat.zero_le _,fun i t hi=>by simp at hi⟩
 · simp only [List.cons.injEq,Value.slice.injEq,and_true] at hcs
   obtain ⟨rfl,rfl,rfl⟩:=hcs
   have hsz:Try.prog.cellsOf 47 = 6:=by kernel_rfl
   have hle:len ≤ m:=by rw [hmm]; split <;> omega
   have each:∀ i,i < len → ∃ t:T,w.cells? base (a'.add (i * 6)) 6 = some t.cells ∧ t.s.size ≤ maxLen:=fun i hi=>by
    obtain ⟨cs',h1,h2⟩:=hx i (by omega)
    rw [hsz] at h1
    obtain ⟨t,rfl,hs⟩:=trod_T h2
    exact ⟨t,h1,hs⟩
   haveI:Inhabited T:=⟨zeroT⟩
   obtain ⟨f,hf⟩:=Deep.choose_lt each
   refine ⟨(List.range len).map f,by simp,Nat.le_trans hl hm,fun i t hi=>?_⟩
   have hil:i < len:=by
    have:=(List.getElem?_eq_some_iff.1 hi).1
    simpa using this
   have ht:t = f i:=by
    rw [List.getElem?_map,List.getElem?_range hil] at hi
    simpa using hi.symm
   subst ht
   obtain ⟨h1,h2⟩:=hf i hil
   obtain ⟨h10,_⟩:=hf 0 (by omega)
   obtain ⟨_,_,hz⟩:=World.cells?_some h10
   have hz0:=hz 0 (by decide)
   have hspot:a'.spot = none:=by
    have e:(a'.add (0 * 6)).add 0 = a':=by simp [Addr.add]
    rw [e] at hz0
    cases hs:a'.spot with
    | none=>rfl
    | some q =>
     exfalso
     have hc:(f 0).cells[0]? = some (.int .i64 (f 0).k):=rfl
     rw [hc] at hz0
     unfold World.cell? at hz0
     split at hz0
     · simp [hs] at hz0
     · cases hz0
   obtain ⟨g,o,sp⟩:=a'
   simp only at hspot
   subst hspot
   obtain ⟨_,_,hc⟩:=World.cells?_some h1
   refine ⟨g,o,rfl,h2,fun j v hj=>?_⟩
   have hj6:j < 6:=by have:=(List.getElem?_eq_some_iff.1 hj).1; simpa [T.cells] using this
   have:=hc j hj6
   rw [Addr.add_lit,Addr.add_lit,hj] at this
   exact this
end

end Go.Proofs.Ytpcfmafokkffgaa
namespace Go.Proofs.Ytpcfmafokkffgaa
open Go.RowKit

def rFrag (b:Nat) (v:Value) (m:Int) (row:Option (Nat × Array Value)):Frag:=fun k =>
 if k = b then some (.cells #[v,.int .i64 m] 131 (0,0)) else
 match row with
 | some (g,cur)=>if k = g then some (.cells cur 114 (0,0)) else none
 | none=>none

structure RGood (L:List T) (m:Int):Prop where
 good:Good L
 m0:0 ≤ m
 m1:m ≤ 1048576
 len:(L.length:Int) ≤ m

def RSto (b:Nat) (L:List T) (m:Int):Res:=fun f=>RGood L m ∧
 ((L = [] ∧ f = rFrag b (.slice none 0 0) m none) ∨
  ∃ g cap cur,b ≠ g ∧ f = rFrag b (.slice (some ⟨g,0,none⟩) L.length cap) m (some (g,cur)) ∧ cur.size = cap * 6 ∧ L.length ≤ cap ∧ cap ≤ maxLen ∧ cur.toList.take (L.length * 6) = cellsOf L)

/-- What the walk reads of it. -/
structure RStoAt (w:World) (b:Nat) (L:List T) (m:Int) (a:Option Addr) (cap:Nat):Prop where
 ok:RGood L m
 c0:w.cell? ⟨b,0,none⟩ = some (.slice a L.length cap)
 c1:w.cell? ⟨b,1,none⟩ = some (.int .i64 m)
 fz:∀ j,w.frozen? ⟨b,j,none⟩ = false
 cl:∀ (i:Nat) (t:T),L[i]? = some t → ∃ g,a = some ⟨g,0,none⟩ ∧ g < w.heap.size ∧ ∀ j v,t.cells[j]? = some v → w.cell? ⟨g,i * 6 + j,none⟩ = some v
 lt:b < w.heap.size

theorem RStoAt.later {w w':World} {b:Nat} {L:List T} {m:Int} {a:Option Addr} {cap:Nat} (h:RStoAt w b L m a cap) (hb:Below w.heap.size w w'):RStoAt w' b L m a cap:=by
 refine ⟨h.ok,(hb.cell h.lt).trans h.c0,(hb.cell h.lt).trans h.c1,fun j=>(hb.frozen h.lt).trans (h.fz j),fun i t hi=>?_,Nat.lt_of_lt_of_le h.lt hb.size⟩
 obtain ⟨g,ha,hg,hc⟩:=h.cl i t hi
 exact ⟨g,ha,Nat.lt_of_lt_of_le hg hb.size,fun j v hj=>(hb.cell hg).trans (hc j v hj)⟩

theorem rstoAt_of {w:World} {b:Nat} {L:List T} {m:Int} {f:Frag} (h:RSto b L m f) (hf:FragIn f w):∃ a cap,RStoAt w b L m a cap:=by
 obtain ⟨hok,h | h⟩:=h
 · obtain ⟨rfl,rfl⟩:=h
   have h0:w.heap[b]? = some (.cells #[.slice none 0 0,.int .i64 m] 131 (0,0)):=hf b _ (by simp [rFrag])
   exact ⟨none,0,hok,by rw [cell_of_heap h0]; rfl,by rw [cell_of_heap h0]; rfl,fun j=>frozen_of_heap h0 j,fun i t hi=>by simp at hi,(Array.getElem?_eq_some_iff.1 h0).1⟩
 · obtain ⟨g,cap,cur,hne,rfl,h1,h2,h3,h4⟩:=h
   have h0:w.heap[b]? = some (.cells #[.slice (some ⟨g,0,none⟩) L.length cap,.int .i64 m] 131 (0,0)):=hf b _ (by simp [rFrag])
   have hg:w.heap[g]? = some (.cells cur 114 (0,0)):=hf g _ (by simp [rFrag,Ne.symm hne])
   refine ⟨some ⟨g,0,none⟩,cap,hok,by rw [cell_of_heap h0]; rfl,by rw [cell_of_heap h0]; rfl,fun j=>frozen_of_heap h0 j,fun i t hi=>⟨g,rfl,(Array.getElem?_eq_some_iff.1 hg).1,fun j v hj=>?_⟩,(Array.getElem?_eq_some_iff.1 h0).1⟩
   rw [cell_of_heap hg,← Array.getElem?_toList]
   exact get_of_take h4 (cellsOf_get hi hj)

theorem Hd.rsto {W w:World} {b:Nat} {L:List T} {m:Int} {Rs:List Res} (h:Hd W w (RSto b L m::Rs)):∃ a cap,RStoAt w b L m a cap:=by
 obtain ⟨f,hR,hf,_⟩:=h.open
 exact rstoAt_of hR hf

set_option maxHeartbeats 400000 in
theorem rnew_calls {W w:World} {Rs:List Res} {x:Int} (h:Hd W w Rs) (h0:0 ≤ x) (h1:x ≤ 1048576) :
 Calls Try.prog 51 #[.int .i64 x] w fun e w'=>∃ b,e = .returned (.tuple #[.pointer (some ⟨b,0,none⟩),.int .i64 0]) ∧ Hd W w' (RSto b [] x::Rs):=by
 have hd:decide (x < 0) = false:=by simp; omega
 have hd2:decide (1048576 < x) = false:=by simp; omega
 have Hh:=hid h; clear h
 go_enter Try.func51,Try.ntmps51
 go_wp2
 go_ret2
 refine ⟨w.heap.size,rfl,?_⟩
 refine Hh.out.add ((Below.refl _ _).alloc (Nat.le_refl _) _) (rFrag w.heap.size (.slice none 0 0) x none) ⟨⟨good_nil,h0,h1,by simpa using h0⟩,.inl ⟨rfl,rfl⟩⟩ (fun k o hk=>?_) (fun k hk=>?_)
 · unfold rFrag at hk
   split at hk
   · rename_i e; subst e; rw [heap_at rfl]; exact hk
   · cases hk
 · unfold rFrag at hk
   split at hk
   · omega
   · exact absurd rfl hk
end Go.Proofs.Ytpcfmafokkffgaa
namespace Go.Proofs.Ytpcfmafokkffgaa
open Go.RowKit

theorem empty_list:(⟨#[]⟩:ByteArray).toList = []:=by rw [ByteArray.toList_eq]
theorem empty_size:(⟨#[]⟩:ByteArray).size = 0:=rfl

/-- What May asks first. -/
abbrev RBad (k:Int) (s:ByteArray) (n:Int):Prop:=k < 1 ∨ 11 < k ∨ (k ≠ 1 ∧ s ≠ ⟨#[]⟩) ∨ (k ≠ 2 ∧ k ≠ 9 ∧ k ≠ 10 ∧ n ≠ 0) ∨ 1000 < (s.size:Int)

/-- What May asks of one part. -/
def ROk (len q:Nat) (l:List Int) (r:Nat):Prop:=(r < q → 1 ≤ l.getD r 0 ∧ l.getD r 0 ≤ len) ∧ (q ≤ r → l.getD r 0 = 0)


theorem rok_of {len q:Nat} {l:List Int} {r:Nat} {v:Int} (e:l.getD r 0 = v) (h1:r < q → 1 ≤ v ∧ v ≤ len) (h2:q ≤ r → v = 0):ROk len q l r:=by
 subst e; exact ⟨h1,h2⟩
theorem rok_not {len q:Nat} {l:List Int} {r:Nat} {v:Int} (e:l.getD r 0 = v) (h:r < q ∧ (v < 1 ∨ (len:Int) < v) ∨ q ≤ r ∧ v ≠ 0):¬ ROk len q l r:=by
 subst e; intro ⟨h1,h2⟩
 rcases h with ⟨h,h'⟩ | ⟨h,h'⟩
 · have:=h1 h; omega
 · exact h' (h2 h)
instance (len q:Nat) (l:List Int) (r:Nat):Decidable (ROk len q l r):=by unfold ROk; exact inferInstance

/-- What may be, as the document asks it. -/
theorem rmay_iff {k:Int} {s:ByteArray} {n a1 b1 c1:Int} {len:Nat} (hb:¬ RBad k s n) :
 T.may len ⟨k,s,n,a1,b1,c1⟩ ↔ (∀ r,r < 3 → ROk len (many k) [a1,b1,c1] r) ∧ (k ≠ 4 ∨ a1 ≤ b1):=by
 have h3:(∀ r,r < 3 → ROk len (many k) [a1,b1,c1] r) ↔ ROk len (many k) [a1,b1,c1] 0 ∧ ROk len (many k) [a1,b1,c1] 1 ∧ ROk len (many k) [a1,b1,c1] 2:=by
  constructor
  · intro h; exact ⟨h 0 (by omega),h 1 (by omega),h 2 (by omega)⟩
  · rintro ⟨h0,h1,h2⟩ r hr
    match r,hr with
    | 0,_=>exact h0
    | 1,_=>exact h1
    | 2,_=>exact h2
 rw [h3]
 have hm:=many_le k
 unfold RBad at hb
 simp only [not_or] at hb
 obtain ⟨e1,e2,e3,e4,e5⟩:=hb
 have e3':k ≠ 1 → s = ⟨#[]⟩:=fun h=>Classical.byContradiction fun h'=>e3 ⟨h,h'⟩
 have e4':¬ (k = 2 ∨ k = 9 ∨ k = 10) → n = 0:=fun h=>Classical.byContradiction fun h'=>e4 ⟨fun x=>h (.inl x),fun x=>h (.inr (.inl x)),fun x=>h (.inr (.inr x)),h'⟩
 have ho:(⟨k,s,n,a1,b1,c1⟩:T) = T.only ⟨k,s,n,a1,b1,c1⟩ ↔ (many k < 1 → a1 = 0) ∧ (many k < 2 → b1 = 0) ∧ (many k < 3 → c1 = 0):=by
  have hs:(if k = 1 then s else ⟨#[]⟩) = s:=by
   by_cases h:k = 1
   · rw [if_pos h]
   · rw [if_neg h,e3' h]
  have hn:(if k = 2 ∨ k = 9 ∨ k = 10 then n else 0) = n:=by
   by_cases h:k = 2 ∨ k = 9 ∨ k = 10
   · rw [if_pos h]
   · rw [if_neg h,e4' h]
  simp only [T.only,hs,hn,T.mk.injEq,true_and]
  constructor
  · rintro ⟨h1,h2,h3⟩
    refine ⟨fun h=>?_,fun h=>?_,fun h=>?_⟩
    · rw [if_neg (by omega)] at h1; exact h1
    · rw [if_neg (by omega)] at h2; exact h2
    · rw [if_neg (by omega)] at h3; exact h3
  · rintro ⟨h1,h2,h3⟩
    refine ⟨?_,?_,?_⟩
    · split
      · rfl
      · exact h1 (by omega)
    · split
      · rfl
      · exact h2 (by omega)
    · split
      · rfl
      · exact h3 (by omega)
 have hp:(∀ p ∈ T.parts ⟨k,s,n,a1,b1,c1⟩,1 ≤ p ∧ p ≤ (len:Int)) ↔ (0 < many k → 1 ≤ a1 ∧ a1 ≤ len) ∧ (1 < many k → 1 ≤ b1 ∧ b1 ≤ len) ∧ (2 < many k → 1 ≤ c1 ∧ c1 ≤ len):=by
  simp only [T.parts]
  generalize many k = q at *
  match q,hm with
  | 0,_=>simp
  | 1,_=>simp
  | 2,_=>simp
  | 3,_=>simp
 unfold T.may
 rw [ho,hp]
 simp only [ROk,List.getD_cons_zero,List.getD_cons_succ]
 constructor
 · rintro ⟨_,_,⟨o1,o2,o3⟩,_,hk,p1,p2,p3⟩
   refine ⟨⟨⟨p1,fun h=>o1 (by omega)⟩,⟨p2,fun h=>o2 (by omega)⟩,⟨p3,fun h=>o3 (by omega)⟩⟩,?_⟩
   by_cases h4:k = 4
   · exact .inr (by have:¬ b1 < a1:=fun h=>hk ⟨h4,h⟩; omega)
   · exact .inl h4
 · rintro ⟨⟨⟨p1,o1⟩,⟨p2,o2⟩,⟨p3,o3⟩⟩,hk⟩
   refine ⟨by omega,by omega,⟨fun h=>o1 (by omega),fun h=>o2 (by omega),fun h=>o3 (by omega)⟩,by omega,?_,p1,p2,p3⟩
   rintro ⟨h4,h⟩
   rcases hk with hk | hk
   · exact hk h4
   · omega
theorem rmay_bad {k:Int} {s:ByteArray} {n a1 b1 c1:Int} {len:Int} (hb:RBad k s n):¬ T.may len ⟨k,s,n,a1,b1,c1⟩:=by
 rintro ⟨h1,h2,h3,h4,_⟩
 have es:=congrArg T.s h3
 have en:=congrArg T.n h3
 simp only [T.only] at es en h1 h2 h4
 rcases hb with h | h | ⟨h,h'⟩ | ⟨f1,f2,f3,f4⟩ | h
 · omega
 · omega
 · rw [if_neg h] at es; exact h' es
 · rw [if_neg (by omega)] at en; exact f4 en
 · omega

set_option maxRecDepth 100000 in
set_option maxHeartbeats 40000000 in
theorem rmay_calls {b:Nat} {L:List T} {m:Int} {a:Option Addr} {cap:Nat} (k:Int) (s:ByteArray) (n a1 b1 c1:Int) {w:World} (h:RStoAt w b L m a cap) :
 Calls Try.prog 78 #[.pointer (some ⟨b,0,none⟩),T.val ⟨k,s,n,a1,b1,c1⟩] w fun e w'=>e = .returned (.bool (decide (T.may L.length ⟨k,s,n,a1,b1,c1⟩))) ∧ Below w.heap.size w w':=by
 simp only [T.val]
 go_enter Try.func78,Try.ntmps78
 go_upto_region 1 with (fail)
 obtain ⟨w2,hw2⟩:∃ w2,w2 = w.alloc (.cells #[.int .i64 k,.string s,.int .u64 n,.int .i64 a1,.int .i64 b1,.int .i64 c1] 114):=⟨_,rfl⟩
 have hbox:w2.heap[w.heap.size]? = some (.cells #[.int .i64 k,.string s,.int .u64 n,.int .i64 a1,.int .i64 b1,.int .i64 c1] 114):=by rw [hw2]; exact heap_at rfl
 rw [← hw2]
 generalize hB:w.heap.size = B at *
 have C0:∀ x:Later w2,x.w.cell? ⟨B,0,none⟩ = some (.int .i64 k):=fun x=>x.cell (by rw [cell_of_heap hbox]; rfl)
 have C1:∀ x:Later w2,x.w.cell? ⟨B,1,none⟩ = some (.string s):=fun x=>x.cell (by rw [cell_of_heap hbox]; rfl)
 have C2:∀ x:Later w2,x.w.cell? ⟨B,2,none⟩ = some (.int .u64 n):=fun x=>x.cell (by rw [cell_of_heap hbox]; rfl)
 have C3:∀ x:Later w2,x.w.cell? ⟨B,3,none⟩ = some (.int .i64 a1):=fun x=>x.cell (by rw [cell_of_heap hbox]; rfl)
 have C4:∀ x:Later w2,x.w.cell? ⟨B,4,none⟩ = some (.int .i64 b1):=fun x=>x.cell (by rw [cell_of_heap hbox]; rfl)
 have C5:∀ x:Later w2,x.w.cell? ⟨B,5,none⟩ = some (.int .i64 c1):=fun x=>x.cell (by rw [cell_of_heap hbox]; rfl)
 clear hbox
 have d0:=C0 ⟨w2,Below.refl _ _⟩
 have d1:=C1 ⟨w2,Below.refl _ _⟩
 have d2:=C2 ⟨w2,Below.refl _ _⟩
 have d3:=C3 ⟨w2,Below.refl _ _⟩
 have d4:=C4 ⟨w2,Below.refl _ _⟩
 have d5:=C5 ⟨w2,Below.refl _ _⟩
 dsimp only at d0 d1 d2 d3 d4 d5
 clear C0 C1 C2 C3 C4 C5
 have Hw:=hid hw2
 clear hw2
 go_cut [51] (fun s51 wx=>s51 = .bool (decide (RBad k s n)) ∧ w2 = wx)
 case first =>
  by_cases h1:k < 1
  · have e1:decide (k < 1) = true:=by simpa using h1
    go_wp2_with fail
    go_meet
    exact ⟨congrArg Value.bool (decide_eq_true (p:=RBad k s n) (.inl h1)).symm,rfl⟩
  have e1:decide (k < 1) = false:=by simpa using h1
  by_cases h2:11 < k
  · have e2:decide (11 < k) = true:=by simpa using h2
    go_wp2_with fail
    go_meet
    exact ⟨congrArg Value.bool (decide_eq_true (p:=RBad k s n) (.inr (.inl h2))).symm,rfl⟩
  have e2:decide (11 < k) = false:=by simpa using h2
  by_cases h3:k = 1
  · subst h3
    by_cases h4:n = 0
    · subst h4
      by_cases h5:1000 < (s.size:Int)
      · have e5:decide (1000 < (s.size:Int)) = true:=by simpa using h5
        go_wp2_with fail
        go_meet
        exact ⟨congrArg Value.bool (decide_eq_true (p:=RBad 1 s 0) (by simp [RBad]; omega)).symm,rfl⟩
      · have e5:decide (1000 < (s.size:Int)) = false:=by simpa using h5
        go_wp2_with fail
        go_meet
        exact ⟨congrArg Value.bool (decide_eq_false (p:=RBad 1 s 0) (by simp [RBad]; omega)).symm,rfl⟩
    · have e4:(n == 0) = false:=by simpa using h4
      go_wp2_with fail
      go_meet
      exact ⟨congrArg Value.bool (decide_eq_true (p:=RBad 1 s n) (by simp [RBad,h4])).symm,rfl⟩
  have e3:(k == 1) = false:=by simpa using h3
  by_cases h4:s = ⟨#[]⟩
  case neg =>
   have e4:¬ s.toList = []:=fun h=>h4 (bytes_eq.1 (by rw [h,empty_list]))
   have e4':s.toList.isEmpty = false:=by simpa using e4
   go_wp2_with fail
   go_meet
   exact ⟨congrArg Value.bool (decide_eq_true (p:=RBad k s n) (.inr (.inr (.inl ⟨h3,h4⟩)))).symm,rfl⟩
  have e4:s.toList = []:=by rw [h4,empty_list]
  have e4':s.toList.isEmpty = true:=by rw [e4]; rfl
  have hsz:s.size = 0:=by rw [h4]; rfl
  have e5:decide (1000 < (s.size:Int)) = false:=by simp [hsz]
  have H4:=hid h4
  have Hs:=hid hsz
  clear h4 hsz
  by_cases k2:k = 2
  · subst k2
    go_wp2_with fail
    go_meet
    exact ⟨congrArg Value.bool (decide_eq_false (p:=RBad 2 s n) (by simp [RBad,H4.out,empty_size])).symm,rfl⟩
  have f2:(k == 2) = false:=by simpa using k2
  by_cases k9:k = 9
  · subst k9
    go_wp2_with fail
    go_meet
    exact ⟨congrArg Value.bool (decide_eq_false (p:=RBad 9 s n) (by simp [RBad,H4.out,empty_size])).symm,rfl⟩
  have f9:(k == 9) = false:=by simpa using k9
  by_cases k10:k = 10
  · subst k10
    go_wp2_with fail
    go_meet
    exact ⟨congrArg Value.bool (decide_eq_false (p:=RBad 10 s n) (by simp [RBad,H4.out,empty_size])).symm,rfl⟩
  have f10:(k == 10) = false:=by simpa using k10
  by_cases h6:n = 0
  · subst h6
    go_wp2_with fail
    go_meet
    exact ⟨congrArg Value.bool (decide_eq_false (p:=RBad k s 0) (by simp [RBad,H4.out,empty_size]; omega)).symm,rfl⟩
  have e6:(n == 0) = false:=by simpa using h6
  go_wp2_with fail
  go_meet
  exact ⟨congrArg Value.bool (decide_eq_true (p:=RBad k s n) (.inr (.inr (.inr (.inl ⟨k2,k9,k10,h6⟩))))).symm,rfl⟩
 case rest =>
  obtain ⟨rfl,rfl⟩:=hcut
  by_cases hb:RBad k s n
  · have hd:decide (RBad k s n) = true:=decide_eq_true hb
    rw [hd]
    have Hb:=hid hb
    clear hb
    go_wp2_with fail
    go_ret
    exact ⟨ret_bool (decide_eq_false (rmay_bad Hb.out)).symm,by rw [Hw.out]; first | exact (Below.refl _ _).alloc (Nat.le_refl _) _ | (rw [← hB]; exact (Below.refl _ _).alloc (Nat.le_refl _) _)⟩
  have hd:decide (RBad k s n) = false:=decide_eq_false hb
  rw [hd]
  go_upto_region 3 with (fail)
  go_cut [5,6] (fun s5 s6 wx=>∃ g:Nat,s5 = .slice (some ⟨g,0,none⟩) 3 3 ∧ s6 = .int .i64 (many k) ∧ Below w2.heap.size w2 wx ∧ g < wx.heap.size ∧ wx.cell? ⟨g,0,none⟩ = some (.int .i64 a1) ∧ wx.cell? ⟨g,1,none⟩ = some (.int .i64 b1) ∧ wx.cell? ⟨g,2,none⟩ = some (.int .i64 c1))
  case first =>
   go_region_held3 (fun w'=>w'.cell? ⟨B,0,none⟩ = some (.int .i64 k) ∧ w'.cell? ⟨B,3,none⟩ = some (.int .i64 a1) ∧ w'.cell? ⟨B,4,none⟩ = some (.int .i64 b1) ∧ w'.cell? ⟨B,5,none⟩ = some (.int .i64 c1)) (go_keep)
    (first
     | (go_at_call 97; refine (many_calls k _).mono ?_; rintro e w' ⟨rfl,rfl⟩))
   all_goals (go_wp2_with fail; go_meet; exact ⟨w2.heap.size,rfl,rfl,((Below.refl w2.heap.size w2).alloc (Nat.le_refl _) _).drew,(by show _ < (w2.heap.push _).size; simp),(by show World.cell? (w2.alloc _) _ = _; rw [cell_of_heap (heap_at rfl)]; rfl),(by show World.cell? (w2.alloc _) _ = _; rw [cell_of_heap (heap_at rfl)]; rfl),(by show World.cell? (w2.alloc _) _ = _; rw [cell_of_heap (heap_at rfl)]; rfl)⟩)
  case rest =>
   obtain ⟨g,rfl,rfl,hbx,hg,g0,g1,g2⟩:=hcut
   have hlt:B < w2.heap.size:=by rw [Hw.out,← hB]; show _ < (w.heap.push _).size; simp
   have f0:=(hbx.cell (p:=⟨B,0,none⟩) hlt).trans d0
   have f3:=(hbx.cell (p:=⟨B,3,none⟩) hlt).trans d3
   have f4:=(hbx.cell (p:=⟨B,4,none⟩) hlt).trans d4
   have hbw:Below w.heap.size w wc:=by
    have e1:Below w.heap.size w w2:=by rw [Hw.out]; exact (Below.refl _ _).alloc (Nat.le_refl _) _
    exact e1.trans (hbx.mono e1.size)
   have h':=h.later hbw
   have l0:=h'.c0
   have hbB:Below B w wc:=by rw [← hB]; exact hbw
   have HB:=hid (Nat.lt_of_lt_of_le hlt hbx.size)
   have HG:=hid hg
   have hbl:=h'.lt
   have HL:=hid hbl
   clear hbl hg
   have Hnb:=hid hb
   have Hbw:=hid hbw
   clear h d0 d1 d2 d3 d4 d5 hbx hb hd hlt
   have hall:∀ j:Nat,j < 3 → wc.cell? ⟨g,j,none⟩ = some (.int .i64 ([a1,b1,c1].getD j 0)):=fun j hj=>by
    match j,hj with
    | 0,_=>exact g0
    | 1,_=>exact g1
    | 2,_=>exact g2
   have Hall:=hid hall
   clear hall g0 g1 g2
   have hm3:=many_le k
   generalize hq:many k = q at *
   have Hq:=hid hq
   clear hq
   go_wp2_with fail
   go_loopw [7] (fun i wr=>∃ j:Nat,j ≤ 3 ∧ i = .int .i64 j ∧ Hid (Below wc.heap.size wc wr) ∧ Hid (∀ r,r < j → ROk L.length q [a1,b1,c1] r)) (fun i _=>3 - (intOf i).toNat)
   case atStart=>exact ⟨0,Nat.zero_le _,rfl,hid (Below.refl _ _),hid fun r hr=>by omega⟩
   case round =>
    obtain ⟨j,hj,rfl,Hb,hin⟩:=hrel
    have r0:=(Hb.out.cell (p:=⟨B,0,none⟩) HB.out).trans f0
    have r3:=(Hb.out.cell (p:=⟨B,3,none⟩) HB.out).trans f3
    have r4:=(Hb.out.cell (p:=⟨B,4,none⟩) HB.out).trans f4
    have rl:=(Hb.out.cell (p:=⟨b,0,none⟩) HL.out).trans l0
    clear f0 f3 f4 l0
    by_cases hlt:j < 3
    · have hc:=(Hb.out.cell (p:=⟨g,j,none⟩) HG.out).trans (Hall.out j hlt)
      generalize hv:[a1,b1,c1].getD j 0 = v at *
      have Hv:=hid hv
      clear hv
      go_upto_region 7 with (fail)
      go_cut [99] (fun s99 wx=>s99 = .bool (decide (¬ ROk L.length q [a1,b1,c1] j)) ∧ Hid (Below wc.heap.size wc wx))
      case first =>
       by_cases hjq:j < q
       · have e0:decide ((j:Int) < (q:Int)) = true:=by simpa using hjq
         have e0':decide ((q:Int) ≤ (j:Int)) = false:=by simpa using hjq
         have n0:decide (j < q) = true:=by simpa using hjq
         have n0':decide (q ≤ j) = false:=by simpa using hjq
         by_cases hv1:v < 1
         · have e1:decide (v < 1) = true:=by simpa using hv1
           go_quiet (fail)
           go_wp2_with fail
           go_meet
           exact ⟨congrArg Value.bool (decide_eq_true (rok_not Hv.out (.inl ⟨hjq,.inl hv1⟩))).symm,hid (below_drewN Hb.out _)⟩
         have e1:decide (v < 1) = false:=by simpa using hv1
         by_cases hv2:(L.length:Int) < v
         · have e2:decide ((L.length:Int) < v) = true:=by simpa using hv2
           go_quiet (fail)
           go_wp2_with fail
           go_meet
           exact ⟨congrArg Value.bool (decide_eq_true (rok_not Hv.out (.inl ⟨hjq,.inr hv2⟩))).symm,hid (below_drewN Hb.out _)⟩
         have e2:decide ((L.length:Int) < v) = false:=by simpa using hv2
         go_quiet (fail)
         go_wp2_with fail
         go_meet
         exact ⟨congrArg Value.bool (decide_eq_false (fun h=>h (rok_of Hv.out (fun _=>by omega) (fun h=>by omega)))).symm,hid (below_drewN Hb.out _)⟩
       · have e0:decide ((j:Int) < (q:Int)) = false:=by simp; omega
         have e0':decide ((q:Int) ≤ (j:Int)) = true:=by simp; omega
         have n0:decide (j < q) = false:=by simpa using hjq
         have n0':decide (q ≤ j) = true:=by simp; omega
         by_cases hv0:v = 0
         · subst hv0
           go_quiet (fail)
           go_wp2_with fail
           go_meet
           exact ⟨congrArg Value.bool (decide_eq_false (fun h=>h (rok_of Hv.out (fun h=>by omega) (fun _=>rfl)))).symm,hid (below_drewN Hb.out _)⟩
         · have e1:(v == 0) = false:=by simpa using hv0
           have e1':(v != 0) = true:=by rw [bne_iff_ne]; exact hv0
           go_quiet (fail)
           go_wp2_with fail
           go_meet
           exact ⟨congrArg Value.bool (decide_eq_true (rok_not Hv.out (.inr ⟨by omega,hv0⟩))).symm,hid (below_drewN Hb.out _)⟩
      case rest =>
       obtain ⟨rfl,Hb'⟩:=hcut
       clear r0 r3 r4 rl hc Hb
       by_cases hok:ROk L.length q [a1,b1,c1] j
       · have hd:decide (¬ ROk L.length q [a1,b1,c1] j) = false:=decide_eq_false fun h=>h hok
         rw [hd]
         have Hok:=hid hok
         clear hok hd
         go_wp2_with fail
         go_roundw
         case rel=>exact ⟨j + 1,by omega,by go_num,Hb',hid fun r hr=>by
          by_cases hrj:r < j
          · exact hin.out r hrj
          · obtain rfl:r = j:=by omega
            exact Hok.out⟩
         case measure=>simp [intOf]; omega
       · have hd:decide (¬ ROk L.length q [a1,b1,c1] j) = true:=decide_eq_true hok
         rw [hd]
         have Hok:=hid hok
         clear hok hd
         go_wp2_with fail
         go_ret
         exact ⟨ret_bool (decide_eq_false fun h=>Hok.out (by rw [← Hq.out]; exact ((rmay_iff Hnb.out).1 h).1 j hlt)).symm,by first | exact Hbw.out.trans (Hb'.out.mono Hbw.out.size) | (rw [← hB]; exact Hbw.out.trans (Hb'.out.mono Hbw.out.size))⟩
    · obtain rfl:j = 3:=by omega
      by_cases h4:k = 4
      · subst h4
        by_cases h5:a1 ≤ b1
        · have e5:decide (a1 ≤ b1) = true:=by simpa using h5
          have H5:=hid h5
          clear h5
          go_wp2_with fail
          go_ret
          exact ⟨ret_bool (decide_eq_true ((rmay_iff Hnb.out).2 ⟨by rw [Hq.out]; exact hin.out,.inr H5.out⟩)).symm,by first | exact Hbw.out.trans (Hb.out.mono Hbw.out.size) | (rw [← hB]; exact Hbw.out.trans (Hb.out.mono Hbw.out.size))⟩
        · have e5:decide (a1 ≤ b1) = false:=by simpa using h5
          have H5:=hid h5
          clear h5
          go_wp2_with fail
          go_ret
          exact ⟨ret_bool (decide_eq_false fun h=>(((rmay_iff Hnb.out).1 h).2.elim (fun h=>h rfl) (fun h=>absurd h (by have:=H5.out; omega)))).symm,by first | exact Hbw.out.trans (Hb.out.mono Hbw.out.size) | (rw [← hB]; exact Hbw.out.trans (Hb.out.mono Hbw.out.size))⟩
      have e4:(k == 4) = false:=by simpa using h4
      have H4:=hid h4
      clear h4
      go_wp2_with fail
      go_ret
      exact ⟨ret_bool (decide_eq_true ((rmay_iff Hnb.out).2 ⟨by rw [Hq.out]; exact hin.out,.inl H4.out⟩)).symm,by first | exact Hbw.out.trans (Hb.out.mono Hbw.out.size) | (rw [← hB]; exact Hbw.out.trans (Hb.out.mono Hbw.out.size))⟩
end Go.Proofs.Ytpcfmafokkffgaa
namespace Go.Proofs.Ytpcfmafokkffgaa
open Go.RowKit

set_option maxHeartbeats 400000 in
theorem reqlIn_T (k n a b c k' n' a' b' c':Int) (s s':ByteArray) (w:World) :
 (Op.equalIn 10000 114 (.agg #[.int .i64 k,.string s,.int .u64 n,.int .i64 a,.int .i64 b,.int .i64 c]) (.agg #[.int .i64 k',.string s',.int .u64 n',.int .i64 a',.int .i64 b',.int .i64 c'])).run Try.prog w = .ok (decide ((⟨k,s,n,a,b,c⟩:T) = ⟨k',s',n',a',b',c'⟩)) w:=by
 go_simp
 simp only [bytes_eq]
 by_cases h1:k = k' <;> by_cases h2:s = s' <;> by_cases h3:n = n' <;> by_cases h4:a = a' <;> by_cases h5:b = b' <;> by_cases h6:c = c' <;> simp [h1,h2,h3,h4,h5,h6]

theorem reql_T (x y:T) (w:World):(binOp .eql 114 (T.val x) (T.val y)).run Try.prog w = .ok (.bool (decide (x = y))) w:=by
 obtain ⟨k,s,n,a,b,c⟩:=x
 obtain ⟨k',s',n',a',b',c'⟩:=y
 rw [T.val,T.val,run_eql_struct,reqlIn_T]
 rfl

theorem rneq_T (x y:T) (w:World):(binOp .neq 114 (T.val x) (T.val y)).run Try.prog w = .ok (.bool (!decide (x = y))) w:=by
 obtain ⟨k,s,n,a,b,c⟩:=x
 obtain ⟨k',s',n',a',b',c'⟩:=y
 rw [T.val,T.val,run_neq_struct,reqlIn_T]
 rfl

theorem find_ne {t:T} {L:List T} {i:Nat} (h:find t L = some i) {j:Nat} (hj:j < i) {u:T} (hu:L[j]? = some u):u ≠ t:=by
 induction L generalizing i j with
 | nil=>simp at hu
 | cons v L ih =>
  simp only [find] at h
  split at h
  · simp only [Option.some.injEq] at h; omega
  · rename_i hne
    cases hf:find t L with
    | none=>simp [hf] at h
    | some r =>
     simp only [hf,Option.map_some,Option.some.injEq] at h
     subst h
     cases j with
     | zero=>simp only [List.getElem?_cons_zero,Option.some.injEq] at hu; rw [← hu]; exact hne
     | succ j=>exact ih hf (Nat.lt_of_succ_lt_succ hj) (by simpa using hu)

set_option maxRecDepth 100000 in
set_option maxHeartbeats 4000000 in
theorem rput_no {b:Nat} {L:List T} {m:Int} {a:Option Addr} {cap:Nat} (k:Int) (s:ByteArray) (n a1 b1 c1:Int) {w:World} (h:RStoAt w b L m a cap) (hm:¬ T.may L.length ⟨k,s,n,a1,b1,c1⟩) :
 Calls Try.prog 52 #[.pointer (some ⟨b,0,none⟩),T.val ⟨k,s,n,a1,b1,c1⟩] w fun e w'=>e = .returned (.tuple #[.int .i64 0,.int .i64 1]) ∧ Below w.heap.size w w':=by
 have Hq:Hid (∀ w',RStoAt w' b L m a cap → Calls Try.prog 78 #[.pointer (some ⟨b,0,none⟩),.agg #[.int .i64 k,.string s,.int .u64 n,.int .i64 a1,.int .i64 b1,.int .i64 c1]] w' fun e w''=>e = .returned (.bool false) ∧ Below w'.heap.size w' w''):=hid fun w' h'=>by
  have hq:=rmay_calls k s n a1 b1 c1 h'
  rw [decide_eq_false hm] at hq
  exact hq
 have Hs:Hid (∀ o,RStoAt (w.alloc o) b L m a cap):=hid fun o=>h.later ((Below.refl _ _).alloc (Nat.le_refl _) _)
 clear h hm
 simp only [T.val]
 go_enter Try.func52,Try.ntmps52
 go_wp2_with fail
 refine (Hq.out _ (Hs.out _)).mono ?_
 rintro e w1 ⟨rfl,hb1⟩
 have hbw:Below w.heap.size w w1:=((Below.refl _ _).alloc (Nat.le_refl _) _).trans (hb1.mono (by simp <;> omega))
 clear hb1 Hq Hs
 go_wp2_with fail
 go_ret2
 exact ⟨rfl,hbw⟩

set_option maxRecDepth 100000 in
set_option maxHeartbeats 4000000 in
theorem rput_is {b:Nat} {L:List T} {m:Int} {a:Option Addr} {cap:Nat} (k:Int) (s:ByteArray) (n a1 b1 c1:Int) {w:World} (h:RStoAt w b L m a cap) (hm:T.may L.length ⟨k,s,n,a1,b1,c1⟩) {i:Nat} (hi:find ⟨k,s,n,a1,b1,c1⟩ L = some i) :
 Calls Try.prog 52 #[.pointer (some ⟨b,0,none⟩),T.val ⟨k,s,n,a1,b1,c1⟩] w fun e w'=>e = .returned (.tuple #[.int .i64 ((i:Int) + 1),.int .i64 0]) ∧ Below w.heap.size w w':=by
 have Hi:=hid hi
 have hil:=find_lt hi
 have hl:L.length ≤ 1048576:=by have:=h.ok.m1; have:=h.ok.len; omega
 clear hi
 have Hq:Hid (∀ w',RStoAt w' b L m a cap → Calls Try.prog 78 #[.pointer (some ⟨b,0,none⟩),.agg #[.int .i64 k,.string s,.int .u64 n,.int .i64 a1,.int .i64 b1,.int .i64 c1]] w' fun e w''=>e = .returned (.bool true) ∧ Below w'.heap.size w' w''):=hid fun w' h'=>by
  have hq:=rmay_calls k s n a1 b1 c1 h'
  rw [decide_eq_true hm] at hq
  exact hq
 have Hs:Hid (∀ o,RStoAt (w.alloc o) b L m a cap):=hid fun o=>h.later ((Below.refl _ _).alloc (Nat.le_refl _) _)
 clear h hm
 simp only [T.val]
 go_enter Try.func52,Try.ntmps52
 go_wp2_with fail
 refine (Hq.out _ (Hs.out _)).mono ?_
 rintro e w1 ⟨rfl,hb1⟩
 have hs1:=(Hs.out _).later hb1
 have hbox:w1.heap[w.heap.size]? = some (.cells #[.int .i64 k,.string s,.int .u64 n,.int .i64 a1,.int .i64 b1,.int .i64 c1] 114):=by rw [hb1.block _ (by simp)]; exact heap_at rfl
 have hbw:Below w.heap.size w w1:=((Below.refl _ _).alloc (Nat.le_refl _) _).trans (hb1.mono (by simp <;> omega))
 clear hb1
 have d0:∀ x:Later w1,x.w.cell? ⟨w.heap.size,0,none⟩ = some (.int .i64 k):=fun x=>x.cell (by rw [cell_of_heap hbox]; rfl)
 have d1:∀ x:Later w1,x.w.cell? ⟨w.heap.size,1,none⟩ = some (.string s):=fun x=>x.cell (by rw [cell_of_heap hbox]; rfl)
 have d2:∀ x:Later w1,x.w.cell? ⟨w.heap.size,2,none⟩ = some (.int .u64 n):=fun x=>x.cell (by rw [cell_of_heap hbox]; rfl)
 have d3:∀ x:Later w1,x.w.cell? ⟨w.heap.size,3,none⟩ = some (.int .i64 a1):=fun x=>x.cell (by rw [cell_of_heap hbox]; rfl)
 have d4:∀ x:Later w1,x.w.cell? ⟨w.heap.size,4,none⟩ = some (.int .i64 b1):=fun x=>x.cell (by rw [cell_of_heap hbox]; rfl)
 have d5:∀ x:Later w1,x.w.cell? ⟨w.heap.size,5,none⟩ = some (.int .i64 c1):=fun x=>x.cell (by rw [cell_of_heap hbox]; rfl)
 have D0:=hid d0
 have D1:=hid d1
 have D2:=hid d2
 have D3:=hid d3
 have D4:=hid d4
 have D5:=hid d5
 have Hs1:=hid hs1
 have Hbox:=hid hbox
 have Hbw:=hid hbw
 clear hbox hbw hs1 d0 d1 d2 d3 d4 d5
 go_wp2_with fail
 go_loopw [6] (fun i6 wr=>∃ j:Nat,j ≤ i ∧ i6 = .int .i64 j ∧ Hid (Below w1.heap.size w1 wr)) (fun i6 _=>i - (intOf i6).toNat)
 case atStart=>exact ⟨0,Nat.zero_le _,rfl,hid (Below.refl _ _)⟩
 case round =>
  obtain ⟨j,hj,rfl,Hb⟩:=hrel
  obtain ⟨t,ht⟩:∃ t,L[j]? = some t:=⟨L[j]'(by omega),List.getElem?_eq_getElem _⟩
  by_cases hu:t = ⟨k,s,n,a1,b1,c1⟩
  · have hji:j = i:=by
     by_cases hlt:j < i
     · exact absurd hu (find_ne Hi.out hlt ht)
     · omega
    have Hji:=hid hji
    clear hji
    obtain ⟨k',s',n',a2,b2,c2⟩:=t
    obtain ⟨g,rfl,hg,hc⟩:=Hs1.out.cl j ⟨k',s',n',a2,b2,c2⟩ ht
    have e0:∀ x:Later wr,x.w.cell? ⟨b,0,none⟩ = some (.slice (some ⟨g,0,none⟩) L.length cap):=fun x=>x.cell ((Hb.out.cell (p:=⟨b,0,none⟩) Hs1.out.lt).trans Hs1.out.c0)
    have r0:wr.cell? ⟨b,0,none⟩ = some (.slice (some ⟨g,0,none⟩) L.length cap):=(Hb.out.cell (p:=⟨b,0,none⟩) Hs1.out.lt).trans Hs1.out.c0
    have g0:∀ x:Later wr,x.w.cell? ⟨g,j * 6,none⟩ = some (.int .i64 k'):=fun x=>x.cell ((Hb.out.cell (p:=⟨g,j * 6 + 0,none⟩) hg).trans (hc 0 _ rfl))
    have g1:∀ x:Later wr,x.w.cell? ⟨g,j * 6 + 1,none⟩ = some (.string s'):=fun x=>x.cell ((Hb.out.cell (p:=⟨g,j * 6 + 1,none⟩) hg).trans (hc 1 _ rfl))
    have g2:∀ x:Later wr,x.w.cell? ⟨g,j * 6 + 2,none⟩ = some (.int .u64 n'):=fun x=>x.cell ((Hb.out.cell (p:=⟨g,j * 6 + 2,none⟩) hg).trans (hc 2 _ rfl))
    have g3:∀ x:Later wr,x.w.cell? ⟨g,j * 6 + 3,none⟩ = some (.int .i64 a2):=fun x=>x.cell ((Hb.out.cell (p:=⟨g,j * 6 + 3,none⟩) hg).trans (hc 3 _ rfl))
    have g4:∀ x:Later wr,x.w.cell? ⟨g,j * 6 + 4,none⟩ = some (.int .i64 b2):=fun x=>x.cell ((Hb.out.cell (p:=⟨g,j * 6 + 4,none⟩) hg).trans (hc 4 _ rfl))
    have g5:∀ x:Later wr,x.w.cell? ⟨g,j * 6 + 5,none⟩ = some (.int .i64 c2):=fun x=>x.cell ((Hb.out.cell (p:=⟨g,j * 6 + 5,none⟩) hg).trans (hc 5 _ rfl))
    have f0:∀ x:Later wr,x.w.cell? ⟨w.heap.size,0,none⟩ = some (.int .i64 k):=fun x=>D0.out ⟨x.w,Hb.out.trans (x.below.mono Hb.out.size)⟩
    have f1:∀ x:Later wr,x.w.cell? ⟨w.heap.size,1,none⟩ = some (.string s):=fun x=>D1.out ⟨x.w,Hb.out.trans (x.below.mono Hb.out.size)⟩
    have f2:∀ x:Later wr,x.w.cell? ⟨w.heap.size,2,none⟩ = some (.int .u64 n):=fun x=>D2.out ⟨x.w,Hb.out.trans (x.below.mono Hb.out.size)⟩
    have f3:∀ x:Later wr,x.w.cell? ⟨w.heap.size,3,none⟩ = some (.int .i64 a1):=fun x=>D3.out ⟨x.w,Hb.out.trans (x.below.mono Hb.out.size)⟩
    have f4:∀ x:Later wr,x.w.cell? ⟨w.heap.size,4,none⟩ = some (.int .i64 b1):=fun x=>D4.out ⟨x.w,Hb.out.trans (x.below.mono Hb.out.size)⟩
    have f5:∀ x:Later wr,x.w.cell? ⟨w.heap.size,5,none⟩ = some (.int .i64 c1):=fun x=>D5.out ⟨x.w,Hb.out.trans (x.below.mono Hb.out.size)⟩
    have hj0:(0:Int) ≤ (j:Int):=by omega
    have hj1:(j:Int) < (L.length:Int):=by omega
    have hd1:decide ((j:Int) < (L.length:Int)) = true:=by simp; omega
    have hd2:decide (j < L.length) = true:=by simp; omega
    have heq:∀ w:World,(binOp .eql 114 (.agg #[.int .i64 k',.string s',.int .u64 n',.int .i64 a2,.int .i64 b2,.int .i64 c2]) (.agg #[.int .i64 k,.string s,.int .u64 n,.int .i64 a1,.int .i64 b1,.int .i64 c1])).run Try.prog w = .ok (.bool true) w:=fun w=>by
     have:=reql_T ⟨k',s',n',a2,b2,c2⟩ ⟨k,s,n,a1,b1,c1⟩ w
     rw [decide_eq_true hu] at this
     exact this
    clear hu hc hg
    go_wp2_with fail
    refine wp_region_calm (by kernel_rfl) (by kernel_rfl) ?_
    repeat (go_big_quiet_step (fail))
    refine wpQuiet_nil ?_
    intro w3 hw3
    obtain ⟨⟨w3,hb3⟩,rfl⟩:=hw3
    clear e0 r0 g0 g1 g2 g3 g4 g5 f0 f1 f2 f3 f4 f5 heq
    go_wp2_with fail
    go_ret2
    exact ⟨by rw [← Hji.out]; rfl,Hbw.out.trans ((Hb.out.trans (hb3.mono Hb.out.size)).mono Hbw.out.size)⟩
  · have hlt:j < i:=by
     by_cases hlt:j < i
     · exact hlt
     · have:j = i:=by omega
       rw [this,find_some Hi.out] at ht
       exact absurd (Option.some.inj ht).symm hu
    obtain ⟨k',s',n',a2,b2,c2⟩:=t
    obtain ⟨g,rfl,hg,hc⟩:=Hs1.out.cl j ⟨k',s',n',a2,b2,c2⟩ ht
    have e0:∀ x:Later wr,x.w.cell? ⟨b,0,none⟩ = some (.slice (some ⟨g,0,none⟩) L.length cap):=fun x=>x.cell ((Hb.out.cell (p:=⟨b,0,none⟩) Hs1.out.lt).trans Hs1.out.c0)
    have r0:wr.cell? ⟨b,0,none⟩ = some (.slice (some ⟨g,0,none⟩) L.length cap):=(Hb.out.cell (p:=⟨b,0,none⟩) Hs1.out.lt).trans Hs1.out.c0
    have g0:∀ x:Later wr,x.w.cell? ⟨g,j * 6,none⟩ = some (.int .i64 k'):=fun x=>x.cell ((Hb.out.cell (p:=⟨g,j * 6 + 0,none⟩) hg).trans (hc 0 _ rfl))
    have g1:∀ x:Later wr,x.w.cell? ⟨g,j * 6 + 1,none⟩ = some (.string s'):=fun x=>x.cell ((Hb.out.cell (p:=⟨g,j * 6 + 1,none⟩) hg).trans (hc 1 _ rfl))
    have g2:∀ x:Later wr,x.w.cell? ⟨g,j * 6 + 2,none⟩ = some (.int .u64 n'):=fun x=>x.cell ((Hb.out.cell (p:=⟨g,j * 6 + 2,none⟩) hg).trans (hc 2 _ rfl))
    have g3:∀ x:Later wr,x.w.cell? ⟨g,j * 6 + 3,none⟩ = some (.int .i64 a2):=fun x=>x.cell ((Hb.out.cell (p:=⟨g,j * 6 + 3,none⟩) hg).trans (hc 3 _ rfl))
    have g4:∀ x:Later wr,x.w.cell? ⟨g,j * 6 + 4,none⟩ = some (.int .i64 b2):=fun x=>x.cell ((Hb.out.cell (p:=⟨g,j * 6 + 4,none⟩) hg).trans (hc 4 _ rfl))
    have g5:∀ x:Later wr,x.w.cell? ⟨g,j * 6 + 5,none⟩ = some (.int .i64 c2):=fun x=>x.cell ((Hb.out.cell (p:=⟨g,j * 6 + 5,none⟩) hg).trans (hc 5 _ rfl))
    have f0:∀ x:Later wr,x.w.cell? ⟨w.heap.size,0,none⟩ = some (.int .i64 k):=fun x=>D0.out ⟨x.w,Hb.out.trans (x.below.mono Hb.out.size)⟩
    have f1:∀ x:Later wr,x.w.cell? ⟨w.heap.size,1,none⟩ = some (.string s):=fun x=>D1.out ⟨x.w,Hb.out.trans (x.below.mono Hb.out.size)⟩
    have f2:∀ x:Later wr,x.w.cell? ⟨w.heap.size,2,none⟩ = some (.int .u64 n):=fun x=>D2.out ⟨x.w,Hb.out.trans (x.below.mono Hb.out.size)⟩
    have f3:∀ x:Later wr,x.w.cell? ⟨w.heap.size,3,none⟩ = some (.int .i64 a1):=fun x=>D3.out ⟨x.w,Hb.out.trans (x.below.mono Hb.out.size)⟩
    have f4:∀ x:Later wr,x.w.cell? ⟨w.heap.size,4,none⟩ = some (.int .i64 b1):=fun x=>D4.out ⟨x.w,Hb.out.trans (x.below.mono Hb.out.size)⟩
    have f5:∀ x:Later wr,x.w.cell? ⟨w.heap.size,5,none⟩ = some (.int .i64 c1):=fun x=>D5.out ⟨x.w,Hb.out.trans (x.below.mono Hb.out.size)⟩
    have hj0:(0:Int) ≤ (j:Int):=by omega
    have hj1:(j:Int) < (L.length:Int):=by omega
    have hd1:decide ((j:Int) < (L.length:Int)) = true:=by simp; omega
    have hd2:decide (j < L.length) = true:=by simp; omega
    have heq:∀ w:World,(binOp .eql 114 (.agg #[.int .i64 k',.string s',.int .u64 n',.int .i64 a2,.int .i64 b2,.int .i64 c2]) (.agg #[.int .i64 k,.string s,.int .u64 n,.int .i64 a1,.int .i64 b1,.int .i64 c1])).run Try.prog w = .ok (.bool false) w:=fun w=>by
     have:=reql_T ⟨k',s',n',a2,b2,c2⟩ ⟨k,s,n,a1,b1,c1⟩ w
     rw [decide_eq_false hu] at this
     exact this
    clear hu hc hg
    go_wp2_with fail
    refine wp_region_calm (by kernel_rfl) (by kernel_rfl) ?_
    repeat (go_big_quiet_step (fail))
    refine wpQuiet_nil ?_
    intro w3 hw3
    obtain ⟨⟨w3,hb3⟩,rfl⟩:=hw3
    clear e0 r0 g0 g1 g2 g3 g4 g5 f0 f1 f2 f3 f4 f5 heq
    go_wp2_with fail
    go_roundw
    case rel=>exact ⟨j + 1,by omega,by go_num,hid (Hb.out.trans (hb3.mono Hb.out.size))⟩
    case measure=>simp [intOf]; omega

set_option maxRecDepth 100000 in
set_option maxHeartbeats 4000000 in
theorem rput_full {b:Nat} {L:List T} {m:Int} {a:Option Addr} {cap:Nat} (k:Int) (s:ByteArray) (n a1 b1 c1:Int) {w:World} (h:RStoAt w b L m a cap) (hm:T.may L.length ⟨k,s,n,a1,b1,c1⟩) (hi:find ⟨k,s,n,a1,b1,c1⟩ L = none) (hfull:m ≤ L.length) :
 Calls Try.prog 52 #[.pointer (some ⟨b,0,none⟩),T.val ⟨k,s,n,a1,b1,c1⟩] w fun e w'=>e = .returned (.tuple #[.int .i64 0,.int .i64 4]) ∧ Below w.heap.size w w':=by
 have Hi:=hid hi
 have hl:L.length ≤ 1048576:=by have:=h.ok.m1; have:=h.ok.len; omega
 clear hi
 have Hq:Hid (∀ w',RStoAt w' b L m a cap → Calls Try.prog 78 #[.pointer (some ⟨b,0,none⟩),.agg #[.int .i64 k,.string s,.int .u64 n,.int .i64 a1,.int .i64 b1,.int .i64 c1]] w' fun e w''=>e = .returned (.bool true) ∧ Below w'.heap.size w' w''):=hid fun w' h'=>by
  have hq:=rmay_calls k s n a1 b1 c1 h'
  rw [decide_eq_true hm] at hq
  exact hq
 have Hs:Hid (∀ o,RStoAt (w.alloc o) b L m a cap):=hid fun o=>h.later ((Below.refl _ _).alloc (Nat.le_refl _) _)
 clear h hm
 simp only [T.val]
 go_enter Try.func52,Try.ntmps52
 go_wp2_with fail
 refine (Hq.out _ (Hs.out _)).mono ?_
 rintro e w1 ⟨rfl,hb1⟩
 have hs1:=(Hs.out _).later hb1
 have hbox:w1.heap[w.heap.size]? = some (.cells #[.int .i64 k,.string s,.int .u64 n,.int .i64 a1,.int .i64 b1,.int .i64 c1] 114):=by rw [hb1.block _ (by simp)]; exact heap_at rfl
 have hbw:Below w.heap.size w w1:=((Below.refl _ _).alloc (Nat.le_refl _) _).trans (hb1.mono (by simp <;> omega))
 clear hb1
 have d0:∀ x:Later w1,x.w.cell? ⟨w.heap.size,0,none⟩ = some (.int .i64 k):=fun x=>x.cell (by rw [cell_of_heap hbox]; rfl)
 have d1:∀ x:Later w1,x.w.cell? ⟨w.heap.size,1,none⟩ = some (.string s):=fun x=>x.cell (by rw [cell_of_heap hbox]; rfl)
 have d2:∀ x:Later w1,x.w.cell? ⟨w.heap.size,2,none⟩ = some (.int .u64 n):=fun x=>x.cell (by rw [cell_of_heap hbox]; rfl)
 have d3:∀ x:Later w1,x.w.cell? ⟨w.heap.size,3,none⟩ = some (.int .i64 a1):=fun x=>x.cell (by rw [cell_of_heap hbox]; rfl)
 have d4:∀ x:Later w1,x.w.cell? ⟨w.heap.size,4,none⟩ = some (.int .i64 b1):=fun x=>x.cell (by rw [cell_of_heap hbox]; rfl)
 have d5:∀ x:Later w1,x.w.cell? ⟨w.heap.size,5,none⟩ = some (.int .i64 c1):=fun x=>x.cell (by rw [cell_of_heap hbox]; rfl)
 have D0:=hid d0
 have D1:=hid d1
 have D2:=hid d2
 have D3:=hid d3
 have D4:=hid d4
 have D5:=hid d5
 have Hs1:=hid hs1
 have Hbox:=hid hbox
 have Hbw:=hid hbw
 clear hbox hbw hs1 d0 d1 d2 d3 d4 d5
 go_wp2_with fail
 go_loopw [6] (fun i6 wr=>∃ j:Nat,j ≤ L.length ∧ i6 = .int .i64 j ∧ Hid (Below w1.heap.size w1 wr)) (fun i6 _=>L.length - (intOf i6).toNat)
 case atStart=>exact ⟨0,Nat.zero_le _,rfl,hid (Below.refl _ _)⟩
 case round =>
  obtain ⟨j,hj,rfl,Hb⟩:=hrel
  by_cases hlt:j < L.length
  · obtain ⟨t,ht⟩:∃ t,L[j]? = some t:=⟨L[j]'(by omega),List.getElem?_eq_getElem _⟩
    have hu:t ≠ ⟨k,s,n,a1,b1,c1⟩:=fun e=>find_none.1 Hi.out (by rw [← e]; exact List.mem_of_getElem? ht)
    obtain ⟨k',s',n',a2,b2,c2⟩:=t
    obtain ⟨g,rfl,hg,hc⟩:=Hs1.out.cl j ⟨k',s',n',a2,b2,c2⟩ ht
    have e0:∀ x:Later wr,x.w.cell? ⟨b,0,none⟩ = some (.slice (some ⟨g,0,none⟩) L.length cap):=fun x=>x.cell ((Hb.out.cell (p:=⟨b,0,none⟩) Hs1.out.lt).trans Hs1.out.c0)
    have r0:wr.cell? ⟨b,0,none⟩ = some (.slice (some ⟨g,0,none⟩) L.length cap):=(Hb.out.cell (p:=⟨b,0,none⟩) Hs1.out.lt).trans Hs1.out.c0
    have g0:∀ x:Later wr,x.w.cell? ⟨g,j * 6,none⟩ = some (.int .i64 k'):=fun x=>x.cell ((Hb.out.cell (p:=⟨g,j * 6 + 0,none⟩) hg).trans (hc 0 _ rfl))
    have g1:∀ x:Later wr,x.w.cell? ⟨g,j * 6 + 1,none⟩ = some (.string s'):=fun x=>x.cell ((Hb.out.cell (p:=⟨g,j * 6 + 1,none⟩) hg).trans (hc 1 _ rfl))
    have g2:∀ x:Later wr,x.w.cell? ⟨g,j * 6 + 2,none⟩ = some (.int .u64 n'):=fun x=>x.cell ((Hb.out.cell (p:=⟨g,j * 6 + 2,none⟩) hg).trans (hc 2 _ rfl))
    have g3:∀ x:Later wr,x.w.cell? ⟨g,j * 6 + 3,none⟩ = some (.int .i64 a2):=fun x=>x.cell ((Hb.out.cell (p:=⟨g,j * 6 + 3,none⟩) hg).trans (hc 3 _ rfl))
    have g4:∀ x:Later wr,x.w.cell? ⟨g,j * 6 + 4,none⟩ = some (.int .i64 b2):=fun x=>x.cell ((Hb.out.cell (p:=⟨g,j * 6 + 4,none⟩) hg).trans (hc 4 _ rfl))
    have g5:∀ x:Later wr,x.w.cell? ⟨g,j * 6 + 5,none⟩ = some (.int .i64 c2):=fun x=>x.cell ((Hb.out.cell (p:=⟨g,j * 6 + 5,none⟩) hg).trans (hc 5 _ rfl))
    have f0:∀ x:Later wr,x.w.cell? ⟨w.heap.size,0,none⟩ = some (.int .i64 k):=fun x=>D0.out ⟨x.w,Hb.out.trans (x.below.mono Hb.out.size)⟩
    have f1:∀ x:Later wr,x.w.cell? ⟨w.heap.size,1,none⟩ = some (.string s):=fun x=>D1.out ⟨x.w,Hb.out.trans (x.below.mono Hb.out.size)⟩
    have f2:∀ x:Later wr,x.w.cell? ⟨w.heap.size,2,none⟩ = some (.int .u64 n):=fun x=>D2.out ⟨x.w,Hb.out.trans (x.below.mono Hb.out.size)⟩
    have f3:∀ x:Later wr,x.w.cell? ⟨w.heap.size,3,none⟩ = some (.int .i64 a1):=fun x=>D3.out ⟨x.w,Hb.out.trans (x.below.mono Hb.out.size)⟩
    have f4:∀ x:Later wr,x.w.cell? ⟨w.heap.size,4,none⟩ = some (.int .i64 b1):=fun x=>D4.out ⟨x.w,Hb.out.trans (x.below.mono Hb.out.size)⟩
    have f5:∀ x:Later wr,x.w.cell? ⟨w.heap.size,5,none⟩ = some (.int .i64 c1):=fun x=>D5.out ⟨x.w,Hb.out.trans (x.below.mono Hb.out.size)⟩
    have hj0:(0:Int) ≤ (j:Int):=by omega
    have hj1:(j:Int) < (L.length:Int):=by omega
    have hd1:decide ((j:Int) < (L.length:Int)) = true:=by simp; omega
    have hd2:decide (j < L.length) = true:=by simp; omega
    have heq:∀ w:World,(binOp .eql 114 (.agg #[.int .i64 k',.string s',.int .u64 n',.int .i64 a2,.int .i64 b2,.int .i64 c2]) (.agg #[.int .i64 k,.string s,.int .u64 n,.int .i64 a1,.int .i64 b1,.int .i64 c1])).run Try.prog w = .ok (.bool false) w:=fun w=>by
     have:=reql_T ⟨k',s',n',a2,b2,c2⟩ ⟨k,s,n,a1,b1,c1⟩ w
     rw [decide_eq_false hu] at this
     exact this
    clear hu hc hg
    go_wp2_with fail
    refine wp_region_calm (by kernel_rfl) (by kernel_rfl) ?_
    repeat (go_big_quiet_step (fail))
    refine wpQuiet_nil ?_
    intro w3 hw3
    obtain ⟨⟨w3,hb3⟩,rfl⟩:=hw3
    clear e0 r0 g0 g1 g2 g3 g4 g5 f0 f1 f2 f3 f4 f5 heq
    go_wp2_with fail
    go_roundw
    case rel=>exact ⟨j + 1,by omega,by go_num,hid (Hb.out.trans (hb3.mono Hb.out.size))⟩
    case measure=>simp [intOf]; omega
  · obtain rfl:j = L.length:=by omega
    have r0:wr.cell? ⟨b,0,none⟩ = some (.slice a L.length cap):=(Hb.out.cell (p:=⟨b,0,none⟩) Hs1.out.lt).trans Hs1.out.c0
    have e0:∀ x:Later wr,x.w.cell? ⟨b,0,none⟩ = some (.slice a L.length cap):=fun x=>x.cell r0
    have e1:∀ x:Later wr,x.w.cell? ⟨b,1,none⟩ = some (.int .i64 m):=fun x=>x.cell ((Hb.out.cell (p:=⟨b,1,none⟩) Hs1.out.lt).trans Hs1.out.c1)
    have hd:decide (m ≤ (L.length:Int)) = true:=by simpa using hfull
    clear hfull hlt hj
    go_wp2_with fail
    refine wp_region_calm (by kernel_rfl) (by kernel_rfl) ?_
    repeat (go_big_quiet_step (fail))
    refine wpQuiet_nil ?_
    intro w3 hw3
    obtain ⟨⟨w3,hb3⟩,rfl⟩:=hw3
    clear e0 r0 e1
    go_wp2_with fail
    go_ret2
    exact ⟨rfl,Hbw.out.trans ((Hb.out.trans (hb3.mono Hb.out.size)).mono Hbw.out.size)⟩
end Go.Proofs.Ytpcfmafokkffgaa
