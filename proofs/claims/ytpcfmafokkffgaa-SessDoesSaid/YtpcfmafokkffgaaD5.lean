/-
  Walks and laws that the proof stands on, one behind another: PureL Kdf RKdf ChainA ChainB ChainC ChainD ChainE ChainP ChainQ FixCh KnowN ChainR ChainU. For every input.
-/
import Derived.Test.YtpcfmafokkffgaaD3
import Derived.RangeFuncNested
import Derived.RangeFuncBound
import Derived.RangeFuncCalls
import Derived.RangeFuncLeaves
import Derived.Shelf.Abstract
import Derived.Shelf.RegionOpen
import Derived.OwnWalkIn
import Derived.TacticsInMore
import Derived.LoopNIn
import Derived.LoopIn
import Derived.RangeFuncRecord
import Derived.Test.YtpcfmafokkffgaaD2
import Derived.Laws.AppendOwnNone
namespace Go.Proofs.Ytpcfmafokkffgaa

/-- What is wrapped. -/
def wrap4 (m:Int) (L:List T) (p d:Int):Int × Int × Int × List T :=
 if (getT L p).k = 5 ∧ getB L d = true then
  if (put m L (boxT (getT L p).a d)).2.1 = 0 then
   if (put m (put m L (boxT (getT L p).a d)).2.2 (kemT (getT L p).a d)).2.1 = 0 then
    ((put m L (boxT (getT L p).a d)).1,(put m (put m L (boxT (getT L p).a d)).2.2 (kemT (getT L p).a d)).1,0,(put m (put m L (boxT (getT L p).a d)).2.2 (kemT (getT L p).a d)).2.2)
   else (0,0,(put m (put m L (boxT (getT L p).a d)).2.2 (kemT (getT L p).a d)).2.1,(put m (put m L (boxT (getT L p).a d)).2.2 (kemT (getT L p).a d)).2.2)
  else (0,0,(put m L (boxT (getT L p).a d)).2.1,(put m L (boxT (getT L p).a d)).2.2)
 else (0,0,1,L)

/-- What was wrapped, opened. -/
def open4 (m:Int) (L:List T) (s x:Int):Int × Int × List T :=
 if getB L s = true ∧ getB L x = true then
  if (getT L x).k = 6 ∧ (getT L x).a = s then put m L (kemT s (getT L x).b) else (0,10,L)
 else (0,1,L)

/-- Both keys that come of a key and what is mixed in. -/
def mix6 (m:Int) (L:List T) (k i:Int):Int × Int × Int × List T :=
 if (put m L (hasT k i)).2.1 = 0 then
  if (put m (put m L (hasT k i)).2.2 (keyT (put m L (hasT k i)).1 1)).2.1 = 0 then
   if (put m (put m (put m L (hasT k i)).2.2 (keyT (put m L (hasT k i)).1 1)).2.2 (keyT (put m L (hasT k i)).1 2)).2.1 = 0 then
    ((put m (put m L (hasT k i)).2.2 (keyT (put m L (hasT k i)).1 1)).1,(put m (put m (put m L (hasT k i)).2.2 (keyT (put m L (hasT k i)).1 1)).2.2 (keyT (put m L (hasT k i)).1 2)).1,0,
     (put m (put m (put m L (hasT k i)).2.2 (keyT (put m L (hasT k i)).1 1)).2.2 (keyT (put m L (hasT k i)).1 2)).2.2)
   else (0,0,(put m (put m (put m L (hasT k i)).2.2 (keyT (put m L (hasT k i)).1 1)).2.2 (keyT (put m L (hasT k i)).1 2)).2.1,(put m (put m (put m L (hasT k i)).2.2 (keyT (put m L (hasT k i)).1 1)).2.2 (keyT (put m L (hasT k i)).1 2)).2.2)
  else (0,0,(put m (put m L (hasT k i)).2.2 (keyT (put m L (hasT k i)).1 1)).2.1,(put m (put m L (hasT k i)).2.2 (keyT (put m L (hasT k i)).1 1)).2.2)
 else (0,0,(put m L (hasT k i)).2.1,(put m L (hasT k i)).2.2)

/-- Derived so often. -/
def chainN (m n:Int):Nat → List T → Int → Int × Int × List T
 | 0,L,k=>(k,0,L)
 | r + 1,L,k=>if (put m L (keyT k n)).2.1 = 0 then chainN m n r (put m L (keyT k n)).2.2 (put m L (keyT k n)).1 else (0,(put m L (keyT k n)).2.1,(put m L (keyT k n)).2.2)
def chain6 (m:Int) (L:List T) (k n times:Int):Int × Int × List T :=
 if getB L k = true ∧ 0 ≤ times ∧ times ≤ 1000 then chainN m n times.toNat L k else (0,1,L)

/-- What was sealed. -/
def open5 (L:List T) (k n b s:Int):Int × Int :=
 if getB L k = true ∧ getB L b = true ∧ getB L s = true then
  if getT L s = seaT k n b (getT L s).c then ((getT L s).c,0) else (0,9)
 else (0,1)
def text5 (m:Int) (L:List T) (k n b:Int) (s:ByteArray):Int × Int × List T :=
 if getB L k = true ∧ getB L b = true then
  if (put m L (txtT s)).2.1 = 0 then put m (put m L (txtT s)).2.2 (seaT k n b (put m L (txtT s)).1) else (0,(put m L (txtT s)).2.1,(put m L (txtT s)).2.2)
 else (0,1,L)
def read5 (L:List T) (k n b s:Int):ByteArray × Int :=
 if (open5 L k n b s).2 = 0 then
  if (getT L (open5 L k n b s).1).k = 1 then ((getT L (open5 L k n b s).1).s,0) else (⟨#[]⟩,9)
 else (⟨#[]⟩,(open5 L k n b s).2)

/-- What a store of good terms holds of a seal. -/
theorem sea_iff {L:List T} {k n b s:Int} (g:Good L):getT L s = seaT k n b (getT L s).c ↔ (getT L s).k = 10 ∧ (getT L s).a = k ∧ (getT L s).n = n ∧ (getT L s).b = b:=by
 constructor
 · intro h
   rw [h]
   exact ⟨rfl,rfl,rfl,rfl⟩
 · rintro ⟨h1,h2,h3,h4⟩
   by_cases hs:1 ≤ s ∧ s ≤ L.length
   · have ha:=at_getT hs.1 hs.2
     have hm:=(ha.may g).2.2.1
     generalize getT L s = t at *
     obtain ⟨tk,ts,tn,ta,tb,tc⟩:=t
     simp only at h1 h2 h3 h4
     subst h1 h2 h3 h4
     have:=congrArg T.s hm
     simp only [T.only] at this
     rw [if_neg (by decide)] at this
     rw [this]; rfl
   · have hz:getT L s = zeroT:=by
      unfold getT get
      split
      · rw [List.getElem?_eq_none (by omega)]; rfl
      · rfl
     rw [hz] at h1
     exact absurd h1 (by decide)
end Go.Proofs.Ytpcfmafokkffgaa
namespace Go.Proofs.Ytpcfmafokkffgaa
open Go.RowKit


set_option maxRecDepth 100000 in
set_option maxHeartbeats 1000000 in
theorem derive_calls {W w:World} {Rs:List Res} {b:Nat} {L:List T} {m:Int} (k n:Int) (h:Hd W w (Sto b L m::Rs)) :
 Calls Try.prog 56 #[.pointer (some ⟨b,0,none⟩),.int .i64 k,.int .u64 n] w fun e w'=>e = .returned (.tuple #[.int .i64 (put m L (keyT k n)).1,.int .i64 (put m L (keyT k n)).2.1]) ∧ Hd W w' (Sto b (put m L (keyT k n)).2.2 m::Rs):=by
 obtain ⟨r1,r2,L2,hq⟩:∃ r1 r2 L2,put m L (keyT k n) = (r1,r2,L2):=⟨_,_,_,rfl⟩
 rw [hq]
 have Hq:=hid hq
 have H:=hid h
 clear hq h
 go_enter Try.func56,Try.ntmps56
 go_wp2_with fail
 refine (put_c 9 ⟨#[]⟩ n k 0 0 Hq (by first | exact H.out | exact H.out.al | exact H.out.al.al | exact H.out.al.al.al | exact H.out.al.al.al.al)).mono ?_
 rintro e w1 ⟨rfl,h1⟩
 replace H:=hid h1
 clear h1
 go_wp2_with fail
 go_ret2
 exact ⟨rfl,H.out⟩


theorem derive_c {W w:World} {Rs:List Res} {b:Nat} {L:List T} {m:Int} (k n:Int) {r1 r2:Int} {L2:List T} (hq:Hid (put m L (keyT k n) = (r1,r2,L2))) (h:Hd W w (Sto b L m::Rs)) :
 Calls Try.prog 56 #[.pointer (some ⟨b,0,none⟩),.int .i64 k,.int .u64 n] w fun e w'=>e = .returned (.tuple #[.int .i64 r1,.int .i64 r2]) ∧ Hd W w' (Sto b L2 m::Rs):=by
 have:=derive_calls k n h
 rw [hq.out] at this
 exact this

end Go.Proofs.Ytpcfmafokkffgaa
namespace Go.Proofs.Ytpcfmafokkffgaa
open Go.RowKit


set_option maxRecDepth 100000 in
set_option maxHeartbeats 1000000 in
theorem rderive_calls {W w:World} {Rs:List Res} {b:Nat} {L:List T} {m:Int} (k n:Int) (h:Hd W w (RSto b L m::Rs)) :
 Calls Try.prog 59 #[.pointer (some ⟨b,0,none⟩),.int .i64 k,.int .u64 n] w fun e w'=>e = .returned (.tuple #[.int .i64 (put m L (keyT k n)).1,.int .i64 (put m L (keyT k n)).2.1]) ∧ Hd W w' (RSto b (put m L (keyT k n)).2.2 m::Rs):=by
 obtain ⟨r1,r2,L2,hq⟩:∃ r1 r2 L2,put m L (keyT k n) = (r1,r2,L2):=⟨_,_,_,rfl⟩
 rw [hq]
 have Hq:=hid hq
 have H:=hid h
 clear hq h
 go_enter Try.func59,Try.ntmps59
 go_wp2_with fail
 refine (rput_c 9 ⟨#[]⟩ n k 0 0 Hq (by first | exact H.out | exact H.out.al | exact H.out.al.al | exact H.out.al.al.al | exact H.out.al.al.al.al)).mono ?_
 rintro e w1 ⟨rfl,h1⟩
 replace H:=hid h1
 clear h1
 go_wp2_with fail
 go_ret2
 exact ⟨rfl,H.out⟩


theorem rderive_c {W w:World} {Rs:List Res} {b:Nat} {L:List T} {m:Int} (k n:Int) {r1 r2:Int} {L2:List T} (hq:Hid (put m L (keyT k n) = (r1,r2,L2))) (h:Hd W w (RSto b L m::Rs)) :
 Calls Try.prog 59 #[.pointer (some ⟨b,0,none⟩),.int .i64 k,.int .u64 n] w fun e w'=>e = .returned (.tuple #[.int .i64 r1,.int .i64 r2]) ∧ Hd W w' (RSto b L2 m::Rs):=by
 have:=rderive_calls k n h
 rw [hq.out] at this
 exact this


end Go.Proofs.Ytpcfmafokkffgaa
namespace Go.Proofs.Ytpcfmafokkffgaa
open Go.RowKit

def next15 (m:Int) (L:List T) (k e:Int):(Int × Int) × Int × List T :=
 if e < 0 ∨ 1000 ≤ e then ((0,0),13,L)
 else if (put m L (keyT k 2)).2.1 = 0 then (((put m L (keyT k 2)).1,e + 1),0,(put m L (keyT k 2)).2.2) else ((0,0),(put m L (keyT k 2)).2.1,(put m L (keyT k 2)).2.2)

section
variable {W w:World} {Rs:List Res} {b:Nat} {L L2:List T} {m r1 r2:Int}

set_option maxRecDepth 100000 in
set_option maxHeartbeats 1000000 in
theorem seal15_calls (k e:Int) (hq:put m L (keyT k 1) = (r1,r2,L2)) (h:Hd W w (Sto b L m::Rs)) :
 Calls Try.prog 21 #[.agg #[.int .i64 k,.int .i64 e],.pointer (some ⟨b,0,none⟩)] w fun e w'=>e = .returned (.tuple #[.int .i64 r1,.int .i64 r2]) ∧ Hd W w' (Sto b L2 m::Rs):=by
 have Hq:=hid hq
 have H:=hid h
 clear hq h
 go_enter Try.func21,Try.ntmps21
 go_wp2_with fail
 refine (derive_c k 1 Hq (by first | exact H.out | exact H.out.al | exact H.out.al.al)).mono ?_
 rintro e w1 ⟨rfl,h1⟩
 replace H:=hid h1
 clear h1
 go_wp2_with fail
 go_ret2
 exact ⟨rfl,H.out⟩

set_option maxRecDepth 100000 in
set_option maxHeartbeats 1000000 in
theorem rseal15_calls (k e:Int) (hq:put m L (keyT k 1) = (r1,r2,L2)) (h:Hd W w (RSto b L m::Rs)) :
 Calls Try.prog 27 #[.pointer (some ⟨b,0,none⟩),.agg #[.int .i64 k,.int .i64 e]] w fun e w'=>e = .returned (.tuple #[.int .i64 r1,.int .i64 r2]) ∧ Hd W w' (RSto b L2 m::Rs):=by
 have Hq:=hid hq
 have H:=hid h
 clear hq h
 go_enter Try.func27,Try.ntmps27
 go_wp2_with fail
 refine (rderive_c k 1 Hq (by first | exact H.out | exact H.out.al | exact H.out.al.al)).mono ?_
 rintro e w1 ⟨rfl,h1⟩
 replace H:=hid h1
 clear h1
 go_wp2_with fail
 go_ret2
 exact ⟨rfl,H.out⟩


set_option maxRecDepth 100000 in
set_option maxHeartbeats 4000000 in
theorem next15_calls (k e:Int) {dk de:Int} (hq:next15 m L k e = ((dk,de),r2,L2)) (h:Hd W w (Sto b L m::Rs)) :
 Calls Try.prog 22 #[.agg #[.int .i64 k,.int .i64 e],.pointer (some ⟨b,0,none⟩)] w fun e' w'=>e' = .returned (.tuple #[.agg #[.int .i64 dk,.int .i64 de],.int .i64 r2]) ∧ Hd W w' (Sto b L2 m::Rs):=by
 have H:=hid (((h.boxk (o:=.cells #[.int .i64 k,.int .i64 e] 32 (0,0)) w.heap.size rfl).boxk (o:=.cells #[.int .i64 0,.int .i64 0] 32 (0,0)) (w.heap.size + 1) (by simp)).front 2 rfl)
 clear h
 unfold next15 at hq
 by_cases he:e < 0 ∨ 1000 ≤ e
 · rw [if_pos he] at hq
   simp only [Prod.mk.injEq] at hq
   obtain ⟨⟨rfl,rfl⟩,rfl,rfl⟩:=hq
   rcases (show e < 0 ∨ (¬ e < 0 ∧ 1000 ≤ e) by omega) with he | ⟨he1,he⟩
   · have d1:decide (e < 0) = true:=by simpa using he
     clear he
     obtain ⟨wo,hwo⟩:∃ wo,(w.alloc (.cells #[.int .i64 k,.int .i64 e] 32 (0,0))).alloc (.cells #[.int .i64 0,.int .i64 0] 32 (0,0)) = wo:=⟨_,rfl⟩
     rw [hwo] at H
     have hk:=Hd.nthk 2 H.out rfl
     have c0:=(cell_of_heap hk 0).trans (show _ = some (.int .i64 k) from rfl)
     have c1:=(cell_of_heap hk 1).trans (show _ = some (.int .i64 e) from rfl)
     have cs:=(Array.getElem?_eq_some_iff.1 hk).1
     clear hk
     have hk:=Hd.nthk 1 H.out rfl
     have q0:=(cell_of_heap hk 0).trans (show _ = some (.int .i64 0) from rfl)
     have q1:=(cell_of_heap hk 1).trans (show _ = some (.int .i64 0) from rfl)
     have qs:=(Array.getElem?_eq_some_iff.1 hk).1
     have qf:=frozen_of_heap hk
     clear hk
     go_enter Try.func22,Try.ntmps22
     go_wp2_with fail
     refine bodyPost_ret (v:=.tuple #[.agg #[.int .i64 0,.int .i64 0],.int .i64 13]) (by simp [results,Try.results22,go_sem,q0,q1]) rfl ⟨rfl,?_⟩
     exact ((((H.out.front 1 rfl).set 0 (.int .i64 0)).set 1 (.int .i64 0)).drop).un2
   · have d1:decide (e < 0) = false:=by simpa using he1
     have d2:decide (1000 ≤ e) = true:=by simp; omega
     clear he he1
     obtain ⟨wo,hwo⟩:∃ wo,(w.alloc (.cells #[.int .i64 k,.int .i64 e] 32 (0,0))).alloc (.cells #[.int .i64 0,.int .i64 0] 32 (0,0)) = wo:=⟨_,rfl⟩
     rw [hwo] at H
     have hk:=Hd.nthk 2 H.out rfl
     have c0:=(cell_of_heap hk 0).trans (show _ = some (.int .i64 k) from rfl)
     have c1:=(cell_of_heap hk 1).trans (show _ = some (.int .i64 e) from rfl)
     have cs:=(Array.getElem?_eq_some_iff.1 hk).1
     clear hk
     have hk:=Hd.nthk 1 H.out rfl
     have q0:=(cell_of_heap hk 0).trans (show _ = some (.int .i64 0) from rfl)
     have q1:=(cell_of_heap hk 1).trans (show _ = some (.int .i64 0) from rfl)
     have qs:=(Array.getElem?_eq_some_iff.1 hk).1
     have qf:=frozen_of_heap hk
     clear hk
     go_enter Try.func22,Try.ntmps22
     go_wp2_with fail
     refine bodyPost_ret (v:=.tuple #[.agg #[.int .i64 0,.int .i64 0],.int .i64 13]) (by simp [results,Try.results22,go_sem,q0,q1]) rfl ⟨rfl,?_⟩
     exact ((((H.out.front 1 rfl).set 0 (.int .i64 0)).set 1 (.int .i64 0)).drop).un2
 · rw [if_neg he] at hq
   have d1:decide (e < 0) = false:=by simp; omega
   have d2:decide (1000 ≤ e) = false:=by simp; omega
   have z1:0 ≤ e:=by omega
   have z2:e ≤ 1000:=by omega
   obtain ⟨p1,p2,L3,hp⟩:∃ p1 p2 L3,put m L (keyT k 2) = (p1,p2,L3):=⟨_,_,_,rfl⟩
   rw [hp] at hq
   have HP:=hid hp
   clear hp he
   go_enter Try.func22,Try.ntmps22
   go_wp2_with fail
   refine (derive_c k 2 HP H.out).mono ?_
   rintro e2 w1 ⟨rfl,h1⟩
   replace H:=hid h1
   clear h1
   by_cases hz:p2 = 0
   · subst hz
     rw [if_pos rfl] at hq
     simp only [Prod.mk.injEq] at hq
     obtain ⟨⟨rfl,rfl⟩,rfl,rfl⟩:=hq
     have hk:=Hd.nthk 2 H.out rfl
     have c0:=(cell_of_heap hk 0).trans (show _ = some (.int .i64 k) from rfl)
     have c1:=(cell_of_heap hk 1).trans (show _ = some (.int .i64 e) from rfl)
     have cs:=(Array.getElem?_eq_some_iff.1 hk).1
     clear hk
     have hk:=Hd.nthk 1 H.out rfl
     have q0:=(cell_of_heap hk 0).trans (show _ = some (.int .i64 0) from rfl)
     have q1:=(cell_of_heap hk 1).trans (show _ = some (.int .i64 0) from rfl)
     have qs:=(Array.getElem?_eq_some_iff.1 hk).1
     have qf:=frozen_of_heap hk
     clear hk
     go_wp2_with fail
     refine bodyPost_ret (v:=.tuple #[.agg #[.int .i64 p1,.int .i64 (e + 1)],.int .i64 0]) (by simp [results,Try.results22,go_sem,q0,q1]) rfl ⟨rfl,?_⟩
     exact ((((H.out.front 1 rfl).set 0 (.int .i64 p1)).set 1 (.int .i64 (e + 1))).drop).un2
   · have dz:(p2 != 0) = true:=by rw [bne_iff_ne]; exact hz
     rw [if_neg hz] at hq
     simp only [Prod.mk.injEq] at hq
     obtain ⟨⟨rfl,rfl⟩,rfl,rfl⟩:=hq
     have dz2:decide (p2 = 0) = false:=by simpa using hz
     clear hz
     have hk:=Hd.nthk 2 H.out rfl
     have c0:=(cell_of_heap hk 0).trans (show _ = some (.int .i64 k) from rfl)
     have c1:=(cell_of_heap hk 1).trans (show _ = some (.int .i64 e) from rfl)
     have cs:=(Array.getElem?_eq_some_iff.1 hk).1
     clear hk
     have hk:=Hd.nthk 1 H.out rfl
     have q0:=(cell_of_heap hk 0).trans (show _ = some (.int .i64 0) from rfl)
     have q1:=(cell_of_heap hk 1).trans (show _ = some (.int .i64 0) from rfl)
     have qs:=(Array.getElem?_eq_some_iff.1 hk).1
     have qf:=frozen_of_heap hk
     clear hk
     go_wp2_with fail
     refine bodyPost_ret (v:=.tuple #[.agg #[.int .i64 0,.int .i64 0],.int .i64 p2]) (by simp [results,Try.results22,go_sem,q0,q1]) rfl ⟨rfl,?_⟩
     exact ((((H.out.front 1 rfl).set 0 (.int .i64 0)).set 1 (.int .i64 0)).drop).un2

set_option maxRecDepth 100000 in
set_option maxHeartbeats 4000000 in
theorem rnext15_calls (k e:Int) {dk de:Int} (hq:next15 m L k e = ((dk,de),r2,L2)) (h:Hd W w (RSto b L m::Rs)) :
 Calls Try.prog 29 #[.pointer (some ⟨b,0,none⟩),.agg #[.int .i64 k,.int .i64 e]] w fun e' w'=>e' = .returned (.tuple #[.agg #[.int .i64 dk,.int .i64 de],.int .i64 r2]) ∧ Hd W w' (RSto b L2 m::Rs):=by
 have H:=hid (((h.boxk (o:=.cells #[.int .i64 k,.int .i64 e] 57 (0,0)) w.heap.size rfl).boxk (o:=.cells #[.int .i64 0,.int .i64 0] 57 (0,0)) (w.heap.size + 1) (by simp)).front 2 rfl)
 clear h
 unfold next15 at hq
 by_cases he:e < 0 ∨ 1000 ≤ e
 · rw [if_pos he] at hq
   simp only [Prod.mk.injEq] at hq
   obtain ⟨⟨rfl,rfl⟩,rfl,rfl⟩:=hq
   rcases (show e < 0 ∨ (¬ e < 0 ∧ 1000 ≤ e) by omega) with he | ⟨he1,he⟩
   · have d1:decide (e < 0) = true:=by simpa using he
     clear he
     obtain ⟨wo,hwo⟩:∃ wo,(w.alloc (.cells #[.int .i64 k,.int .i64 e] 57 (0,0))).alloc (.cells #[.int .i64 0,.int .i64 0] 57 (0,0)) = wo:=⟨_,rfl⟩
     rw [hwo] at H
     have hk:=Hd.nthk 2 H.out rfl
     have c0:=(cell_of_heap hk 0).trans (show _ = some (.int .i64 k) from rfl)
     have c1:=(cell_of_heap hk 1).trans (show _ = some (.int .i64 e) from rfl)
     have cs:=(Array.getElem?_eq_some_iff.1 hk).1
     clear hk
     have hk:=Hd.nthk 1 H.out rfl
     have q0:=(cell_of_heap hk 0).trans (show _ = some (.int .i64 0) from rfl)
     have q1:=(cell_of_heap hk 1).trans (show _ = some (.int .i64 0) from rfl)
     have qs:=(Array.getElem?_eq_some_iff.1 hk).1
     have qf:=frozen_of_heap hk
     clear hk
     go_enter Try.func29,Try.ntmps29
     go_wp2_with fail
     refine bodyPost_ret (v:=.tuple #[.agg #[.int .i64 0,.int .i64 0],.int .i64 13]) (by simp [results,Try.results29,go_sem,q0,q1]) rfl ⟨rfl,?_⟩
     exact ((((H.out.front 1 rfl).set 0 (.int .i64 0)).set 1 (.int .i64 0)).drop).un2
   · have d1:decide (e < 0) = false:=by simpa using he1
     have d2:decide (999 < e) = true:=by simp; omega
     clear he he1
     obtain ⟨wo,hwo⟩:∃ wo,(w.alloc (.cells #[.int .i64 k,.int .i64 e] 57 (0,0))).alloc (.cells #[.int .i64 0,.int .i64 0] 57 (0,0)) = wo:=⟨_,rfl⟩
     rw [hwo] at H
     have hk:=Hd.nthk 2 H.out rfl
     have c0:=(cell_of_heap hk 0).trans (show _ = some (.int .i64 k) from rfl)
     have c1:=(cell_of_heap hk 1).trans (show _ = some (.int .i64 e) from rfl)
     have cs:=(Array.getElem?_eq_some_iff.1 hk).1
     clear hk
     have hk:=Hd.nthk 1 H.out rfl
     have q0:=(cell_of_heap hk 0).trans (show _ = some (.int .i64 0) from rfl)
     have q1:=(cell_of_heap hk 1).trans (show _ = some (.int .i64 0) from rfl)
     have qs:=(Array.getElem?_eq_some_iff.1 hk).1
     have qf:=frozen_of_heap hk
     clear hk
     go_enter Try.func29,Try.ntmps29
     go_wp2_with fail
     refine bodyPost_ret (v:=.tuple #[.agg #[.int .i64 0,.int .i64 0],.int .i64 13]) (by simp [results,Try.results29,go_sem,q0,q1]) rfl ⟨rfl,?_⟩
     exact ((((H.out.front 1 rfl).set 0 (.int .i64 0)).set 1 (.int .i64 0)).drop).un2
 · rw [if_neg he] at hq
   have d1:decide (e < 0) = false:=by simp; omega
   have d2:decide (999 < e) = false:=by simp; omega
   have z1:0 ≤ e:=by omega
   have z2:e ≤ 1000:=by omega
   obtain ⟨p1,p2,L3,hp⟩:∃ p1 p2 L3,put m L (keyT k 2) = (p1,p2,L3):=⟨_,_,_,rfl⟩
   rw [hp] at hq
   have HP:=hid hp
   clear hp he
   go_enter Try.func29,Try.ntmps29
   go_wp2_with fail
   refine (rderive_c k 2 HP H.out).mono ?_
   rintro e2 w1 ⟨rfl,h1⟩
   replace H:=hid h1
   clear h1
   by_cases hz:p2 = 0
   · subst hz
     rw [if_pos rfl] at hq
     simp only [Prod.mk.injEq] at hq
     obtain ⟨⟨rfl,rfl⟩,rfl,rfl⟩:=hq
     have hk:=Hd.nthk 2 H.out rfl
     have c0:=(cell_of_heap hk 0).trans (show _ = some (.int .i64 k) from rfl)
     have c1:=(cell_of_heap hk 1).trans (show _ = some (.int .i64 e) from rfl)
     have cs:=(Array.getElem?_eq_some_iff.1 hk).1
     clear hk
     have hk:=Hd.nthk 1 H.out rfl
     have q0:=(cell_of_heap hk 0).trans (show _ = some (.int .i64 0) from rfl)
     have q1:=(cell_of_heap hk 1).trans (show _ = some (.int .i64 0) from rfl)
     have qs:=(Array.getElem?_eq_some_iff.1 hk).1
     have qf:=frozen_of_heap hk
     clear hk
     go_wp2_with fail
     refine bodyPost_ret (v:=.tuple #[.agg #[.int .i64 p1,.int .i64 (e + 1)],.int .i64 0]) (by simp [results,Try.results29,go_sem,q0,q1]) rfl ⟨rfl,?_⟩
     exact ((((H.out.front 1 rfl).set 0 (.int .i64 p1)).set 1 (.int .i64 (e + 1))).drop).un2
   · have dz:(p2 != 0) = true:=by rw [bne_iff_ne]; exact hz
     rw [if_neg hz] at hq
     simp only [Prod.mk.injEq] at hq
     obtain ⟨⟨rfl,rfl⟩,rfl,rfl⟩:=hq
     have dz2:decide (p2 = 0) = false:=by simpa using hz
     clear hz
     have hk:=Hd.nthk 2 H.out rfl
     have c0:=(cell_of_heap hk 0).trans (show _ = some (.int .i64 k) from rfl)
     have c1:=(cell_of_heap hk 1).trans (show _ = some (.int .i64 e) from rfl)
     have cs:=(Array.getElem?_eq_some_iff.1 hk).1
     clear hk
     have hk:=Hd.nthk 1 H.out rfl
     have q0:=(cell_of_heap hk 0).trans (show _ = some (.int .i64 0) from rfl)
     have q1:=(cell_of_heap hk 1).trans (show _ = some (.int .i64 0) from rfl)
     have qs:=(Array.getElem?_eq_some_iff.1 hk).1
     have qf:=frozen_of_heap hk
     clear hk
     go_wp2_with fail
     refine bodyPost_ret (v:=.tuple #[.agg #[.int .i64 0,.int .i64 0],.int .i64 p2]) (by simp [results,Try.results29,go_sem,q0,q1]) rfl ⟨rfl,?_⟩
     exact ((((H.out.front 1 rfl).set 0 (.int .i64 0)).set 1 (.int .i64 0)).drop).un2

end
end Go.Proofs.Ytpcfmafokkffgaa
namespace Go.Proofs.Ytpcfmafokkffgaa
open Go.RowKit Go.Shelf
attribute [local go_sem] Oper.semAt_some

/-- So many steps: the keys, the chain, what is wrong, the store. -/
def steps15 (m:Int):Nat → List T → Int → Int → List Int × (Int × Int) × Int × List T
 | 0,L,k,e=>([],(k,e),0,L)
 | n + 1,L,k,e =>
  if (put m L (keyT k 1)).2.1 = 0 then
   if (next15 m (put m L (keyT k 1)).2.2 k e).2.1 = 0 then
    let r:=steps15 m n (next15 m (put m L (keyT k 1)).2.2 k e).2.2 (next15 m (put m L (keyT k 1)).2.2 k e).1.1 (next15 m (put m L (keyT k 1)).2.2 k e).1.2
    ((put m L (keyT k 1)).1::r.1,r.2)
   else ([],(k,e),(next15 m (put m L (keyT k 1)).2.2 k e).2.1,(next15 m (put m L (keyT k 1)).2.2 k e).2.2)
  else ([],(k,e),(put m L (keyT k 1)).2.1,(put m L (keyT k 1)).2.2)
theorem steps15_succ (m:Int) (n:Nat) (L:List T) (k e:Int):steps15 m (n + 1) L k e =
 if (put m L (keyT k 1)).2.1 = 0 then
  if (next15 m (put m L (keyT k 1)).2.2 k e).2.1 = 0 then
   ((put m L (keyT k 1)).1::(steps15 m n (next15 m (put m L (keyT k 1)).2.2 k e).2.2 (next15 m (put m L (keyT k 1)).2.2 k e).1.1 (next15 m (put m L (keyT k 1)).2.2 k e).1.2).1,(steps15 m n (next15 m (put m L (keyT k 1)).2.2 k e).2.2 (next15 m (put m L (keyT k 1)).2.2 k e).1.1 (next15 m (put m L (keyT k 1)).2.2 k e).1.2).2)
  else ([],(k,e),(next15 m (put m L (keyT k 1)).2.2 k e).2.1,(next15 m (put m L (keyT k 1)).2.2 k e).2.2)
 else ([],(k,e),(put m L (keyT k 1)).2.1,(put m L (keyT k 1)).2.2):=rfl
/-- The chain of another epoch. -/
def to15 (m:Int) (L:List T) (k e x:Int):(Int × Int) × List Int × Int × List T :=
 if x < e then ((0,0),[],12,L)
 else if 4 < x - e then ((0,0),[],13,L)
 else if (steps15 m (x - e).toNat L k e).2.2.1 = 0 then ((steps15 m (x - e).toNat L k e).2.1,(steps15 m (x - e).toNat L k e).1,0,(steps15 m (x - e).toNat L k e).2.2.2)
 else ((0,0),[],(steps15 m (x - e).toNat L k e).2.2.1,(steps15 m (x - e).toNat L k e).2.2.2)

theorem next15_epoch {m:Int} {L L2:List T} {k e dk de:Int} (h:next15 m L k e = ((dk,de),0,L2)):de = e + 1 ∧ 0 ≤ e ∧ e < 1000:=by
 unfold next15 at h
 split at h
 · simp at h
 · split at h
   · simp only [Prod.mk.injEq] at h
     exact ⟨h.1.2.symm,by omega,by omega⟩
   · rename_i h2
     simp only [Prod.mk.injEq] at h
     exact absurd h.2.1 h2

section
variable {W w:World} {Rs:List Res}
set_option maxRecDepth 100000 in
set_option maxHeartbeats 1000000 in
theorem steps_calls (k e n:Int) (b:Nat) (h:Hd W w Rs) :
 Calls Try.prog 55 #[.agg #[.int .i64 k,.int .i64 e],.pointer (some ⟨b,0,none⟩),.int .i64 n] w fun e' w'=>∃ c,e' = .returned (.func (.func 79) #[] #[.pointer (some ⟨c + 2,0,none⟩),.pointer (some ⟨c,0,none⟩),.pointer (some ⟨c + 1,0,none⟩)]) ∧
  Hd W w' (Blk (c + 2) (.cells #[.int .i64 n] 3 (0,0))::Blk (c + 1) (.cells #[.pointer (some ⟨b,0,none⟩)] 25 (0,0))::Blk c (.cells #[.int .i64 k,.int .i64 e] 32 (0,0))::Rs):=by
 have H:=hid (((h.boxk (o:=.cells #[.int .i64 k,.int .i64 e] 32 (0,0)) w.heap.size rfl).boxk (o:=.cells #[.pointer (some ⟨b,0,none⟩)] 25 (0,0)) (w.heap.size + 1) (by simp)).boxk (o:=.cells #[.int .i64 n] 3 (0,0)) (w.heap.size + 2) (by simp))
 clear h
 go_enter Try.func55,Try.ntmps55
 go_wp2_with fail
 go_ret
 exact ⟨w.heap.size,rfl,H.out⟩
end

theorem swap_mid {A B C:List Res}:(A ++ (B ++ C)).Perm (B ++ (A ++ C)):=by
 rw [← List.append_assoc,← List.append_assoc]
 exact List.perm_append_comm.append_right _
theorem Hd.dropTail4 {W w:World} {S A B C:Res} {Rs:List Res} (h:Hd W w (S::A::B::C::Rs)):Hd W w (S::Rs):=h.un2.un2.un2
theorem Hd.dropTail5 {W w:World} {D S A B C:Res} {Rs:List Res} (h:Hd W w (D::S::A::B::C::Rs)):Hd W w (S::Rs):=h.drop.un2.un2.un2
theorem eq_Ch (k e k' e':Int) (h:¬ e = e') (w:World):(binOp .eql 32 (.agg #[.int .i64 k,.int .i64 e]) (.agg #[.int .i64 k',.int .i64 e'])).run Try.prog w = .ok (.bool false) w:=by
 have q:(Op.equalIn 10000 32 (.agg #[.int .i64 k,.int .i64 e]) (.agg #[.int .i64 k',.int .i64 e'])).run Try.prog w = .ok false w:=by
  go_simp
 rw [run_eql_struct,q]
 rfl

section
variable {W w:World} {Xs:List Res} {b:Nat} {L:List T} {m:Int}

set_option maxRecDepth 100000 in
set_option maxHeartbeats 4000000 in
theorem steps1_in (nn:Nat) (l:Nat) (k e:Int) (N:Nat) (hN:N ≤ 4) (c:Nat) (J:List Int → Int → Int → List Res → Prop)
 (hY:∀ (mm:Nat) (pre:List Int) (lk le x dk de:Int) (Js:List Res) (w:World) (Xs:List Res),pre.length < 4 → J pre lk le Js → Hd W w (Js ++ Xs) → YieldAt Fence.wide mm Try.prog l #[.int .i64 x,.agg #[.int .i64 dk,.int .i64 de]] w fun e w'=>e = .returned (.bool true) ∧ ∃ Js',J (pre ++ [x]) dk de Js' ∧ Hd W w' (Js' ++ Xs)) (Js0:List Res) (hJ0:J [] k e Js0)
 (h:Hd W w (Sto b L m::Blk c (.cells #[.int .i64 k,.int .i64 e] 32 (0,0))::Blk (c + 1) (.cells #[.pointer (some ⟨b,0,none⟩)] 25 (0,0))::Blk (c + 2) (.cells #[.int .i64 N] 3 (0,0))::(Js0 ++ Xs))) :
 CallsIn Fence.wide nn Try.prog 79 #[.func (.yield l) #[] #[],.pointer (some ⟨c + 2,0,none⟩),.pointer (some ⟨c,0,none⟩),.pointer (some ⟨c + 1,0,none⟩)] w fun e' w' =>
  e' = .returned (.int .i64 (steps15 m N L k e).2.2.1) ∧ ∃ pre lk le Js,((steps15 m N L k e).2.2.1 = 0 → pre = (steps15 m N L k e).1 ∧ (lk,le) = (steps15 m N L k e).2.1) ∧ J pre lk le Js ∧ Hd W w' (Sto b (steps15 m N L k e).2.2.2 m::(Js ++ Xs)):=by
 have H0:=hid h
 clear h
 have HY:=hid hY
 clear hY
 refine callsIn_of_wp Try.func79 rfl trivial ?_ rfl
 simp only [Try.ntmps79,List.size_toArray,List.length_cons,List.length_nil,Nat.reduceAdd,Nat.reduceSub,Array.replicate_succ,Array.replicate_zero,List.push_toArray,List.append_toArray,List.nil_append,List.cons_append]
 have hk:=Hd.nthk 3 H0.out rfl
 have n0:=(cell_of_heap hk 0).trans (show _ = some (.int .i64 N) from rfl)
 clear hk
 gi_wp2
 clear n0
 gi_loopw [10] (fun p wr=>∃ (i:Nat) (pre:List Int) (k1 e1:Int) (L1:List T) (Js:List Res),i ≤ N ∧ p = .int .i64 i ∧ pre.length = i ∧ Hid (J pre k1 e1 Js) ∧ Hid ((steps15 m N L k e).2 = (steps15 m (N - i) L1 k1 e1).2 ∧ (steps15 m N L k e).1 = pre ++ (steps15 m (N - i) L1 k1 e1).1) ∧
  Hid (Hd W wr (Sto b L1 m::Blk c (.cells #[.int .i64 k1,.int .i64 e1] 32 (0,0))::Blk (c + 1) (.cells #[.pointer (some ⟨b,0,none⟩)] 25 (0,0))::Blk (c + 2) (.cells #[.int .i64 N] 3 (0,0))::(Js ++ Xs)))) (fun p _=>N - (intOf p).toNat)
 case atStart=>exact ⟨0,[],k,e,L,Js0,Nat.zero_le _,rfl,rfl,hid hJ0,hid ⟨rfl,rfl⟩,H0⟩
 case round =>
  clear H0
  obtain ⟨i,pre,k1,e1,L1,Js,hi,rfl,hpre,HJ,HS,H⟩:=hrel
  obtain ⟨wo,hwo⟩:∃ wo:World,wo = wr:=⟨_,rfl⟩
  rw [← hwo] at H ⊢
  clear hwo wr
  have hi0:0 ≤ (i:Int):=by omega
  by_cases hlt:i < N
  · have d1:decide ((i:Int) < (N:Int)) = true:=by simp; omega
    have d1':decide (i < N) = true:=by simp; omega
    obtain ⟨q,hq⟩:∃ q,N - i = q + 1:=⟨N - i - 1,by omega⟩
    obtain ⟨s1,s2,L2,hs⟩:∃ s1 s2 L2,put m L1 (keyT k1 1) = (s1,s2,L2):=⟨_,_,_,rfl⟩
    have hst:=HS.out
    rw [hq,steps15_succ] at hst
    rw [hs] at hst
    dsimp only at hst
    have HP:=hid hs
    clear hs
    have hk:=Hd.nthk 1 H.out rfl
    have c0:=(cell_of_heap hk 0).trans (show _ = some (.int .i64 k1) from rfl)
    have c1:=(cell_of_heap hk 1).trans (show _ = some (.int .i64 e1) from rfl)
    clear hk
    have hk:=Hd.nthk 2 H.out rfl
    have b0:=(cell_of_heap hk 0).trans (show _ = some (.pointer (some ⟨b,0,none⟩)) from rfl)
    clear hk
    have HST:=hid hst
    have HPRE:=hid hpre
    have HQ:=hid hq
    clear hst hpre hq
    gi_wp2
    refine ⟨trivial,fun h=>(by cases h),?_⟩
    refine (callsIn_wide.2 (seal15_calls k1 e1 HP.out H.out)).mono ?_
    rintro e' w2 ⟨rfl,hd⟩
    have H2:=hid hd
    clear hd c0 c1 b0 H
    have H:=H2
    clear H2
    by_cases hs0:s2 = 0
    · subst hs0
      have hst:=HST.out
      rw [if_pos rfl] at hst
      obtain ⟨dk,de,x2,L3,hx⟩:∃ dk de x2 L3,next15 m L2 k1 e1 = ((dk,de),x2,L3):=⟨_,_,_,_,rfl⟩
      rw [hx] at hst
      dsimp only at hst
      have HX:=hid hx
      have HST2:=hid hst
      clear hst HST hx
      have hk:=Hd.nthk 1 H.out rfl
      have c0:=(cell_of_heap hk 0).trans (show _ = some (.int .i64 k1) from rfl)
      have c1:=(cell_of_heap hk 1).trans (show _ = some (.int .i64 e1) from rfl)
      clear hk
      have hk:=Hd.nthk 2 H.out rfl
      have b0:=(cell_of_heap hk 0).trans (show _ = some (.pointer (some ⟨b,0,none⟩)) from rfl)
      clear hk
      gi_wp2
      refine ⟨trivial,fun h=>(by cases h),?_⟩
      refine (callsIn_wide.2 (next15_calls k1 e1 HX.out H.out)).mono ?_
      rintro e' w3 ⟨rfl,hd⟩
      have H2:=hid (hd.boxk (o:=.cells #[.int .i64 dk,.int .i64 de] 32 (0,0)) w3.heap.size rfl)
      clear hd c0 c1 b0 H
      have H:=H2
      clear H2
      by_cases hx0:x2 = 0
      · subst hx0
        have hst:=HST2.out
        rw [if_pos rfl] at hst
        have HST:=hid hst
        clear hst HST2
        obtain ⟨hde,he0,he1⟩:=next15_epoch HX.out
        have heq:=eq_Ch k1 e1 dk de (by omega)
        clear hde he0 he1
        obtain ⟨wd,hwd⟩:∃ wd,w3.alloc (.cells #[.int .i64 dk,.int .i64 de] 32 (0,0)) = wd:=⟨_,rfl⟩
        rw [hwd] at H
        have HWD:=hid hwd
        have hk:=Hd.nthk 2 H.out rfl
        have c0:=(cell_of_heap hk 0).trans (show _ = some (.int .i64 k1) from rfl)
        have c1:=(cell_of_heap hk 1).trans (show _ = some (.int .i64 e1) from rfl)
        clear hk
        have hk:=Hd.nthk 0 H.out rfl
        have dd0:=(cell_of_heap hk 0).trans (show _ = some (.int .i64 dk) from rfl)
        have dd1:=(cell_of_heap hk 1).trans (show _ = some (.int .i64 de) from rfl)
        clear hk
        have hH:=Hd.perm (swap_mid (A:=[Blk w3.heap.size (.cells #[.int .i64 dk,.int .i64 de] 32 (0,0)),Sto b L3 m,Blk c (.cells #[.int .i64 k1,.int .i64 e1] 32 (0,0)),Blk (c + 1) (.cells #[.pointer (some ⟨b,0,none⟩)] 25 (0,0)),Blk (c + 2) (.cells #[.int .i64 N] 3 (0,0))])) H.out
        obtain ⟨fn,tmps,assign,body,hy,hR⟩:=HY.out (nn - 1) pre k1 e1 s1 dk de Js wd _ (by have:=HPRE.out; omega) HJ.out hH
        have HRR:=hid hR
        clear hR hH
        subst hwd
        gi_wp2
        refine ⟨fun h=>(by cases h),?_⟩
        refine HRR.out.mono ?_
        rintro e' w4 ⟨rfl,Js2,hJ2,hd⟩
        have H2:=hid (Hd.perm swap_mid hd)
        have HJ2:=hid hJ2
        clear hJ2 HJ hd c0 c1 dd0 dd1 H HRR hy heq HWD
        have H:=H2
        clear H2
        have hk:=Hd.nthk 0 H.out rfl
        have dd0:=(cell_of_heap hk 0).trans (show _ = some (.int .i64 dk) from rfl)
        have dd1:=(cell_of_heap hk 1).trans (show _ = some (.int .i64 de) from rfl)
        clear hk
        have hk:=Hd.nthk 2 H.out rfl
        have c0:=(cell_of_heap hk 0).trans (show _ = some (.int .i64 k1) from rfl)
        have c1:=(cell_of_heap hk 1).trans (show _ = some (.int .i64 e1) from rfl)
        have cs:=(Array.getElem?_eq_some_iff.1 hk).1
        have cf:=frozen_of_heap hk
        clear hk
        have zDC:=blks_ne ((H.out.front 2 rfl).front 1 rfl)
        gi_wp2
        go_roundw
        case rel=>exact ⟨i + 1,pre ++ [s1],dk,de,L3,Js2,by omega,by go_num,by simp [HPRE.out],HJ2,hid (by
         have h1:=HST.out
         have h2:=HQ.out
         rw [show N - (i + 1) = q by omega]
         refine ⟨h1.1,?_⟩
         rw [h1.2]
         simp),hid (((((H.out.front 2 rfl).set 0 (.int .i64 dk)).set 1 (.int .i64 de)).front 1 rfl).drop.swap)⟩
        case measure=>simp [intOf]; omega
      · have dx:(x2 != 0) = true:=by rw [bne_iff_ne]; exact hx0
        have dx':decide (x2 = 0) = false:=by simpa using hx0
        have hst:=HST2.out
        rw [if_neg hx0] at hst
        clear hx0
        gi_wp2
        refine bodyPost_ret (v:=.int .i64 x2) (by simp [results,Try.results79,go_sem]) rfl ?_
        refine ⟨by rw [hst.1],pre,k1,e1,Js,fun h0=>?_,HJ.out,?_⟩
        · rw [hst.1] at h0; dsimp only at h0; rw [h0] at dx; cases dx
        · rw [hst.1]
          exact Hd.dropTail5 H.out
    · have dx:(s2 != 0) = true:=by rw [bne_iff_ne]; exact hs0
      have dx':decide (s2 = 0) = false:=by simpa using hs0
      have hst:=HST.out
      rw [if_neg hs0] at hst
      clear hs0
      gi_wp2
      refine bodyPost_ret (v:=.int .i64 s2) (by simp [results,Try.results79,go_sem]) rfl ?_
      refine ⟨by rw [hst.1],pre,k1,e1,Js,fun h0=>?_,HJ.out,?_⟩
      · rw [hst.1] at h0; dsimp only at h0; rw [h0] at dx; cases dx
      · rw [hst.1]
        exact Hd.dropTail4 H.out
  · obtain rfl:i = N:=by omega
    have d1:decide ((i:Int) < (i:Int)) = false:=by simp
    have hst:=HS.out
    rw [Nat.sub_self] at hst
    clear hlt hpre
    gi_wp2
    refine bodyPost_ret (v:=.int .i64 0) (by simp [results,Try.results79,go_sem]) rfl ?_
    refine ⟨by rw [hst.1]; rfl,pre,k1,e1,Js,fun _=>?_,HJ.out,?_⟩
    · rw [hst.1,hst.2]; simp [steps15]
    · rw [hst.1]
      exact Hd.dropTail4 H.out
end
end Go.Proofs.Ytpcfmafokkffgaa
namespace Go.Proofs.Ytpcfmafokkffgaa
open Go.RowKit Go.Shelf
attribute [local go_sem] Oper.semAt_some


section
variable {W w:World} {Xs:List Res} {b:Nat} {L:List T} {m:Int}

set_option maxRecDepth 100000 in
set_option maxHeartbeats 4000000 in
theorem all_in (nn:Nat) (l:Nat) (k e x:Int) (N:Nat) (hN:N ≤ 4) (hx:x - e = N) (cb sb xb eb:Nat) (J:List Int → Int → Int → List Res → Prop)
 (hY:∀ (mm:Nat) (pre:List Int) (lk le x dk de:Int) (Js:List Res) (w:World) (Xs:List Res),pre.length < 4 → J pre lk le Js → Hd W w (Js ++ Xs) → YieldAt Fence.wide mm Try.prog l #[.int .i64 x,.agg #[.int .i64 dk,.int .i64 de]] w fun e w'=>e = .returned (.bool true) ∧ ∃ Js',J (pre ++ [x]) dk de Js' ∧ Hd W w' (Js' ++ Xs)) (Js0:List Res) (hJ0:J [] k e Js0)
 (h:Hd W w (Sto b L m::Blk eb (.cells #[.int .i64 0] 34 (0,0))::Blk cb (.cells #[.int .i64 k,.int .i64 e] 32 (0,0))::Blk sb (.cells #[.pointer (some ⟨b,0,none⟩)] 25 (0,0))::Blk xb (.cells #[.int .i64 x] 3 (0,0))::(Js0 ++ Xs))) :
 CallsIn Fence.wide nn Try.prog 54 #[.func (.yield l) #[] #[],.pointer (some ⟨cb,0,none⟩),.pointer (some ⟨sb,0,none⟩),.pointer (some ⟨xb,0,none⟩),.pointer (some ⟨eb,0,none⟩)] w fun e' w' =>
  (∃ v,e' = .returned v) ∧ ∃ pre lk le Js,((steps15 m N L k e).2.2.1 = 0 → pre = (steps15 m N L k e).1 ∧ (lk,le) = (steps15 m N L k e).2.1) ∧ J pre lk le Js ∧ Hd W w' (Sto b (steps15 m N L k e).2.2.2 m::Blk eb (.cells #[.int .i64 (steps15 m N L k e).2.2.1] 34 (0,0))::Blk cb (.cells #[.int .i64 k,.int .i64 e] 32 (0,0))::Blk sb (.cells #[.pointer (some ⟨b,0,none⟩)] 25 (0,0))::Blk xb (.cells #[.int .i64 x] 3 (0,0))::(Js ++ Xs)):=by
 have H:=hid h
 clear h
 have HY:=hid hY
 clear hY
 have HX:=hid hx
 have hxw:IntKind.i64.wrap (x - e) = (N:Int):=by rw [IntWalk.i64_in _ (by omega)]; exact hx
 clear hx
 have hk:=Hd.nthk 2 H.out rfl
 have c0:=(cell_of_heap hk 0).trans (show _ = some (.int .i64 k) from rfl)
 have c1:=(cell_of_heap hk 1).trans (show _ = some (.int .i64 e) from rfl)
 have cs:=(Array.getElem?_eq_some_iff.1 hk).1
 clear hk
 have hk:=Hd.nthk 3 H.out rfl
 have s0:=(cell_of_heap hk 0).trans (show _ = some (.pointer (some ⟨b,0,none⟩)) from rfl)
 have ss:=(Array.getElem?_eq_some_iff.1 hk).1
 clear hk
 have hk:=Hd.nthk 4 H.out rfl
 have x0:=(cell_of_heap hk 0).trans (show _ = some (.int .i64 x) from rfl)
 have xs:=(Array.getElem?_eq_some_iff.1 hk).1
 clear hk
 refine callsIn_of_wp Try.func54 rfl trivial ?_ rfl
 simp only [Try.ntmps54,List.size_toArray,List.length_cons,List.length_nil,Nat.reduceAdd,Nat.reduceSub,Array.replicate_succ,Array.replicate_zero,List.push_toArray,List.append_toArray,List.nil_append,List.cons_append]
 gi_wp2
 refine ⟨trivial,fun h=>(by cases h),?_⟩
 refine (callsIn_wide.2 (steps_calls k e N b H.out)).mono ?_
 rintro e' w2 ⟨c,rfl,hd⟩
 have H9:=hid hd
 clear c0 c1 cs s0 ss x0 xs hd H hxw
 have H:=H9
 clear H9
 gi_wp2
 refine ⟨trivial,fun h=>(by cases h),?_⟩
 have H9:Hid (Hd W w2 (Sto b L m::Blk c (.cells #[.int .i64 k,.int .i64 e] 32 (0,0))::Blk (c + 1) (.cells #[.pointer (some ⟨b,0,none⟩)] 25 (0,0))::Blk (c + 2) (.cells #[.int .i64 N] 3 (0,0))::(Js0 ++ ([Blk eb (.cells #[.int .i64 0] 34 (0,0)),Blk cb (.cells #[.int .i64 k,.int .i64 e] 32 (0,0)),Blk sb (.cells #[.pointer (some ⟨b,0,none⟩)] 25 (0,0)),Blk xb (.cells #[.int .i64 x] 3 (0,0))] ++ Xs)))):=hid (Hd.perm (List.Perm.append_left [Sto b L m,Blk c (.cells #[.int .i64 k,.int .i64 e] 32 (0,0)),Blk (c + 1) (.cells #[.pointer (some ⟨b,0,none⟩)] 25 (0,0)),Blk (c + 2) (.cells #[.int .i64 N] 3 (0,0))] (swap_mid (A:=[Blk eb (.cells #[.int .i64 0] 34 (0,0)),Blk cb (.cells #[.int .i64 k,.int .i64 e] 32 (0,0)),Blk sb (.cells #[.pointer (some ⟨b,0,none⟩)] 25 (0,0)),Blk xb (.cells #[.int .i64 x] 3 (0,0))]))) (((((H.out.front 0 rfl).front 1 rfl).front 2 rfl).front 3 rfl)))
 clear H
 refine (steps1_in _ l k e N hN c J HY.out Js0 hJ0 H9.out).mono ?_
 rintro e3 w3 ⟨rfl,pre,lk,le,Js,hp,hJ,hd⟩
 obtain ⟨r,hr⟩:∃ r,steps15 m N L k e = r:=⟨_,rfl⟩
 have HRR:=hid hr
 rw [hr] at hp hd
 obtain ⟨rk,rl,re,rL⟩:=r
 dsimp only at hp hd
 have H:=hid (Hd.perm (List.Perm.append_left [Sto b rL m] (swap_mid (B:=[Blk eb (.cells #[.int .i64 0] 34 (0,0)),Blk cb (.cells #[.int .i64 k,.int .i64 e] 32 (0,0)),Blk sb (.cells #[.pointer (some ⟨b,0,none⟩)] 25 (0,0)),Blk xb (.cells #[.int .i64 x] 3 (0,0))]))) hd)
 clear hd H9 hr
 have HJ:=hid hJ
 have HP:=hid hp
 clear hp hJ
 have hk:=Hd.nthk 1 H.out rfl
 have q0:=(cell_of_heap hk 0).trans (show _ = some (.int .i64 0) from rfl)
 have qs:=(Array.getElem?_eq_some_iff.1 hk).1
 have qf:=frozen_of_heap hk
 clear hk
 gi_wp2
 go_end0
 rw [HRR.out]
 exact ⟨⟨_,rfl⟩,pre,lk,le,Js,HP.out,HJ.out,((((H.out.front 1 rfl).set 0 (.int .i64 re)).front 1 rfl))⟩
end
end Go.Proofs.Ytpcfmafokkffgaa
namespace Go.Proofs.Ytpcfmafokkffgaa
open Go.RowKit Go.Shelf
attribute [local go_sem] Oper.semAt_some

/-- An object of the call's own, replaced whole. -/
theorem Hd.putObj {W w:World} {Rs:List Res} {k:Nat} {o:Obj} (o':Obj) (h:Hd W w (Blk k o::Rs)):Hd W (w.putObj k o') (Blk k o'::Rs):=by
 have hb:=h.blk
 obtain ⟨f,hR,hf,hlt,hshut⟩:=h.open
 have hRf:f = fun i=>if i = k then some o else none:=hR
 subst hRf
 have hk:=(Array.getElem?_eq_some_iff.1 hb).1
 refine hshut _ _ (fun i=>if i = k then some o' else none) rfl (fun i o2 hi=>?_) (fun i hi=>?_) rfl rfl rfl (by simp) (fun i hi hi2=>?_)
 · dsimp only at hi
   split at hi
   · rename_i e; subst e
     simp only [Option.some.injEq] at hi
     subst hi
     exact World.putObj_heap_same hk
   · cases hi
 · split at hi
   · rename_i e; subst e; exact .inl (by simp)
   · exact absurd rfl hi
 · have:i ≠ k:=fun e=>by subst e; simp at hi2
   exact World.putObj_heap_other this

/-- The record of a range over a function. -/
def LoopR (fn:FuncId) (tmps:Array Value) (ps:Array Tmp) (assign body:Code) (D:Nat) (st:LoopState):Loop :=
 { state:=st,pending:=none,fn,tmps,params:=ps,assign,body,defers:=D }

section
variable {W w:World} {Xs:List Res} {b:Nat} {L:List T} {m:Int}

set_option maxRecDepth 100000 in
set_option maxHeartbeats 1000000 in
theorem to_loop {mm:Nat} {g:Operand} {ps:Array Tmp} {assign body:Code} {Q:Exit → Act → World → Prop} {a:Act} (hps:ps.size = 2) (k e x:Int) (N:Nat) (hN:N ≤ 4) (hx:x - e = N) (cb sb xb eb kb lb:Nat) (v0:Value) (Ax:Int → Nat → Act → Prop)
 (hg:a.eval g = .func (.func 54) #[] #[.pointer (some ⟨cb,0,none⟩),.pointer (some ⟨sb,0,none⟩),.pointer (some ⟨xb,0,none⟩),.pointer (some ⟨eb,0,none⟩)])
 (h:Hd W w (Sto b L m::Blk eb (.cells #[.int .i64 0] 34 (0,0))::Blk cb (.cells #[.int .i64 k,.int .i64 e] 32 (0,0))::Blk sb (.cells #[.pointer (some ⟨b,0,none⟩)] 25 (0,0))::Blk xb (.cells #[.int .i64 x] 3 (0,0))::RowR 3 1 v0 0 (nums .i64 [])::Blk kb (.cells #[v0] 33 (0,0))::Blk lb (.cells #[.int .i64 k,.int .i64 e] 32 (0,0))::Xs))
 (hass:∀ (mm l:Nat) (x dk de:Int) (w1:World) (Ys:List Res),Hd W w1 Ys → assign.wpIn (Fence.wide.inRound l) mm Try.prog (Exit.then (fun a1 w2=>∃ c,Ax x c a1 ∧ Hd W w2 (Blk c (.cells #[.int .i64 dk,.int .i64 de] 32 (0,0))::Ys)) (fun _ _ _=>False))
  { tmps:=(ps.zip #[.int .i64 x,.agg #[.int .i64 dk,.int .i64 de]]).foldl (fun t (p,v)=>t.setIfInBounds p v) a.tmps,defers:=[] } w1)
 (hbody:∀ (mm l c:Nat) (a1:Act) (x dk de:Int) (pre:List Int) (v:Value) (lk le:Int) (w1:World) (Ys:List Res),Ax x c a1 → pre.length < 4 → Hd W w1 (Blk c (.cells #[.int .i64 dk,.int .i64 de] 32 (0,0))::RowR 3 1 v pre.length (nums .i64 pre)::Blk kb (.cells #[v] 33 (0,0))::Blk lb (.cells #[.int .i64 lk,.int .i64 le] 32 (0,0))::Ys) →
  body.wpIn (Fence.wide.inRound l) mm Try.prog (fun e' _ w2=>e' = .normal ∧ ∃ v',Hd W w2 (RowR 3 1 v' (pre ++ [x]).length (nums .i64 (pre ++ [x]))::Blk kb (.cells #[v'] 33 (0,0))::Blk lb (.cells #[.int .i64 dk,.int .i64 de] 32 (0,0))::Ys)) a1 w1)
 (hafter:∀ (D:Nat) (pre:List Int) (lk le:Int) (v:Value) (w2:World),((steps15 m N L k e).2.2.1 = 0 → pre = (steps15 m N L k e).1 ∧ (lk,le) = (steps15 m N L k e).2.1) →
  Hd W w2 (Sto b (steps15 m N L k e).2.2.2 m::Blk eb (.cells #[.int .i64 (steps15 m N L k e).2.2.1] 34 (0,0))::Blk cb (.cells #[.int .i64 k,.int .i64 e] 32 (0,0))::Blk sb (.cells #[.pointer (some ⟨b,0,none⟩)] 25 (0,0))::Blk xb (.cells #[.int .i64 x] 3 (0,0))::RowR 3 1 v pre.length (nums .i64 pre)::Blk kb (.cells #[v] 33 (0,0))::Blk lb (.cells #[.int .i64 lk,.int .i64 le] 32 (0,0))::Blk D (.deferred (some []))::Xs) →
  Q .normal { a with defers:={ target:=.collected D,args:=#[] }::a.defers } w2) :
 (Code.rangeFunc g ps assign body).wpIn Fence.wide mm Try.prog Q a w:=by
 have cf:∀ args w,(callFunc 54 args).run Try.prog w = .ok (.enter 54 args) w:=fun args w=>by kernel_rfl
 refine wpIn_rangeFunc ?_
 intro fn hfn
 obtain ⟨W1,hW1⟩:∃ W1,(w.alloc (.deferred (some []))).alloc (.loop (LoopR fn a.tmps ps assign body w.heap.size .ready)) = W1:=⟨_,rfl⟩
 have H1:=(h.boxk (o:=.deferred (some [])) w.heap.size rfl).boxk (o:=.loop (LoopR fn a.tmps ps assign body w.heap.size .ready)) (w.heap.size + 1) (by simp)
 rw [hW1] at H1
 refine ⟨w.heap.size + 1,[{ target:=.collected w.heap.size,args:=#[] }],W1,{ target:=.fn (.func 54) #[.pointer (some ⟨cb,0,none⟩),.pointer (some ⟨sb,0,none⟩),.pointer (some ⟨xb,0,none⟩),.pointer (some ⟨eb,0,none⟩)],args:=#[.func (.yield (w.heap.size + 1)) #[] #[]] },W1,54,
  #[.func (.yield (w.heap.size + 1)) #[] #[],.pointer (some ⟨cb,0,none⟩),.pointer (some ⟨sb,0,none⟩),.pointer (some ⟨xb,0,none⟩),.pointer (some ⟨eb,0,none⟩)],W1,?_,?_,fun _ _=>trivial,?_,fun h=>(by cases h),?_⟩
 · rw [← hW1]; exact run_enterLoop_outer _ _ _ _ _
 · simp only [resolve,hg]
   simp [go_sem]
 · simp [invoke,go_sem,cf]
 · have H2:=Hd.perm (swap_mid (A:=[_,_]) (B:=[_,_,_,_,_,_,_,_])) H1
   refine (all_in (mm - 1) (w.heap.size + 1) k e x N hN hx cb sb xb eb (fun pre lk le Js=>∃ v,Js = [RowR 3 1 v pre.length (nums .i64 pre),Blk kb (.cells #[v] 33 (0,0)),Blk lb (.cells #[.int .i64 lk,.int .i64 le] 32 (0,0)),Blk (w.heap.size + 1) (.loop (LoopR fn a.tmps ps assign body w.heap.size .ready))]) ?_ _ ⟨v0,rfl⟩ H2).mono ?_
   · intro m2 pre lk le x dk de Js w1 Xs1 hlen hJ hH
     obtain ⟨v,rfl⟩:=hJ
     have hl:=hH.nthk 3 rfl
     have hy:=run_yield (P:=Try.prog) (args:=#[.int .i64 x,.agg #[.int .i64 dk,.int .i64 de]]) hl hps.symm
     refine ⟨fn,_,assign,body,hy,roundIn_of_wpIn trivial (wpIn_mono (hass m2 _ x dk de w1 _ hH) ?_)⟩
     rintro e' a1 w2 hh
     cases e' with
     | normal =>
      obtain ⟨c,hA,hB⟩:=hh
      have hl2:=hB.nthk 4 rfl
      refine ⟨_,run_beginRound hl2 rfl,wpIn_mono (hbody m2 _ c a1 x dk de pre v lk le _ (Blk (w.heap.size + 1) (.loop (LoopR fn a.tmps ps assign body w.heap.size .busy))::Xs1) hA hlen ?_) ?_⟩
      · exact Hd.perm (swap_mid (A:=[_]) (B:=[_,_,_,_])) ((hB.front 4 rfl).putObj _)
      · rintro e3 a3 w3 ⟨rfl,v',hd⟩
        refine ⟨_,_,run_endRound none (hd.nthk 3 rfl),rfl,_,⟨v',rfl⟩,?_⟩
        exact Hd.perm (swap_mid (A:=[_]) (B:=[_,_,_])) ((hd.front 3 rfl).putObj _)
     | _=>exact hh.elim
   · rintro e' w3 ⟨⟨v,rfl⟩,pre,lk,le,Js,hp,⟨v',rfl⟩,hd⟩
     refine ⟨_,_,run_endLoop (hd.nthk 8 rfl) (by simp [LoopR]),?_⟩
     exact hafter w.heap.size pre lk le v' _ hp ((hd.front 8 rfl).putObj _).drop
end
end Go.Proofs.Ytpcfmafokkffgaa
namespace Go.Proofs.Ytpcfmafokkffgaa
open Go.RowKit Go.Shelf
attribute [local go_sem] Oper.semAt_some

theorem Hd.row_nil15 {W w:World} {Rs:List Res} {E:TypeId} {size:Nat} (h:Hd W w Rs):Hd W w (RowR E size (.slice none 0 0) 0 []::Rs) :=
 h.add (Below.refl _ _) (fun _=>none) ⟨by simp,.inl ⟨rfl,rfl,rfl⟩⟩ (fun k o hk=>by cases hk) (fun k hk=>absurd rfl hk)

/-- An operation that asks for no round and puts off no call. -/
def NoRow (P:Program) (o:Oper):Prop:=(∀ c,o.op ≠ .defer c) ∧ ∀ (a:Act) (w:World) row args w',(execOp a.eval o).run P w ≠ .ok (.row row args) w'
theorem NoRow.val {P:Program} {o:Oper} (f:(Operand → Value) → Sem Value) (h:∀ ρ,execOp ρ o = do pure (.value (← f ρ))) (hd:∀ c,o.op ≠ .defer c):NoRow P o:=by
 refine ⟨hd,fun a w row args w'=>?_⟩
 rw [h,Sem.run_bind]
 cases (f a.eval).run P w <;> simp [Result.andThen,Sem.run_pure]
theorem NoRow.unit {P:Program} {o:Oper} (f:(Operand → Value) → Sem Unit) (h:∀ ρ,execOp ρ o = do f ρ; pure .skip) (hd:∀ c,o.op ≠ .defer c):NoRow P o:=by
 refine ⟨hd,fun a w row args w'=>?_⟩
 rw [h,Sem.run_bind]
 cases (f a.eval).run P w <;> simp [Result.andThen,Sem.run_pure]
theorem NoRow.app {P:Program} {o:Oper} (c:Call) (h:o.op = .call c) (hc:c.callee = .builtin .append):NoRow P o:=by
 refine ⟨fun c hc=>(by rw [h] at hc; cases hc),fun a w row args w'=>?_⟩
 obtain ⟨callee,args,tys⟩:=c
 dsimp only at hc
 subst hc
 simp only [execOp,h,resolve,invoke,builtin,Sem.run_bind,Sem.run_pure,Result.andThen_ok]
 generalize (Builtin.append_ _ _ _).run P w = r
 cases r <;> simp [Result.andThen]
theorem noRows {P:Program} {l:List Oper} (h:StepAll (fun _ o=>NoRow P o) 0 l):∀ (i:Nat) (o:Oper),l.toArray[i]? = some o → (∀ c,o.op ≠ .defer c) ∧ ∀ (a:Act) w row args w',(execOp a.eval o).run P w ≠ .ok (.row row args) w':=fun i o ho=>by
 have:=h.at (show l[i]? = some o by simpa using ho)
 exact this

section
variable {W w:World} {Rs:List Res} {b:Nat} {L:List T} {m:Int}

set_option maxRecDepth 100000 in
set_option maxHeartbeats 4000000 in
theorem to_calls (k e x:Int) (bx : -9223372036854775808 ≤ x) (bx':x ≤ 9223372036854775807) (be : -9223372036854775808 ≤ e) (be':e ≤ 9223372036854775807) (h:Hd W w (Sto b L m::Rs)) {q:(Int × Int) × List Int × Int × List T} (hq:to15 m L k e x = q) :
 Calls Try.prog 20 #[.agg #[.int .i64 k,.int .i64 e],.pointer (some ⟨b,0,none⟩),.int .i64 x] w fun e' w'=>∃ v,e' = .returned (.tuple #[.agg #[.int .i64 q.1.1,.int .i64 q.1.2],v,.int .i64 q.2.2.1]) ∧ Hd W w' (RowR 3 1 v q.2.1.length (nums .i64 q.2.1)::Sto b q.2.2.2 m::Rs):=by
 have mixed:Try.prog.follows .mixedOrders = true:=by kernel_rfl
 have H:=hid h
 clear h
 refine (callsIn_wide (n:=0)).1 ?_
 by_cases h1:x < e
 · have d1:decide (x < e) = true:=by simpa using h1
   have HQ:=hid (show to15 m L k e x = _ from if_pos h1)
   clear h1 bx bx' be be'
   refine callsIn_of_wp_marks Try.func20 rfl trivial ?_ rfl
   simp only [Try.ntmps20,List.size_toArray,List.length_cons,List.length_nil,Nat.reduceAdd,Nat.reduceSub,Array.replicate_succ,Array.replicate_zero,List.push_toArray,List.append_toArray,List.nil_append,List.cons_append]
   gi_wp2
   refine ⟨.tuple #[.agg #[.int .i64 0,.int .i64 0],.slice none 0 0,.int .i64 12],?_,.slice none 0 0,?_,?_⟩
   · simp [results,Try.results20,go_sem]
   · rw [← hq,HQ.out]
   · rw [← hq,HQ.out]
     exact Hd.row_nil15 ((((H.out.boxk (o:=.cells #[.int .i64 k,.int .i64 e] 32 (0,0)) w.heap.size rfl).boxk (o:=.cells #[.pointer (some ⟨b,0,none⟩)] 25 (0,0)) (w.heap.size + 1) (by simp)).boxk (o:=.cells #[.int .i64 x] 3 (0,0)) (w.heap.size + 1 + 1) (by simp)).boxk (o:=.cells #[.int .i64 0,.int .i64 0] 32 (0,0)) (w.heap.size + 1 + 1 + 1) (by simp)).drop.drop.drop.drop
 · have d1:decide (x < e) = false:=by simpa using h1
   have hu:IntKind.u64.wrap (IntKind.u64.wrap x - IntKind.u64.wrap e) = x - e:=by
    simp only [IntKind.wrap,IntKind.bits,IntKind.signed]
    simp
    omega
   by_cases h2:4 < x - e
   · have d2:decide (4 < x - e) = true:=by simpa using h2
     have HQ:=hid (show to15 m L k e x = _ from (if_neg h1).trans (if_pos h2))
     clear h1 h2 bx bx' be be'
     refine callsIn_of_wp_marks Try.func20 rfl trivial ?_ rfl
     simp only [Try.ntmps20,List.size_toArray,List.length_cons,List.length_nil,Nat.reduceAdd,Nat.reduceSub,Array.replicate_succ,Array.replicate_zero,List.push_toArray,List.append_toArray,List.nil_append,List.cons_append]
     gi_wp2
     refine ⟨.tuple #[.agg #[.int .i64 0,.int .i64 0],.slice none 0 0,.int .i64 13],?_,.slice none 0 0,?_,?_⟩
     · simp [results,Try.results20,go_sem]
     · rw [← hq,HQ.out]
     · rw [← hq,HQ.out]
       exact Hd.row_nil15 ((((H.out.boxk (o:=.cells #[.int .i64 k,.int .i64 e] 32 (0,0)) w.heap.size rfl).boxk (o:=.cells #[.pointer (some ⟨b,0,none⟩)] 25 (0,0)) (w.heap.size + 1) (by simp)).boxk (o:=.cells #[.int .i64 x] 3 (0,0)) (w.heap.size + 1 + 1) (by simp)).boxk (o:=.cells #[.int .i64 0,.int .i64 0] 32 (0,0)) (w.heap.size + 1 + 1 + 1) (by simp)).drop.drop.drop.drop
   · have d2:decide (4 < x - e) = false:=by simpa using h2
     obtain ⟨N,hN⟩:∃ N:Nat,x - e = N:=⟨(x - e).toNat,by omega⟩
     have hN4:N ≤ 4:=by omega
     have HQ:Hid (to15 m L k e x = if (steps15 m N L k e).2.2.1 = 0 then ((steps15 m N L k e).2.1,(steps15 m N L k e).1,0,(steps15 m N L k e).2.2.2) else ((0,0),[],(steps15 m N L k e).2.2.1,(steps15 m N L k e).2.2.2)):=hid (by
      unfold to15
      rw [if_neg h1,if_neg h2,show (x - e).toNat = N by omega])
     have HN:=hid hN
     have HN4:=hid hN4
     clear h1 h2 bx bx' be be' hN hN4
     refine callsIn_of_wp_marks Try.func20 rfl trivial ?_ rfl
     simp only [Try.ntmps20,List.size_toArray,List.length_cons,List.length_nil,Nat.reduceAdd,Nat.reduceSub,Array.replicate_succ,Array.replicate_zero,List.push_toArray,List.append_toArray,List.nil_append,List.cons_append]
     gi_wp2
     rename_i Q' K hK
     have HK:=hid hK
     clear hK
     have hH:=Hd.row_nil15 (E:=3) (size:=1) (((((((H.out.boxk (o:=.cells #[.int .i64 k,.int .i64 e] 32 (0,0)) w.heap.size rfl).boxk (o:=.cells #[.pointer (some ⟨b,0,none⟩)] 25 (0,0)) (w.heap.size + 1) (by simp)).boxk (o:=.cells #[.int .i64 x] 3 (0,0)) (w.heap.size + 1 + 1) (by simp)).boxk (o:=.cells #[.int .i64 0,.int .i64 0] 32 (0,0)) (w.heap.size + 1 + 1 + 1) (by simp)).boxk (o:=.cells #[.slice none 0 0] 33 (0,0)) (w.heap.size + 1 + 1 + 1 + 1) (by simp)).boxk (o:=.cells #[.int .i64 0] 34 (0,0)) (w.heap.size + 1 + 1 + 1 + 1 + 1) (by simp)).boxk (o:=.cells #[.int .i64 k,.int .i64 e] 32 (0,0)) (w.heap.size + 1 + 1 + 1 + 1 + 1 + 1) (by simp))
     have hH2:=((((((((hH.front 4 rfl).front 2 rfl).front 4 rfl).front 3 rfl).front 5 rfl).front 6 rfl).front 7 rfl).front 7 rfl).front 8 rfl
     clear hH
     refine to_loop (g:=.tmp 32) rfl k e x N HN4.out HN.out (w.heap.size) (w.heap.size + 1) (w.heap.size + 1 + 1) (w.heap.size + 1 + 1 + 1 + 1 + 1) (w.heap.size + 1 + 1 + 1 + 1) (w.heap.size + 1 + 1 + 1 + 1 + 1 + 1) (.slice none 0 0) (fun x c a1=>a1.tmps.size = 46 ∧ a1.eval (.tmp 9) = .pointer (some ⟨w.heap.size + 1 + 1 + 1 + 1,0,none⟩) ∧ a1.eval (.tmp 11) = .pointer (some ⟨w.heap.size + 1 + 1 + 1 + 1 + 1 + 1,0,none⟩) ∧ a1.eval (.tmp 13) = .int .i64 x ∧ a1.eval (.tmp 14) = .pointer (some ⟨c,0,none⟩)) rfl hH2 ?ass ?body ?after
     case ass =>
      intro mm l x dk de w1 Ys hY
      gi_wp2_with (rw [Oper.semAt_eq _ _ _ (fun c h=>by cases h)]; go_simp; try go_bits)
      exact ⟨w1.heap.size,⟨rfl,rfl,rfl,rfl,rfl⟩,hY.box _⟩
     case body =>
      generalize w.heap.size + 1 + 1 + 1 + 1 = kb
      rintro mm l c a1 xx dk de pre v lk le w1 Ys ⟨hsz,E9,E11,E13,E14⟩ hlen hH
      generalize kb + 1 + 1 = lb at *
      obtain ⟨va,vc,rfl⟩:=hH.drop.row_form
      obtain ⟨i0,hi0,hz0,hs0,hy0⟩:=info_int
      have ht:Try.prog.underlying 33 = some (.slice 3):=by kernel_rfl
      refine wpIn_block ?_
      refine hold_coreB (P:=Try.prog) (W:=W) (Rs:=Blk c (.cells #[.int .i64 dk,.int .i64 de] 32 (0,0))::Ys) [[],[],[1],[0,2],[],[0,3],[4]] [[],[],[2],[3],[],[3],[]] ([some 35,some 36,some 37,some 38,some 39,none,none]:List (Option Nat)) ([none,none,none,none,none,none,none,some 3,some 5,some 6]:List (Option Nat))
       ((fun _=>.slice va pre.length vc)::(fun _=>.int .i64 xx)::(fun gs=>.slice (some ⟨(gs.getD 0 default).2,0,none⟩) 1 1)::(fun gs=>.slice (gs.getD 0 default).1 (pre.length + 1) (gs.getD 0 default).2)::(fun _=>.agg #[.int .i64 dk,.int .i64 de])::(fun _=>undef)::(fun _=>undef)::[])
       (zR::zR::(fun gs=>[Blk (gs.getD 0 default).2 (.cells #[.int .i64 xx] 3 (0,0))])::zR::zR::zR::zR::(fun _=>[RowR 3 1 (.slice va pre.length vc) pre.length (nums .i64 pre)])::(fun _=>[Blk kb (.cells #[.slice va pre.length vc] 33 (0,0))])::(fun _=>[Blk lb (.cells #[.int .i64 lk,.int .i64 le] 32 (0,0))])::([]:List (List Gh → List Res)))
       (zR::zR::zR::zR::zR::zR::zR::(fun gs=>[RowR 3 1 (.slice (gs.getD 0 default).1 (pre.length + 1) (gs.getD 0 default).2) (pre.length + 1) (nums .i64 (pre ++ [xx]))])::(fun gs=>[Blk kb (.cells #[.slice (gs.getD 0 default).1 (pre.length + 1) (gs.getD 0 default).2] 33 (0,0))])::(fun _=>[Blk lb (.cells #[.int .i64 dk,.int .i64 de] 32 (0,0))])::([]:List (List Gh → List Res)))
       (by kernel_rfl) rfl (hold_lt (n:=46) (by decide) hsz) (Hd.perm (swap_mid (A:=[_]) (B:=[_,_,_])) hH) rfl (by decide) (hold_nil (fs:=[3,5,6]) trivial rfl ?nil) ?gd ?step (fun _=>true) (by decide) ?done (fun I h0 st dn=>run_wpInB mixed (noRows ?rows) I h0 st dn)
      case nil =>
       intro s gs hs
       simp only [List.mem_cons,List.not_mem_nil,or_false] at hs
       rcases hs with rfl | rfl | rfl <;> rfl
      case gd =>
       repeat (refine StepAll.cons (by first | exact trivial | exact fun g=>rfl) ?_)
       exact trivial
      case rows =>
       refine StepAll.cons (NoRow.val _ (fun ρ=>rfl) (fun c h=>by cases h)) ?_
       refine StepAll.cons (NoRow.val (fun ρ=>pure (ρ (.tmp 13))) (fun ρ=>rfl) (fun c h=>by cases h)) ?_
       refine StepAll.cons (NoRow.val _ (fun ρ=>rfl) (fun c h=>by cases h)) ?_
       refine StepAll.cons (NoRow.app _ rfl rfl) ?_
       refine StepAll.cons (NoRow.val _ (fun ρ=>rfl) (fun c h=>by cases h)) ?_
       refine StepAll.cons (NoRow.unit _ (fun ρ=>rfl) (fun c h=>by cases h)) ?_
       refine StepAll.cons (NoRow.unit _ (fun ρ=>rfl) (fun c h=>by cases h)) ?_
       exact trivial
      case step =>
       refine StepAll.cons ?_ ?_
       · refine HoldStepB.val (by decide) fun a wx γ hn hr hres hpre Ss hH K hK=>?_
         have e9:=(hr 9 (by decide)).trans E9
         obtain ⟨Zs,hB⟩:=hpre 8 5 rfl (by decide) (by decide)
         have c0:=(cell_of_heap (show Hd W wx (Blk kb (.cells #[.slice va pre.length vc] 33 (0,0))::Zs) from hB).blk 0).trans (show _ = some (.slice va pre.length vc) from rfl)
         exact hold_run (v:=.slice va pre.length vc) (by clear hn hr hK; generalize a.eval = ρ at *; simp [execOp,e9,c0,go_sem]) rfl rfl hH hK
       refine StepAll.cons ?_ ?_
       · refine HoldStepB.val (by decide) fun a wx γ hn hr hres hpre Ss hH K hK=>?_
         have e13:=(hr 13 (by decide)).trans E13
         exact hold_run (v:=.int .i64 xx) (by clear hn hr hK; generalize a.eval = ρ at *; simp [execOp,e13,go_sem]) rfl rfl hH hK
       refine StepAll.cons ?_ ?_
       · refine HoldStepB.val (by decide) fun a wx γ hn hr hres hpre Ss hH K hK=>?_
         have e36:a.eval (.tmp 36) = .int .i64 xx:=hn 1 (by decide) 36 rfl
         exact hold_new (obj:=.cells #[.int .i64 xx] 3 (0,0)) (v:=.slice (some ⟨wx.heap.size,0,none⟩) 1 1) (by clear hn hr hK; generalize a.eval = ρ at *; simp [execOp,e36,go_sem]) rfl rfl hH hK
       refine StepAll.cons ?_ ?_
       · refine HoldStepB.fil 7 (by decide) fun a wx γ hn hr hres hpre Ss hH K hK=>?_
         have e35:a.eval (.tmp 35) = .slice va pre.length vc:=hn 0 (by decide) 35 rfl
         have e37:a.eval (.tmp 37) = .slice (some ⟨(γ 2).2,0,none⟩) 1 1:=hn 2 (by decide) 37 rfl
         obtain ⟨Zs,hB⟩:=hres 2 (by decide) rfl
         exact hold_appB xx ht hi0 hz0 hs0 hy0 (by decide) (.tmp 35) (.tmp 37) rfl hH e35 e37 (show Hd W wx (Blk (γ 2).2 (.cells #[.int .i64 xx] 3 (0,0))::Zs) from hB).blk (by omega) (fun y=>rfl) (fun y=>rfl) hK
       refine StepAll.cons ?_ ?_
       · refine HoldStepB.val (by decide) fun a wx γ hn hr hres hpre Ss hH K hK=>?_
         have e14:=(hr 14 (by decide)).trans E14
         have hk:=hH.rear.blk
         have c0:=(cell_of_heap hk 0).trans (show _ = some (.int .i64 dk) from rfl)
         have c1:=(cell_of_heap hk 1).trans (show _ = some (.int .i64 de) from rfl)
         clear hk
         exact hold_run (v:=.agg #[.int .i64 dk,.int .i64 de]) (by clear hn hr hK; generalize a.eval = ρ at *; simp [execOp,e14,c0,c1,go_sem]) rfl rfl hH hK
       refine StepAll.cons ?_ ?_
       · refine HoldStepB.fil 8 (by decide) fun a wx γ hn hr hres hpre Ss hH K hK=>?_
         have e9:=(hr 9 (by decide)).trans E9
         have e38:a.eval (.tmp 38) = .slice (γ 3).1 (pre.length + 1) (γ 3).2:=hn 3 (by decide) 38 rfl
         have hH2:Hd W wx (Blk kb (.cells #[.slice va pre.length vc] 33 (0,0))::(Ss ++ Blk c (.cells #[.int .i64 dk,.int .i64 de] 32 (0,0))::Ys)):=hH
         have hk:=hH2.blk
         have c0:=(cell_of_heap hk 0).trans (show _ = some (.slice va pre.length vc) from rfl)
         have cf:=frozen_of_heap hk
         clear hk hH
         exact hold_filB (w':=wx.setCell ⟨kb,0,none⟩ (.slice (γ 3).1 (pre.length + 1) (γ 3).2)) (by clear hn hr hK hH2; generalize a.eval = ρ at *; simp [execOp,e9,e38,c0,cf,go_sem]) rfl rfl (hH2.set 0 (.slice (γ 3).1 (pre.length + 1) (γ 3).2)) hK
       refine StepAll.cons ?_ ?_
       · refine HoldStepB.fil 9 (by decide) fun a wx γ hn hr hres hpre Ss hH K hK=>?_
         have e11:=(hr 11 (by decide)).trans E11
         have e39:a.eval (.tmp 39) = .agg #[.int .i64 dk,.int .i64 de]:=hn 4 (by decide) 39 rfl
         have hH2:Hd W wx (Blk lb (.cells #[.int .i64 lk,.int .i64 le] 32 (0,0))::(Ss ++ Blk c (.cells #[.int .i64 dk,.int .i64 de] 32 (0,0))::Ys)):=hH
         have hk:=hH2.blk
         have c0:=(cell_of_heap hk 0).trans (show _ = some (.int .i64 lk) from rfl)
         have c1:=(cell_of_heap hk 1).trans (show _ = some (.int .i64 le) from rfl)
         have cf:=frozen_of_heap hk
         clear hk hH
         exact hold_filB (w':=(wx.setCell ⟨lb,0,none⟩ (.int .i64 dk)).setCell ⟨lb,1,none⟩ (.int .i64 de)) (by clear hn hr hK hH2; generalize a.eval = ρ at *; simp [execOp,e11,e39,c0,c1,cf,go_sem]) rfl rfl ((hH2.set 0 (.int .i64 dk)).set 1 (.int .i64 de)) hK
       exact trivial
      case done =>
       intro f w9 g9 hv h9
       refine ⟨rfl,.slice (g9 3).1 (pre.length + 1) (g9 3).2,?_⟩
       have hd:Hd W w9 (Blk (g9 2).2 (.cells #[.int .i64 xx] 3 (0,0))::RowR 3 1 (.slice (g9 3).1 (pre.length + 1) (g9 3).2) (pre.length + 1) (nums .i64 (pre ++ [xx]))::Blk kb (.cells #[.slice (g9 3).1 (pre.length + 1) (g9 3).2] 33 (0,0))::Blk lb (.cells #[.int .i64 dk,.int .i64 de] 32 (0,0))::Blk c (.cells #[.int .i64 dk,.int .i64 de] 32 (0,0))::Ys):=h9
       rw [show (pre ++ [xx]).length = pre.length + 1 by simp]
       exact (hd.drop.front 3 rfl).drop
     case after =>
      intro D pre lk le v w2 hp hd
      obtain ⟨r,hr⟩:∃ r,steps15 m N L k e = r:=⟨_,rfl⟩
      have hq2:=HQ.out
      rw [hr] at hp hd hq2
      obtain ⟨rk,⟨rl1,rl2⟩,re,rL⟩:=r
      dsimp only at hp hd hq2
      clear hr HQ H hH2
      obtain ⟨va,vc,rfl⟩:=(hd.front 5 rfl).row_form
      have HD:=hid hd
      have HP:=hid hp
      have HQ2:=hid hq2
      clear hd hp hq2
      have hk:=Hd.nthk 1 HD.out rfl
      have k0:=(cell_of_heap hk 0).trans (show _ = some (.int .i64 re) from rfl)
      clear hk
      refine HK.out _ _ ?_
      by_cases h0:re = 0
      · subst h0
        obtain ⟨rfl,hl⟩:=HP.out rfl
        obtain ⟨rfl,rfl⟩:=Prod.mk.inj hl
        clear hl HP
        gi_wp2
        refine wpIn_wide.2 ?_
        refine hold_coreB (P:=Try.prog) (W:=W) (Rs:=Sto b rL m::Blk (w.heap.size + 1 + 1 + 1 + 1 + 1) (.cells #[.int .i64 0] 34 (0,0))::Blk w.heap.size (.cells #[.int .i64 k,.int .i64 e] 32 (0,0))::Blk (w.heap.size + 1) (.cells #[.pointer (some ⟨b,0,none⟩)] 25 (0,0))::Blk (w.heap.size + 1 + 1) (.cells #[.int .i64 x] 3 (0,0))::RowR 3 1 (.slice va pre.length vc) pre.length (nums .i64 pre)::Blk (w.heap.size + 1 + 1 + 1 + 1) (.cells #[.slice va pre.length vc] 33 (0,0))::Blk (w.heap.size + 1 + 1 + 1 + 1 + 1 + 1) (.cells #[.int .i64 lk,.int .i64 le] 32 (0,0))::Blk D (.deferred (some []))::Rs) [[],[],[0],[1],[]] [[],[],[],[],[]] ([some 44,some 45,none,some 7,some 8]:List (Option Nat)) ([none,none,none,none,none,some 2]:List (Option Nat))
         ((fun _=>.agg #[.int .i64 lk,.int .i64 le])::(fun _=>.slice va pre.length vc)::(fun _=>undef)::(fun _=>.slice va pre.length vc)::(fun _=>.int .i64 0)::[])
         (zR::zR::zR::zR::zR::(fun _=>[Blk (w.heap.size + 1 + 1 + 1) (.cells #[.int .i64 0,.int .i64 0] 32 (0,0))])::([]:List (List Gh → List Res)))
         (zR::zR::zR::zR::zR::(fun _=>[Blk (w.heap.size + 1 + 1 + 1) (.cells #[.int .i64 lk,.int .i64 le] 32 (0,0))])::([]:List (List Gh → List Res)))
         (by kernel_rfl) rfl (hold_lt (n:=46) (by decide)) (HD.out.front 9 rfl) rfl (by decide) (hold_nil (fs:=[2]) trivial rfl ?nil) ?gd ?step (fun t=>(decide (7 ≤ t) && decide (t ≤ 8)) || (decide (44 ≤ t) && decide (t ≤ 45))) (by decide) ?done (fun I h0 st dn=>run_wpB mixed I h0 st dn)
        case nil =>
         intro s gs hs
         simp only [List.mem_cons,List.not_mem_nil,or_false] at hs
         subst hs; rfl
        case gd =>
         repeat (refine StepAll.cons (by first | exact trivial | exact fun g=>rfl) ?_)
         exact trivial
        case step =>
         refine StepAll.cons ?_ ?_
         · refine HoldStepB.val (by decide) fun a wx γ hn hr hres hpre Ss hH K hK=>?_
           have e11:a.eval (.tmp 11) = .pointer (some ⟨(w.heap.size + 1 + 1 + 1 + 1 + 1 + 1),0,none⟩):=(hr 11 (by decide)).trans rfl
           exact hold_run (v:=.agg #[.int .i64 lk,.int .i64 le]) (by clear hn hr hK; generalize a.eval = ρ at *; simp [execOp,e11,cell_of_heap (Hd.nthk 7 hH.rear rfl),go_sem]) rfl rfl hH hK
         refine StepAll.cons ?_ ?_
         · refine HoldStepB.val (by decide) fun a wx γ hn hr hres hpre Ss hH K hK=>?_
           have e9:a.eval (.tmp 9) = .pointer (some ⟨(w.heap.size + 1 + 1 + 1 + 1),0,none⟩):=(hr 9 (by decide)).trans rfl
           exact hold_run (v:=.slice va pre.length vc) (by clear hn hr hK; generalize a.eval = ρ at *; simp [execOp,e9,cell_of_heap (Hd.nthk 6 hH.rear rfl),go_sem]) rfl rfl hH hK
         refine StepAll.cons ?_ ?_
         · refine HoldStepB.fil 5 (by decide) fun a wx γ hn hr hres hpre Ss hH K hK=>?_
           have e6:a.eval (.tmp 6) = .pointer (some ⟨(w.heap.size + 1 + 1 + 1),0,none⟩):=(hr 6 (by decide)).trans rfl
           have e44:a.eval (.tmp 44) = .agg #[.int .i64 lk,.int .i64 le]:=hn 0 (by decide) 44 rfl
           have hH2:Hd W wx (Blk (w.heap.size + 1 + 1 + 1) (.cells #[.int .i64 0,.int .i64 0] 32 (0,0))::(Ss ++ Sto b rL m::Blk (w.heap.size + 1 + 1 + 1 + 1 + 1) (.cells #[.int .i64 0] 34 (0,0))::Blk w.heap.size (.cells #[.int .i64 k,.int .i64 e] 32 (0,0))::Blk (w.heap.size + 1) (.cells #[.pointer (some ⟨b,0,none⟩)] 25 (0,0))::Blk (w.heap.size + 1 + 1) (.cells #[.int .i64 x] 3 (0,0))::RowR 3 1 (.slice va pre.length vc) pre.length (nums .i64 pre)::Blk (w.heap.size + 1 + 1 + 1 + 1) (.cells #[.slice va pre.length vc] 33 (0,0))::Blk (w.heap.size + 1 + 1 + 1 + 1 + 1 + 1) (.cells #[.int .i64 lk,.int .i64 le] 32 (0,0))::Blk D (.deferred (some []))::Rs)):=hH
           have hk:=hH2.blk
           have c0:=(cell_of_heap hk 0).trans (show _ = some (.int .i64 0) from rfl)
           have c1:=(cell_of_heap hk 1).trans (show _ = some (.int .i64 0) from rfl)
           have cf:=frozen_of_heap hk
           clear hk hH
           exact hold_filB (w':=(wx.setCell ⟨(w.heap.size + 1 + 1 + 1),0,none⟩ (.int .i64 lk)).setCell ⟨(w.heap.size + 1 + 1 + 1),1,none⟩ (.int .i64 le)) (by clear hn hr hK hH2; generalize a.eval = ρ at *; simp [execOp,e6,e44,c0,c1,cf,go_sem]) rfl rfl ((hH2.set 0 (.int .i64 lk)).set 1 (.int .i64 le)) hK
         refine .cons (pN 1 45 rfl fun _=>⟨rfl,rfl⟩) ?_
         refine StepAll.cons ?_ ?_
         · refine HoldStepB.val (by decide) fun a wx γ hn hr hres hpre Ss hH K hK=>?_
           have ec:=evc a
           exact hold_run (v:=.int .i64 0) (by clear hn hr hK; generalize a.eval = ρ at *; simp [execOp,ec,go_sem]) rfl rfl hH hK
         exact trivial
        case done =>
         intro f w9 g9 hv h9
         have er7:f 7 = .slice va pre.length vc:=hv 3 7 rfl
         have er8:f 8 = .int .i64 0:=hv 4 8 rfl
         have H9:Hid (Hd W w9 (Blk (w.heap.size + 1 + 1 + 1) (.cells #[.int .i64 lk,.int .i64 le] 32 (0,0))::Sto b rL m::Blk (w.heap.size + 1 + 1 + 1 + 1 + 1) (.cells #[.int .i64 0] 34 (0,0))::Blk w.heap.size (.cells #[.int .i64 k,.int .i64 e] 32 (0,0))::Blk (w.heap.size + 1) (.cells #[.pointer (some ⟨b,0,none⟩)] 25 (0,0))::Blk (w.heap.size + 1 + 1) (.cells #[.int .i64 x] 3 (0,0))::RowR 3 1 (.slice va pre.length vc) pre.length (nums .i64 pre)::Blk (w.heap.size + 1 + 1 + 1 + 1) (.cells #[.slice va pre.length vc] 33 (0,0))::Blk (w.heap.size + 1 + 1 + 1 + 1 + 1 + 1) (.cells #[.int .i64 lk,.int .i64 le] 32 (0,0))::Blk D (.deferred (some []))::Rs)):=hid h9
         clear hv h9 HD
         simp only [patchG,Nat.reduceAdd,Nat.reduceLeDiff,decide_true,decide_false,Bool.and_true,Bool.and_false,Bool.or_true,Bool.or_false,cond_true,cond_false,er7,er8]
         clear er7 er8
         gi_wp2
         refine ⟨by simp,.inl ⟨_,_,rfl,run_takeDeferred (Hd.nthk 9 H9.out rfl),?_⟩⟩
         have hd2:=((H9.out.front 9 rfl).putObj (.deferred none)).drop
         have hk:=hd2.blk
         have c0:=(cell_of_heap hk 0).trans (show _ = some (.int .i64 lk) from rfl)
         have c1:=(cell_of_heap hk 1).trans (show _ = some (.int .i64 le) from rfl)
         clear hk
         refine ⟨.tuple #[.agg #[.int .i64 lk,.int .i64 le],.slice va pre.length vc,.int .i64 0],?_,.slice va pre.length vc,?_,?_⟩
         · simp [results,Try.results20,c0,c1,go_sem]
         · rw [← hq,HQ2.out,if_pos trivial]
         · rw [← hq,HQ2.out,if_pos trivial]
           have hd3:=hd2.drop.front 5 rfl
           exact (((((((((((hd3.front 2 rfl).drop).front 2 rfl).drop).front 2 rfl).drop).front 2 rfl).drop).front 2 rfl).drop).front 2 rfl).drop
      · have dx:(re != 0) = true:=by rw [bne_iff_ne]; exact h0
        have dx':decide (re = 0) = false:=by simpa using h0
        gi_wp2
        refine wpIn_wide.2 ?_
        refine hold_coreB (P:=Try.prog) (W:=W) (Rs:=Sto b rL m::Blk (w.heap.size + 1 + 1 + 1 + 1 + 1) (.cells #[.int .i64 re] 34 (0,0))::Blk w.heap.size (.cells #[.int .i64 k,.int .i64 e] 32 (0,0))::Blk (w.heap.size + 1) (.cells #[.pointer (some ⟨b,0,none⟩)] 25 (0,0))::Blk (w.heap.size + 1 + 1) (.cells #[.int .i64 x] 3 (0,0))::RowR 3 1 (.slice va pre.length vc) pre.length (nums .i64 pre)::Blk (w.heap.size + 1 + 1 + 1 + 1) (.cells #[.slice va pre.length vc] 33 (0,0))::Blk (w.heap.size + 1 + 1 + 1 + 1 + 1 + 1) (.cells #[.int .i64 lk,.int .i64 le] 32 (0,0))::Blk D (.deferred (some []))::Rs) [[],[],[0],[],[1]] [[],[],[],[],[]] ([some 42,some 43,none,some 7,some 8]:List (Option Nat)) ([none,none,none,none,none,some 2]:List (Option Nat))
         ((fun _=>.agg #[.int .i64 0,.int .i64 0])::(fun _=>.int .i64 re)::(fun _=>undef)::(fun _=>.slice none 0 0)::(fun _=>.int .i64 re)::[])
         (zR::zR::zR::zR::zR::(fun _=>[Blk (w.heap.size + 1 + 1 + 1) (.cells #[.int .i64 0,.int .i64 0] 32 (0,0))])::([]:List (List Gh → List Res)))
         (zR::zR::zR::zR::zR::(fun _=>[Blk (w.heap.size + 1 + 1 + 1) (.cells #[.int .i64 0,.int .i64 0] 32 (0,0))])::([]:List (List Gh → List Res)))
         (by kernel_rfl) rfl (hold_lt (n:=46) (by decide)) (HD.out.front 9 rfl) rfl (by decide) (hold_nil (fs:=[2]) trivial rfl ?nil) ?gd ?step (fun t=>(decide (7 ≤ t) && decide (t ≤ 8)) || (decide (42 ≤ t) && decide (t ≤ 43))) (by decide) ?done (fun I h0 st dn=>run_wpB mixed I h0 st dn)
        case nil =>
         intro s gs hs
         simp only [List.mem_cons,List.not_mem_nil,or_false] at hs
         subst hs; rfl
        case gd =>
         repeat (refine StepAll.cons (by first | exact trivial | exact fun g=>rfl) ?_)
         exact trivial
        case step =>
         refine StepAll.cons ?_ ?_
         · refine HoldStepB.val (by decide) fun a wx γ hn hr hres hpre Ss hH K hK=>?_
           exact hold_run (v:=.agg #[.int .i64 0,.int .i64 0]) (by clear hn hr hK; generalize a.eval = ρ at *; simp [execOp,go_sem]) rfl rfl hH hK
         refine StepAll.cons ?_ ?_
         · refine HoldStepB.val (by decide) fun a wx γ hn hr hres hpre Ss hH K hK=>?_
           have e10:a.eval (.tmp 10) = .pointer (some ⟨(w.heap.size + 1 + 1 + 1 + 1 + 1),0,none⟩):=(hr 10 (by decide)).trans rfl
           exact hold_run (v:=.int .i64 re) (by clear hn hr hK; generalize a.eval = ρ at *; simp [execOp,e10,cell_of_heap (Hd.nthk 1 hH.rear rfl),go_sem]) rfl rfl hH hK
         refine StepAll.cons ?_ ?_
         · refine HoldStepB.fil 5 (by decide) fun a wx γ hn hr hres hpre Ss hH K hK=>?_
           have e6:a.eval (.tmp 6) = .pointer (some ⟨(w.heap.size + 1 + 1 + 1),0,none⟩):=(hr 6 (by decide)).trans rfl
           have e42:a.eval (.tmp 42) = .agg #[.int .i64 0,.int .i64 0]:=hn 0 (by decide) 42 rfl
           have hH2:Hd W wx (Blk (w.heap.size + 1 + 1 + 1) (.cells #[.int .i64 0,.int .i64 0] 32 (0,0))::(Ss ++ Sto b rL m::Blk (w.heap.size + 1 + 1 + 1 + 1 + 1) (.cells #[.int .i64 re] 34 (0,0))::Blk w.heap.size (.cells #[.int .i64 k,.int .i64 e] 32 (0,0))::Blk (w.heap.size + 1) (.cells #[.pointer (some ⟨b,0,none⟩)] 25 (0,0))::Blk (w.heap.size + 1 + 1) (.cells #[.int .i64 x] 3 (0,0))::RowR 3 1 (.slice va pre.length vc) pre.length (nums .i64 pre)::Blk (w.heap.size + 1 + 1 + 1 + 1) (.cells #[.slice va pre.length vc] 33 (0,0))::Blk (w.heap.size + 1 + 1 + 1 + 1 + 1 + 1) (.cells #[.int .i64 lk,.int .i64 le] 32 (0,0))::Blk D (.deferred (some []))::Rs)):=hH
           have hk:=hH2.blk
           have c0:=(cell_of_heap hk 0).trans (show _ = some (.int .i64 0) from rfl)
           have c1:=(cell_of_heap hk 1).trans (show _ = some (.int .i64 0) from rfl)
           have cf:=frozen_of_heap hk
           clear hk hH
           exact hold_filB (w':=(wx.setCell ⟨(w.heap.size + 1 + 1 + 1),0,none⟩ (.int .i64 0)).setCell ⟨(w.heap.size + 1 + 1 + 1),1,none⟩ (.int .i64 0)) (by clear hn hr hK hH2; generalize a.eval = ρ at *; simp [execOp,e6,e42,c0,c1,cf,go_sem]) rfl rfl ((hH2.set 0 (.int .i64 0)).set 1 (.int .i64 0)) hK
         refine StepAll.cons ?_ ?_
         · refine HoldStepB.val (by decide) fun a wx γ hn hr hres hpre Ss hH K hK=>?_
           have ec:=evc a
           exact hold_run (v:=.slice none 0 0) (by clear hn hr hK; generalize a.eval = ρ at *; simp [execOp,ec,go_sem]) rfl rfl hH hK
         refine .cons (pN 1 43 rfl fun _=>⟨rfl,rfl⟩) ?_
         exact trivial
        case done =>
         intro f w9 g9 hv h9
         have er7:f 7 = .slice none 0 0:=hv 3 7 rfl
         have er8:f 8 = .int .i64 re:=hv 4 8 rfl
         have H9:Hid (Hd W w9 (Blk (w.heap.size + 1 + 1 + 1) (.cells #[.int .i64 0,.int .i64 0] 32 (0,0))::Sto b rL m::Blk (w.heap.size + 1 + 1 + 1 + 1 + 1) (.cells #[.int .i64 re] 34 (0,0))::Blk w.heap.size (.cells #[.int .i64 k,.int .i64 e] 32 (0,0))::Blk (w.heap.size + 1) (.cells #[.pointer (some ⟨b,0,none⟩)] 25 (0,0))::Blk (w.heap.size + 1 + 1) (.cells #[.int .i64 x] 3 (0,0))::RowR 3 1 (.slice va pre.length vc) pre.length (nums .i64 pre)::Blk (w.heap.size + 1 + 1 + 1 + 1) (.cells #[.slice va pre.length vc] 33 (0,0))::Blk (w.heap.size + 1 + 1 + 1 + 1 + 1 + 1) (.cells #[.int .i64 lk,.int .i64 le] 32 (0,0))::Blk D (.deferred (some []))::Rs)):=hid h9
         clear hv h9 HD
         simp only [patchG,Nat.reduceAdd,Nat.reduceLeDiff,decide_true,decide_false,Bool.and_true,Bool.and_false,Bool.or_true,Bool.or_false,cond_true,cond_false,er7,er8]
         clear er7 er8
         gi_wp2
         refine ⟨by simp,.inl ⟨_,_,rfl,run_takeDeferred (Hd.nthk 9 H9.out rfl),?_⟩⟩
         have hd2:=((H9.out.front 9 rfl).putObj (.deferred none)).drop
         have hk:=hd2.blk
         have c0:=(cell_of_heap hk 0).trans (show _ = some (.int .i64 0) from rfl)
         have c1:=(cell_of_heap hk 1).trans (show _ = some (.int .i64 0) from rfl)
         clear hk
         refine ⟨.tuple #[.agg #[.int .i64 0,.int .i64 0],.slice none 0 0,.int .i64 re],?_,.slice none 0 0,?_,?_⟩
         · simp [results,Try.results20,c0,c1,go_sem]
         · rw [← hq,HQ2.out,if_neg h0]
         · rw [← hq,HQ2.out,if_neg h0]
           exact Hd.row_nil15 hd2.drop.un2.un2.un2.un2.un2.un2.un2
end
end Go.Proofs.Ytpcfmafokkffgaa
namespace Go.Proofs.Ytpcfmafokkffgaa
open Go.RowKit

def sl1:List T:=(put 200 [] ⟨2,⟨#[]⟩,9,0,0,0⟩).2.2
end Go.Proofs.Ytpcfmafokkffgaa
namespace Go.Proofs.Ytpcfmafokkffgaa
open Go.RowKit

end Go.Proofs.Ytpcfmafokkffgaa
namespace Go.Proofs.Ytpcfmafokkffgaa
open Go.RowKit

theorem row_ints {W w:World} {v:Value} {ks:List Int} {Rs:List Res} (h:Hd W w (RowR 3 1 v ks.length (nums .i64 ks)::Rs)):∃ ad cap,v = .slice ad ks.length cap ∧ IntsAt w ad ks:=by
 obtain ⟨ad,cap,rfl⟩:=h.row_form
 refine ⟨ad,cap,rfl,?_⟩
 by_cases h0:ks = []
 · exact .inl h0
 · have hp:0 < ks.length:=List.length_pos_iff.2 h0
   obtain ⟨g,c,e,_⟩:=h.row_cell (j:=0) (u:=.int .i64 (ks.getD 0 0)) (by simp [nums,List.getD,hp])
   simp only [Value.slice.injEq] at e
   refine .inr ⟨g,0,e.1,fun j hj=>?_⟩
   obtain ⟨g',c',e',hc⟩:=h.row_cell (j:=j) (u:=.int .i64 (ks.getD j 0)) (by simp [nums,List.getD,hj])
   simp only [Value.slice.injEq] at e'
   have:=e.1.symm.trans e'.1
   simp only [Option.some.injEq,Addr.mk.injEq,and_true] at this
   rw [Nat.zero_add,this]
   exact hc

def fl1:List T:=(put 20 [] ⟨2,⟨#[]⟩,1,0,0,0⟩).2.2
def fl2:List T:=(put 20 fl1 (keyT 1 1)).2.2
def fl3:List T:=(next15 20 fl2 1 0).2.2
def fl4:List T:=(to15 20 fl3 1 0 2).2.2.2

end Go.Proofs.Ytpcfmafokkffgaa
namespace Go.Proofs.Ytpcfmafokkffgaa
open Go.RowKit

section
variable {W w X w':World} {E n:Nat} {v:Value} {Rs:List Res}
end

/-- APPEND NOTHING. -/
theorem append_zero {w:World} {ops:Array Oper} {rest:List Oper} {o:Oper} {a:Act} {Q:Exit → Act → World → Prop} {T E c g cap n:Nat} {i:TypeInfo} {ad:Option Addr} (ht:Try.prog.underlying T = some (.slice E)) (hi:Try.prog.info? E = some i) (hgd:o.guard = none) (s x:Operand)
 (ho:o.op = .call { callee:=.builtin .append,args:=#[s,x],argTypes:=#[T,T] }) (hs:a.eval s = .slice (some ⟨g,0,none⟩) n cap) (hnc:n ≤ cap) (hx:a.eval x = .slice ad 0 c)
 (hK:wpList Try.prog ops Q rest (a.put o.dst (.slice (some ⟨g,0,none⟩) n cap)) w):wpList Try.prog ops Q (o::rest) a w:=by
 refine wpList_plain hgd fun K hK2=>?_
 have hrun:(Builtin.append_ #[T,T] o.type #[.slice (some ⟨g,0,none⟩) n cap,.slice ad 0 c]).run Try.prog w = .ok (.slice (some ⟨g,0,none⟩) n cap) w:=by
  cases ad with
  | none=>simp [Builtin.append_,run_underlying ht,sizeOf,typeInfo,hi,Builtin.lenOf,Builtin.firstCells,hnc,storeCells]
  | some a=>simp [Builtin.append_,run_underlying ht,sizeOf,typeInfo,hi,Builtin.lenOf,Builtin.firstCells,hnc,storeCells,loadCells,go_sem]
 unfold Oper.wp
 simp [execOp,ho,resolve,invoke,builtin,hs,hx,hrun,Result.andThen]
 exact hK2 _ _ hK

end Go.Proofs.Ytpcfmafokkffgaa
namespace Go.Proofs.Ytpcfmafokkffgaa
open Go.RowKit

/-- x is a chain's key, so many steps behind a Nonce. -/
def Lv (L:List T):Nat → Int → Prop
 | 0,x=>∃ n,At L x (nonT n)
 | i + 1,x=>∃ k,Lv L i k ∧ At L x (keyT k 2)

/-- Two chains, i steps behind their Nonces: the keys and the chains so far. -/
structure ApSt (L:List T) (i:Nat) (P:Prop) (c d:Int) (keys chains:List Int):Prop where
 good:Good L
 lc:Lv L i c
 ld:Lv L i d
 eq:c = d ↔ P
 keys:∀ y ∈ keys,∃ j k,j < i ∧ Lv L j k ∧ At L y (keyT k 1)
 chains:∀ y ∈ chains,∃ j,j ≤ i ∧ Lv L j y

section
variable {W w:World} {Rs:List Res} {E:TypeId}
theorem Hd.row_newk (k:Nat) (hk:w.heap.size = k) (h:Hd W w Rs):Hd W (w.alloc (.cells #[] E (0,0))) (RowR E 1 (.slice (some ⟨k,0,none⟩) 0 0) 0 (nums .i64 [])::Rs):=by
 subst hk
 exact h.row_new
/-- A row that is written out. -/
theorem Hd.row_lit (k:Nat) (hk:w.heap.size = k) (zs:List Int) {cs:Array Value} {n:Nat} (hcs:cs = (nums .i64 zs).toArray) (hn:n = zs.length) (hm:n ≤ maxLen) (h:Hd W w Rs):Hd W (w.alloc (.cells cs E (0,0))) (RowR E 1 (.slice (some ⟨k,0,none⟩) n n) n (nums .i64 zs)::Rs):=by
 subst hk hcs hn
 refine h.add ((Below.refl _ _).alloc (Nat.le_refl _) _) (fun j=>if j = w.heap.size then some (.cells (nums .i64 zs).toArray E (0,0)) else none) ⟨by simp [nums],.inr ⟨w.heap.size,zs.length,(nums .i64 zs).toArray,rfl,Nat.le_refl _,hm,by simp [nums],by rw [List.take_of_length_le (by simp [nums])],rfl⟩⟩ (fun k o hk=>?_) (fun k hk=>?_)
 · dsimp only at hk
   split at hk
   · rename_i e1; subst e1; rw [heap_at rfl]; exact hk
   · cases hk
 · split at hk
   · omega
   · exact absurd rfl hk
theorem Hd.row_is {v:Value} {n:Nat} {ks:List Int} (h:Hd W w (RowR 3 1 v n (nums .i64 ks)::Rs)):∃ ad cap,v = .slice ad n cap ∧ n = ks.length ∧ n ≤ maxLen ∧ IntsAt w ad ks:=by
 have hl:n = ks.length:=by
  obtain ⟨f,hR,_⟩:=h.open
  have:=hR.1
  simpa [nums] using this.symm
 have hm:n ≤ maxLen:=by
  obtain ⟨f,hR,_⟩:=h.open
  obtain ⟨_,⟨_,rfl,_⟩ | ⟨_,cap,_,_,h1,h2,_⟩⟩:=hR
  · exact Nat.zero_le _
  · omega
 subst hl
 obtain ⟨ad,cap,e,hi⟩:=row_ints h
 exact ⟨ad,cap,e,rfl,hm,hi⟩
end
end Go.Proofs.Ytpcfmafokkffgaa
namespace Go.Proofs.Ytpcfmafokkffgaa
open Go.RowKit

def lenOf:Value → Nat
 | .slice _ n _=>n
 | _=>0

theorem to15_old {m:Int} {L:List T} {k e x:Int} (h:x < e):to15 m L k e x = ((0,0),[],12,L):=by
 unfold to15
 rw [if_pos h]
theorem to15_lim {m:Int} {L:List T} {k e x:Int} (h:4 < x - e):to15 m L k e x = ((0,0),[],13,L):=by
 unfold to15
 rw [if_neg (by omega),if_pos h]
theorem to15_of {m:Int} {L:List T} {k e x:Int} {n:Nat} (hn:e + n = x) (h4:n ≤ 4):to15 m L k e x = if (steps15 m n L k e).2.2.1 = 0 then ((steps15 m n L k e).2.1,(steps15 m n L k e).1,0,(steps15 m n L k e).2.2.2) else ((0,0),[],(steps15 m n L k e).2.2.1,(steps15 m n L k e).2.2.2):=by
 unfold to15
 rw [if_neg (by omega),if_neg (by omega),show (x - e).toNat = n by omega]

/-- Where the loop stands: what is still to come of it. -/
def ToSt (m:Int) (n:Nat) (L:List T) (k e:Int) (i:Nat) (L':List T) (k':Int) (pre:List Int):Prop :=
 steps15 m n L k e = (pre ++ (steps15 m (n - i) L' k' (e + i)).1,(steps15 m (n - i) L' k' (e + i)).2)

theorem ToSt.start {m:Int} {n:Nat} {L:List T} {k e:Int}:ToSt m n L k e 0 L k []:=by simp [ToSt]
theorem ToSt.seal {m:Int} {n i:Nat} {L L' L1:List T} {k e k' p1 p2:Int} {pre:List Int} (h:ToSt m n L k e i L' k' pre) (hi:i < n) (hp:put m L' (keyT k' 1) = (p1,p2,L1)) (h0:p2 ≠ 0) :
 (steps15 m n L k e).2.2.1 = p2 ∧ (steps15 m n L k e).2.2.2 = L1:=by
 unfold ToSt at h
 rw [show n - i = (n - i - 1) + 1 by omega,steps15_succ,hp] at h
 dsimp only at h
 rw [if_neg h0] at h
 rw [h]
 exact ⟨rfl,rfl⟩
theorem ToSt.next {m:Int} {n i:Nat} {L L' L1 L2:List T} {k e k' p1 r2:Int} {d:Int × Int} {pre:List Int} (h:ToSt m n L k e i L' k' pre) (hi:i < n) (hp:put m L' (keyT k' 1) = (p1,0,L1)) (hn:next15 m L1 k' (e + i) = (d,r2,L2)) (h0:r2 ≠ 0) :
 (steps15 m n L k e).2.2.1 = r2 ∧ (steps15 m n L k e).2.2.2 = L2:=by
 unfold ToSt at h
 rw [show n - i = (n - i - 1) + 1 by omega,steps15_succ,hp] at h
 dsimp only at h
 rw [if_pos rfl,hn] at h
 dsimp only at h
 rw [if_neg h0] at h
 rw [h]
 exact ⟨rfl,rfl⟩
theorem ToSt.step {m:Int} {n i:Nat} {L L' L1 L2:List T} {k e k' p1 dk de:Int} {pre:List Int} (h:ToSt m n L k e i L' k' pre) (hi:i < n) (hp:put m L' (keyT k' 1) = (p1,0,L1)) (hn:next15 m L1 k' (e + i) = ((dk,de),0,L2)) :
 ToSt m n L k e (i + 1) L2 dk (pre ++ [p1]) ∧ de = e + (i + 1:Nat):=by
 have hd:=(next15_epoch hn).1
 refine ⟨?_,by omega⟩
 unfold ToSt at h ⊢
 rw [show n - i = (n - i - 1) + 1 by omega,steps15_succ,hp] at h
 dsimp only at h
 rw [if_pos rfl,hn] at h
 dsimp only at h
 rw [if_pos rfl,hd] at h
 rw [h,show n - (i + 1) = n - i - 1 by omega,show e + (((i + 1:Nat)):Int) = e + i + 1 by omega]
 simp
theorem ToSt.done {m:Int} {n:Nat} {L L':List T} {k e k':Int} {pre:List Int} (h:ToSt m n L k e n L' k' pre):steps15 m n L k e = (pre,(k',e + n),0,L'):=by
 unfold ToSt at h
 rw [Nat.sub_self] at h
 simpa [steps15] using h

section
variable {W w:World} {Rs:List Res} {b:Nat} {L:List T} {m:Int}
set_option maxRecDepth 100000 in
set_option maxHeartbeats 8000000 in
theorem rto_calls (k e x:Int) (bx : -9223372036854775808 ≤ x) (bx':x ≤ 9223372036854775807) (be : -9223372036854775808 ≤ e) (be':e ≤ 9223372036854775807) (h:Hd W w (RSto b L m::Rs)) {q:(Int × Int) × List Int × Int × List T} (hq:to15 m L k e x = q) :
 Calls Try.prog 30 #[.pointer (some ⟨b,0,none⟩),.agg #[.int .i64 k,.int .i64 e],.int .i64 x] w fun e' w'=>∃ v,e' = .returned (.tuple #[.agg #[.int .i64 q.1.1,.int .i64 q.1.2],v,.int .i64 q.2.2.1]) ∧ Hd W w' (RowR 3 1 v q.2.1.length (nums .i64 q.2.1)::RSto b q.2.2.2 m::Rs):=by
 have H:=hid (((h.boxk (o:=.cells #[.int .i64 k,.int .i64 e] 57 (0,0)) w.heap.size rfl).boxk (o:=.cells #[.int .i64 0,.int .i64 0] 57 (0,0)) (w.heap.size + 1) (by simp)).front 2 rfl)
 clear h
 obtain ⟨wo,hwo⟩:∃ wo,(w.alloc (.cells #[.int .i64 k,.int .i64 e] 57 (0,0))).alloc (.cells #[.int .i64 0,.int .i64 0] 57 (0,0)) = wo:=⟨_,rfl⟩
 rw [hwo] at H
 have hk:=Hd.nthk 2 H.out rfl
 have c0:=(cell_of_heap hk 0).trans (show _ = some (.int .i64 k) from rfl)
 have c1:=(cell_of_heap hk 1).trans (show _ = some (.int .i64 e) from rfl)
 have cs:=(Array.getElem?_eq_some_iff.1 hk).1
 clear hk
 have hk:=Hd.nthk 1 H.out rfl
 have q0:=(cell_of_heap hk 0).trans (show _ = some (.int .i64 0) from rfl)
 have q1:=(cell_of_heap hk 1).trans (show _ = some (.int .i64 0) from rfl)
 have qs:=(Array.getElem?_eq_some_iff.1 hk).1
 have qf:=frozen_of_heap hk
 clear hk
 by_cases h1:x < e
 · have d1:decide (x < e) = true:=by simpa using h1
   rw [to15_old h1] at hq
   have HQ:=hid hq
   clear hq h1
   go_enter Try.func30,Try.ntmps30
   go_wp2_with fail
   refine bodyPost_ret (v:=.tuple #[.agg #[.int .i64 0,.int .i64 0],.slice none 0 0,.int .i64 12]) (by simp [results,Try.results30,go_sem,q0,q1]) rfl ?_
   rw [← HQ.out]
   exact ⟨.slice none 0 0,rfl,Hd.row_nil15 (((((H.out.front 1 rfl).set 0 (.int .i64 0)).set 1 (.int .i64 0)).drop).un2)⟩
 have d1:decide (x < e) = false:=by simp; omega
 go_enter Try.func30,Try.ntmps30
 go_wp2_with fail
 have HQ:=hid hq
 have HW:=hid hwo
 clear hq hwo
 go_loopw [9,10] (fun s9 s10 wr=>∃ a:Nat,a ≤ 5 ∧ e + a ≤ x ∧ s9 = .int .i64 a ∧ s10 = .int .i64 (e + a) ∧ wo = wr) (fun s9 _ _=>5 - (intOf s9).toNat)
 case atStart=>exact ⟨0,by omega,by omega,rfl,by simp,rfl⟩
 case round =>
  obtain ⟨a,ha,hax,rfl,rfl,rfl⟩:=hrel
  by_cases h5:a = 5
  · have HF:Hid (4 < x - e):=hid (by omega)
    have f2:decide ((a:Int) ≤ 4) = false:=by simp; omega
    have f3:decide (4 < (a:Int)) = true:=by simp; omega
    have f5:(e + (a:Int) != x) = true ∨ (e + (a:Int) != x) = false:=by cases h:(e + (a:Int) != x) <;> simp
    rw [to15_lim HF.out] at HQ
    clear h5 ha hax
    rcases f5 with f5 | f5
    all_goals
     go_wp2_with fail
     refine bodyPost_ret (v:=.tuple #[.agg #[.int .i64 0,.int .i64 0],.slice none 0 0,.int .i64 13]) (by simp [results,Try.results30,go_sem,q0,q1]) rfl ?_
     rw [← HQ.out]
     exact ⟨.slice none 0 0,rfl,Hd.row_nil15 (((((H.out.front 1 rfl).set 0 (.int .i64 0)).set 1 (.int .i64 0)).drop).un2)⟩
  by_cases hx:e + (a:Int) = x
  · have f5:(e + (a:Int) != x) = false:=by simpa using hx
    have f3:decide (4 < (a:Int)) = false:=by simp; omega
    have HX:=hid hx
    have hQ:=HQ.out
    rw [to15_of hx (by omega)] at hQ
    have HR:=hid hQ
    have ha4:a ≤ 4:=by omega
    clear hQ HQ h5 hx hax ha c0 c1 q0 q1 qs qf cs
    go_wp2_with fail
    have HB:=hid (H.out.row_newk (E:=3) wo.heap.size rfl)
    clear H f5 f3 d1
    go_loopw [11] (fun s wr=>∃ i:Nat,i ≤ a ∧ ∃ (pa:Option Addr) (pc:Nat) (pre:List Int) (k':Int) (L':List T),s = .slice pa i pc ∧ Hid (ToSt m a L k e i L' k' pre) ∧ Hid (Hd W wr (RowR 3 1 (.slice pa i pc) i (nums .i64 pre)::RSto b L' m::Blk (w.heap.size + 1) (.cells #[.int .i64 0,.int .i64 0] 57 (0,0))::Blk w.heap.size (.cells #[.int .i64 k',.int .i64 (e + i)] 57 (0,0))::Rs))) (fun s _=>a - lenOf s)
    case atStart=>exact ⟨0,Nat.zero_le _,_,_,[],k,L,rfl,hid .start,hid (by simpa using HB.out)⟩
    case round =>
     clear HB
     obtain ⟨i,hi,pa,pc,pre,k',L',rfl,ST,H⟩:=hrel
     obtain ⟨wl,hwl⟩:∃ wl:World,wl = wr:=⟨_,rfl⟩
     rw [← hwl] at H ⊢
     clear hwl wr
     by_cases hlt:i < a
     · have f5:(e + (i:Int) != x) = true:=by have:=HX.out; rw [bne_iff_ne]; omega
       obtain ⟨p1,p2,L1,hs⟩:∃ p1 p2 L1,put m L' (keyT k' 1) = (p1,p2,L1):=⟨_,_,_,rfl⟩
       have HS:=hid hs
       have HLT:=hid hlt
       clear hs hlt
       have hk:=Hd.nthk 3 H.out rfl
       have ba0:=(cell_of_heap hk 0).trans (show _ = some (.int .i64 (k')) from rfl)
       have ba1:=(cell_of_heap hk 1).trans (show _ = some (.int .i64 (e + i)) from rfl)
       have bas:=(Array.getElem?_eq_some_iff.1 hk).1
       clear hk
       have HB:=hid (H.out.front 1 rfl)
       clear H
       go_wp2_with fail
       refine (rseal15_calls k' (e + i) HS.out HB.out).mono ?_
       rintro e2 w1 ⟨rfl,h1⟩
       clear HB ba0 ba1 bas
       have H:=hid h1
       clear h1
       by_cases hz:p2 = 0
       · subst hz
         obtain ⟨⟨dk,de⟩,r2,L2,hn⟩:∃ d r2 L2,next15 m L1 k' (e + i) = (d,r2,L2):=⟨_,_,_,rfl⟩
         have HN:=hid hn
         clear hn
         have hk:=Hd.nthk 3 H.out rfl
         have ba0:=(cell_of_heap hk 0).trans (show _ = some (.int .i64 (k')) from rfl)
         have ba1:=(cell_of_heap hk 1).trans (show _ = some (.int .i64 (e + i)) from rfl)
         have bas:=(Array.getElem?_eq_some_iff.1 hk).1
         clear hk
         go_wp2_with fail
         refine (rnext15_calls k' (e + i) HN.out H.out).mono ?_
         rintro e2 w2 ⟨rfl,h1⟩
         clear H ba0 ba1 bas
         have H:=hid h1
         clear h1
         by_cases hz:r2 = 0
         · subst hz
           obtain ⟨st,hde⟩:=ST.out.step HLT.out HS.out HN.out
           have ST2:=hid st
           have HDE:=hid hde
           clear st ST hde
           obtain ⟨i0,hi0,hz0,hs0,hy0⟩:=info_int
           have Hi0:=hid hi0
           have Hz0:=hid hz0
           have Hs0:=hid hs0
           have Hy0:=hid hy0
           clear hi0 hz0 hs0 hy0
           have HB:=hid ((H.out.bx (o:=.cells #[.int .i64 dk,.int .i64 de] 57 (0,0))).front 2 rfl)
           clear H
           go_wp2_with (at_builtin; refine append_num (k:=.i64) (zs:=pre) Try.underlying33 Hi0.out Hz0.out Hs0.out Hy0.out (by decide) rfl (.tmp 62) (.tmp 64) rfl HB.out (by rfl) p1 (by first | rfl | simp [Act.eval]) (by omega) ?_; intro g5 c5 w9 hq; have H:=hid hq; clear hq HB; have hk:=Hd.nthk 2 H.out rfl; have bb0:=(cell_of_heap hk 0).trans (show _ = some (.int .i64 (dk)) from rfl); have bb1:=(cell_of_heap hk 1).trans (show _ = some (.int .i64 (de)) from rfl); have bbs:=(Array.getElem?_eq_some_iff.1 hk).1; clear hk; have hk:=Hd.nthk 4 H.out rfl; have ba0:=(cell_of_heap hk 0).trans (show _ = some (.int .i64 (k')) from rfl); have ba1:=(cell_of_heap hk 1).trans (show _ = some (.int .i64 (e + i)) from rfl); have bas:=(Array.getElem?_eq_some_iff.1 hk).1; have baf:=frozen_of_heap hk; clear hk)
           go_roundw
           case rel =>
            refine ⟨i + 1,(by have:=HLT.out; omega),_,_,pre ++ [p1],dk,L2,rfl,ST2,hid ?_⟩
            have h9:=(((H.out.front 4 rfl).set 0 (.int .i64 dk)).set 1 (.int .i64 de))
            rw [← HDE.out]
            exact ((((h9.front 4 rfl).front 3 rfl).front 3 rfl).front 4 rfl).drop
           case measure=>have:=HLT.out; simp [lenOf]; omega
         · have g1:(r2 != 0) = true:=by rw [bne_iff_ne]; exact hz
           have g2:decide (r2 = 0) = false:=by simpa using hz
           obtain ⟨st1,st2⟩:=ST.out.next HLT.out HS.out HN.out hz
           rw [st1,st2,if_neg hz] at HR
           clear hz st1 st2
           have hk:=Hd.nthk 2 H.out rfl
           have q0:=(cell_of_heap hk 0).trans (show _ = some (.int .i64 (0)) from rfl)
           have q1:=(cell_of_heap hk 1).trans (show _ = some (.int .i64 (0)) from rfl)
           have qs:=(Array.getElem?_eq_some_iff.1 hk).1
           have qf:=frozen_of_heap hk
           clear hk
           go_wp2_with fail
           refine bodyPost_ret (v:=.tuple #[.agg #[.int .i64 0,.int .i64 0],.slice none 0 0,.int .i64 r2]) (by simp [results,Try.results30,go_sem,q0,q1,qs]) rfl ?_
           rw [← HR.out]
           refine ⟨.slice none 0 0,rfl,?_⟩
           first | exact Hd.row_nil15 ((((((H.out.front 2 rfl).set 0 (.int .i64 0)).set 1 (.int .i64 0)).drop).un2.un2).al) | exact Hd.row_nil15 ((((((H.out.al (o:=.cells #[.int .i64 dk,.int .i64 de] 57 (0,0))).front 2 rfl).set 0 (.int .i64 0)).set 1 (.int .i64 0)).drop).un2.un2)
       · have g1:(p2 != 0) = true:=by rw [bne_iff_ne]; exact hz
         have g2:decide (p2 = 0) = false:=by simpa using hz
         obtain ⟨st1,st2⟩:=ST.out.seal HLT.out HS.out hz
         rw [st1,st2,if_neg hz] at HR
         clear hz st1 st2
         have hk:=Hd.nthk 2 H.out rfl
         have q0:=(cell_of_heap hk 0).trans (show _ = some (.int .i64 (0)) from rfl)
         have q1:=(cell_of_heap hk 1).trans (show _ = some (.int .i64 (0)) from rfl)
         have qs:=(Array.getElem?_eq_some_iff.1 hk).1
         have qf:=frozen_of_heap hk
         clear hk
         go_wp2_with fail
         refine bodyPost_ret (v:=.tuple #[.agg #[.int .i64 0,.int .i64 0],.slice none 0 0,.int .i64 p2]) (by simp [results,Try.results30,go_sem,q0,q1]) rfl ?_
         rw [← HR.out]
         exact ⟨.slice none 0 0,rfl,Hd.row_nil15 (((((H.out.front 2 rfl).set 0 (.int .i64 0)).set 1 (.int .i64 0)).drop).un2.un2)⟩
     · obtain rfl:i = a:=by omega
       have f5:(e + (i:Int) != x) = false:=by have:=HX.out; simpa using this
       have st:=ST.out.done
       have hR:=HR.out
       rw [st] at hR
       simp only [if_true] at hR
       have HR2:=hid hR
       clear st HR hR hlt
       have hk:=Hd.nthk 3 H.out rfl
       have ba0:=(cell_of_heap hk 0).trans (show _ = some (.int .i64 (k')) from rfl)
       have ba1:=(cell_of_heap hk 1).trans (show _ = some (.int .i64 (e + i)) from rfl)
       have bas:=(Array.getElem?_eq_some_iff.1 hk).1
       clear hk
       have hk:=Hd.nthk 2 H.out rfl
       have q0:=(cell_of_heap hk 0).trans (show _ = some (.int .i64 (0)) from rfl)
       have q1:=(cell_of_heap hk 1).trans (show _ = some (.int .i64 (0)) from rfl)
       have qs:=(Array.getElem?_eq_some_iff.1 hk).1
       have qf:=frozen_of_heap hk
       clear hk
       go_wp2_with fail
       refine bodyPost_ret (v:=.tuple #[.agg #[.int .i64 k',.int .i64 (e + i)],.slice pa i pc,.int .i64 0]) (by simp [results,Try.results30,go_sem,q0,q1]) rfl ?_
       rw [← HR2.out]
       obtain ⟨_,_,_,hl,_⟩:=H.out.row_is
       refine ⟨.slice pa i pc,rfl,?_⟩
       rw [← hl]
       exact (((((H.out.front 2 rfl).set 0 (.int .i64 k')).set 1 (.int .i64 (e + i))).drop).front 2 rfl).drop
  · have f5:(e + (a:Int) != x) = true:=by rw [bne_iff_ne]; exact hx
    have f2:decide ((a:Int) ≤ 4) = true:=by simp; omega
    have z1:IntKind.i64.wrap (e + (a:Int) + 1) = e + a + 1:=IntWalk.i64_in _ (by omega)
    have z2:IntKind.i64.wrap ((a:Int) + 1) = a + 1:=IntWalk.i64_in _ (by omega)
    go_wp2_with fail
    go_roundw
    case rel=>exact ⟨a + 1,by omega,by omega,by go_num,by rw [show e + ((a + 1:Nat):Int) = e + a + 1 by omega],by first | rfl | trivial⟩
    case measure=>simp [intOf]; omega
end
end Go.Proofs.Ytpcfmafokkffgaa
