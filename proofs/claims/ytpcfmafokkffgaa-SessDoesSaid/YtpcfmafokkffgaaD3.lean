/-
  Walks and laws that the proof stands on, one behind another: RPutB PureB RefC Stores Room Hd2 Made Hd3 Win Rel Hold Own HoldB HoldC WinT. For every input.
-/
import Derived.Test.YtpcfmafokkffgaaD2
import Derived.Deep.RegionHeld3
import Derived.Deep.RegionLaw
import Derived.Test.YtpcfmafokkffgaaD1
import Derived.Laws.Rows
import Derived.Laws.Bits64b
import Derived.Deep.AppendLies
import Derived.OrdersIn
import Derived.TacticsIn
import Derived.RangeFuncCalls
namespace Go.Proofs.Ytpcfmafokkffgaa
open Go.RowKit

/-- What a put of a new term leaves. -/
def RPutPost (b:Nat) (L:List T) (m:Int) (t:T) (f:Frag) (w w':World):Prop :=
 ∃ g:Frag,RSto b (L ++ [t]) m g ∧ FragIn g w' ∧ (∀ k,g k ≠ none → f k ≠ none ∨ w.heap.size ≤ k) ∧ w'.os = w.os ∧ w'.tape = w.tape ∧ w'.output = w.output ∧ w.heap.size ≤ w'.heap.size ∧ (∀ k,k < w.heap.size → f k = none → w'.heap[k]? = w.heap[k]?)

theorem rinfo_T:∃ i,Try.prog.info? 114 = some i ∧ i.zero = some (T.val zeroT) ∧ i.size = 6 ∧ i.bytes = 56:=info_parts (by kernel_rfl)
theorem cells_one (t:T):∀ v ∈ t.cells,v.oneCell' = true:=by
 intro u hu
 simp only [T.cells,List.mem_cons,List.not_mem_nil,or_false] at hu
 rcases hu with rfl | rfl | rfl | rfl | rfl | rfl <;> rfl

theorem rsto_owns {w w':World} {b:Nat} {L:List T} {m:Int} {f:Frag} (h:RSto b L m f) (hf:FragIn f w) (hb:Below w.heap.size w w'):∃ a cap,RStoAt w b L m a cap ∧ w'.ownsRow 0 114 6 (.slice a L.length cap) L.length (cellsOf L) ∧
 (∀ g,(Value.slice a L.length cap).ownBlock = some g → g ≠ b ∧ g < w.heap.size ∧ f g ≠ none) ∧ w.heap[b]? = some (.cells #[.slice a L.length cap,.int .i64 m] 131 (0,0)) ∧ f b ≠ none:=by
 obtain ⟨hok,h | h⟩:=h
 · obtain ⟨rfl,rfl⟩:=h
   have h0:w.heap[b]? = some (.cells #[.slice none 0 0,.int .i64 m] 131 (0,0)):=hf b _ (by simp [rFrag])
   refine ⟨none,0,⟨hok,by rw [cell_of_heap h0]; rfl,by rw [cell_of_heap h0]; rfl,fun j=>frozen_of_heap h0 j,fun i t hi=>by simp at hi,(Array.getElem?_eq_some_iff.1 h0).1⟩,⟨rfl,.inl ⟨rfl,rfl⟩⟩,fun g e=>by simp [Value.ownBlock] at e,h0,by simp [rFrag]⟩
 · obtain ⟨g,cap,cur,hne,rfl,h1,h2,h3,h4⟩:=h
   have h0:w.heap[b]? = some (.cells #[.slice (some ⟨g,0,none⟩) L.length cap,.int .i64 m] 131 (0,0)):=hf b _ (by simp [rFrag])
   have hg:w.heap[g]? = some (.cells cur 114 (0,0)):=hf g _ (by simp [rFrag,Ne.symm hne])
   have hlt:=(Array.getElem?_eq_some_iff.1 hg).1
   refine ⟨some ⟨g,0,none⟩,cap,⟨hok,by rw [cell_of_heap h0]; rfl,by rw [cell_of_heap h0]; rfl,fun j=>frozen_of_heap h0 j,fun i t hi=>⟨g,rfl,hlt,fun j v hj=>?_⟩,(Array.getElem?_eq_some_iff.1 h0).1⟩,⟨cellsOf_length _,.inr ⟨g,cap,cur,rfl,Nat.zero_le _,(hb.block g hlt).trans hg,h2,h3,h1,h4⟩⟩,fun g' e=>?_,h0,by simp [rFrag]⟩
   · rw [cell_of_heap hg,← Array.getElem?_toList]
     exact get_of_take h4 (cellsOf_get hi hj)
   · simp only [Value.ownBlock,Option.some.injEq] at e
     subst e
     exact ⟨Ne.symm hne,hlt,by simp [rFrag,Ne.symm hne]⟩
theorem rput_end {b:Nat} {L:List T} {m:Int} {f:Frag} {t:T} {w X w5:World} {a:Option Addr} {cap g2 cap2:Nat} (hok:RGood L m) (hb:Below w.heap.size w X) (hh:w.heap[b]? = some (.cells #[.slice a L.length cap,.int .i64 m] 131 (0,0))) (hfb:f b ≠ none)
 (hgb:∀ g,(Value.slice a L.length cap).ownBlock = some g → g ≠ b ∧ g < w.heap.size ∧ f g ≠ none) (ho:w5.ownsRow 0 114 6 (.slice (some ⟨g2,0,none⟩) (L.length + 1) cap2) (L.length + 1) (cellsOf L ++ T.cells t)) (hg:X.grownBy w5 (Value.slice a L.length cap).ownBlock)
 (hgg:(Value.slice a L.length cap).ownBlock = some g2 ∨ g2 = X.heap.size) (hm:t.may L.length) (hi:find t L = none) (hlt:(L.length:Int) < m) :
 RPutPost b L m t f w (w5.setCell ⟨b,0,none⟩ (.slice (some ⟨g2,0,none⟩) (L.length + 1) cap2)):=by
 have hbl:b < w.heap.size:=(Array.getElem?_eq_some_iff.1 hh).1
 have hsX:=hb.size
 have hs5:=hg.size
 have hg2:g2 ≠ b:=by
  rcases hgg with h | h
  · exact (hgb g2 h).1
  · omega
 obtain ⟨_,⟨h,_⟩ | ⟨g',cap',cur,hv,_,h2,h3,h4,h5,h6⟩⟩:=ho
 · cases h
 obtain ⟨rfl,rfl⟩:g' = g2 ∧ cap' = cap2:=by simp at hv; exact ⟨hv.1.symm,hv.2.symm⟩
 have hk:∀ k,k ≠ b → (w5.setCell ⟨b,0,none⟩ (.slice (some ⟨g',0,none⟩) (L.length + 1) cap')).heap[k]? = w5.heap[k]?:=fun k hk=>Below.heap_setCell _ _ _ _ hk
 have h5b:w5.heap[b]? = some (.cells #[.slice a L.length cap,.int .i64 m] 131 (0,0)):=by
  rw [hg.block b (by omega) (fun e=>(hgb b e.symm).1 rfl),hb.block b hbl]; exact hh
 refine ⟨rFrag b (.slice (some ⟨g',0,none⟩) (L.length + 1) cap') m (some (g',cur)),⟨⟨hok.good.snoc hm (find_none.1 hi),hok.m0,hok.m1,by simp; omega⟩,.inr ⟨g',cap',cur,Ne.symm hg2,by simp,h5,by simpa using h3,h4,?_⟩⟩,fun k o hk'=>?_,fun k hk'=>?_,hg.os.trans hb.os,hg.tape.trans hb.tape,hg.output.trans hb.output,by simpa using Nat.le_trans hsX hs5,fun k hk1 hk2=>?_⟩
 · rw [show (L ++ [t]).length = L.length + 1 from by simp,h6]
   simp [cellsOf]
 · unfold rFrag at hk'
   split at hk'
   · rename_i e
     subst e
     simp only [World.setCell,Array.getElem?_modify,h5b]
     simpa using hk'
   · simp only at hk'
     split at hk'
     · rename_i e; subst e; rw [hk _ hg2,h2]; exact hk'
     · cases hk'
 · unfold rFrag at hk'
   split at hk'
   · rename_i e; subst e; exact .inl hfb
   · simp only at hk'
     split at hk'
     · rename_i e
       subst e
       rcases hgg with h | h
       · exact .inl (hgb _ h).2.2
       · right; omega
     · exact absurd rfl hk'
 · rw [hk k (fun e=>hfb (e ▸ hk2)),hg.block k (by omega) (fun e=>(hgb k e.symm).2.2 hk2),hb.block k hk1]

set_option maxRecDepth 100000 in
set_option maxHeartbeats 4000000 in
theorem rput_new {b:Nat} {L:List T} {m:Int} {f:Frag} (k:Int) (s:ByteArray) (n a1 b1 c1:Int) {w:World} (hR:RSto b L m f) (hfr:FragIn f w) (hm:T.may L.length ⟨k,s,n,a1,b1,c1⟩) (hi:find ⟨k,s,n,a1,b1,c1⟩ L = none) (hroom:(L.length:Int) < m) :
 Calls Try.prog 52 #[.pointer (some ⟨b,0,none⟩),T.val ⟨k,s,n,a1,b1,c1⟩] w fun e w'=>e = .returned (.tuple #[.int .i64 ((L.length:Int) + 1),.int .i64 0]) ∧ RPutPost b L m ⟨k,s,n,a1,b1,c1⟩ f w w':=by
 obtain ⟨a,cap,h,_,hgb,hh,hfb⟩:=rsto_owns hR hfr (Below.refl _ _)
 have Hh:=hid hh
 have Hfb:=hid hfb
 have Hok:=hid h.ok
 clear hh hfb
 have HR:=hid hR
 have Hfr:=hid hfr
 have Hgb:=hid hgb
 clear hR hfr hgb
 have Hi:=hid hi
 have hl:L.length ≤ 1048576:=by have:=h.ok.m1; have:=h.ok.len; omega
 have Hm:=hid hm
 clear hi
 have Hq:Hid (∀ w',RStoAt w' b L m a cap → Calls Try.prog 78 #[.pointer (some ⟨b,0,none⟩),.agg #[.int .i64 k,.string s,.int .u64 n,.int .i64 a1,.int .i64 b1,.int .i64 c1]] w' fun e w''=>e = .returned (.bool true) ∧ Below w'.heap.size w' w''):=hid fun w' h'=>by
  have hq:=rmay_calls k s n a1 b1 c1 h'
  rw [decide_eq_true hm] at hq
  exact hq
 have Hs:Hid (∀ o,RStoAt (w.alloc o) b L m a cap):=hid fun o=>h.later ((Below.refl _ _).alloc (Nat.le_refl _) _)
 clear h hm
 simp only [T.val]
 go_enter Try.func52,Try.ntmps52
 go_wp2_with fail
 refine (Hq.out _ (Hs.out _)).mono ?_
 rintro e w1 ⟨rfl,hb1⟩
 have hs1:=(Hs.out _).later hb1
 have hbox:w1.heap[w.heap.size]? = some (.cells #[.int .i64 k,.string s,.int .u64 n,.int .i64 a1,.int .i64 b1,.int .i64 c1] 114):=by rw [hb1.block _ (by simp)]; exact heap_at rfl
 have hbw:Below w.heap.size w w1:=((Below.refl _ _).alloc (Nat.le_refl _) _).trans (hb1.mono (by simp <;> omega))
 clear hb1
 have d0:∀ x:Later w1,x.w.cell? ⟨w.heap.size,0,none⟩ = some (.int .i64 k):=fun x=>x.cell (by rw [cell_of_heap hbox]; rfl)
 have d1:∀ x:Later w1,x.w.cell? ⟨w.heap.size,1,none⟩ = some (.string s):=fun x=>x.cell (by rw [cell_of_heap hbox]; rfl)
 have d2:∀ x:Later w1,x.w.cell? ⟨w.heap.size,2,none⟩ = some (.int .u64 n):=fun x=>x.cell (by rw [cell_of_heap hbox]; rfl)
 have d3:∀ x:Later w1,x.w.cell? ⟨w.heap.size,3,none⟩ = some (.int .i64 a1):=fun x=>x.cell (by rw [cell_of_heap hbox]; rfl)
 have d4:∀ x:Later w1,x.w.cell? ⟨w.heap.size,4,none⟩ = some (.int .i64 b1):=fun x=>x.cell (by rw [cell_of_heap hbox]; rfl)
 have d5:∀ x:Later w1,x.w.cell? ⟨w.heap.size,5,none⟩ = some (.int .i64 c1):=fun x=>x.cell (by rw [cell_of_heap hbox]; rfl)
 have D0:=hid d0
 have D1:=hid d1
 have D2:=hid d2
 have D3:=hid d3
 have D4:=hid d4
 have D5:=hid d5
 have Hs1:=hid hs1
 have Hbox:=hid hbox
 have Hbw:=hid hbw
 clear hbox hbw hs1 d0 d1 d2 d3 d4 d5
 go_wp2_with fail
 go_loopw [6] (fun i6 wr=>∃ j:Nat,j ≤ L.length ∧ i6 = .int .i64 j ∧ Hid (Below w1.heap.size w1 wr)) (fun i6 _=>L.length - (intOf i6).toNat)
 case atStart=>exact ⟨0,Nat.zero_le _,rfl,hid (Below.refl _ _)⟩
 case round =>
  obtain ⟨j,hj,rfl,Hb⟩:=hrel
  by_cases hlt:j < L.length
  · obtain ⟨t,ht⟩:∃ t,L[j]? = some t:=⟨L[j]'(by omega),List.getElem?_eq_getElem _⟩
    have hu:t ≠ ⟨k,s,n,a1,b1,c1⟩:=fun e=>find_none.1 Hi.out (by rw [← e]; exact List.mem_of_getElem? ht)
    obtain ⟨k',s',n',a2,b2,c2⟩:=t
    obtain ⟨g,rfl,hg,hc⟩:=Hs1.out.cl j ⟨k',s',n',a2,b2,c2⟩ ht
    have e0:∀ x:Later wr,x.w.cell? ⟨b,0,none⟩ = some (.slice (some ⟨g,0,none⟩) L.length cap):=fun x=>x.cell ((Hb.out.cell (p:=⟨b,0,none⟩) Hs1.out.lt).trans Hs1.out.c0)
    have r0:wr.cell? ⟨b,0,none⟩ = some (.slice (some ⟨g,0,none⟩) L.length cap):=(Hb.out.cell (p:=⟨b,0,none⟩) Hs1.out.lt).trans Hs1.out.c0
    have g0:∀ x:Later wr,x.w.cell? ⟨g,j * 6,none⟩ = some (.int .i64 k'):=fun x=>x.cell ((Hb.out.cell (p:=⟨g,j * 6 + 0,none⟩) hg).trans (hc 0 _ rfl))
    have g1:∀ x:Later wr,x.w.cell? ⟨g,j * 6 + 1,none⟩ = some (.string s'):=fun x=>x.cell ((Hb.out.cell (p:=⟨g,j * 6 + 1,none⟩) hg).trans (hc 1 _ rfl))
    have g2:∀ x:Later wr,x.w.cell? ⟨g,j * 6 + 2,none⟩ = some (.int .u64 n'):=fun x=>x.cell ((Hb.out.cell (p:=⟨g,j * 6 + 2,none⟩) hg).trans (hc 2 _ rfl))
    have g3:∀ x:Later wr,x.w.cell? ⟨g,j * 6 + 3,none⟩ = some (.int .i64 a2):=fun x=>x.cell ((Hb.out.cell (p:=⟨g,j * 6 + 3,none⟩) hg).trans (hc 3 _ rfl))
    have g4:∀ x:Later wr,x.w.cell? ⟨g,j * 6 + 4,none⟩ = some (.int .i64 b2):=fun x=>x.cell ((Hb.out.cell (p:=⟨g,j * 6 + 4,none⟩) hg).trans (hc 4 _ rfl))
    have g5:∀ x:Later wr,x.w.cell? ⟨g,j * 6 + 5,none⟩ = some (.int .i64 c2):=fun x=>x.cell ((Hb.out.cell (p:=⟨g,j * 6 + 5,none⟩) hg).trans (hc 5 _ rfl))
    have f0:∀ x:Later wr,x.w.cell? ⟨w.heap.size,0,none⟩ = some (.int .i64 k):=fun x=>D0.out ⟨x.w,Hb.out.trans (x.below.mono Hb.out.size)⟩
    have f1:∀ x:Later wr,x.w.cell? ⟨w.heap.size,1,none⟩ = some (.string s):=fun x=>D1.out ⟨x.w,Hb.out.trans (x.below.mono Hb.out.size)⟩
    have f2:∀ x:Later wr,x.w.cell? ⟨w.heap.size,2,none⟩ = some (.int .u64 n):=fun x=>D2.out ⟨x.w,Hb.out.trans (x.below.mono Hb.out.size)⟩
    have f3:∀ x:Later wr,x.w.cell? ⟨w.heap.size,3,none⟩ = some (.int .i64 a1):=fun x=>D3.out ⟨x.w,Hb.out.trans (x.below.mono Hb.out.size)⟩
    have f4:∀ x:Later wr,x.w.cell? ⟨w.heap.size,4,none⟩ = some (.int .i64 b1):=fun x=>D4.out ⟨x.w,Hb.out.trans (x.below.mono Hb.out.size)⟩
    have f5:∀ x:Later wr,x.w.cell? ⟨w.heap.size,5,none⟩ = some (.int .i64 c1):=fun x=>D5.out ⟨x.w,Hb.out.trans (x.below.mono Hb.out.size)⟩
    have hj0:(0:Int) ≤ (j:Int):=by omega
    have hj1:(j:Int) < (L.length:Int):=by omega
    have hd1:decide ((j:Int) < (L.length:Int)) = true:=by simp; omega
    have hd2:decide (j < L.length) = true:=by simp; omega
    have heq:∀ w:World,(binOp .eql 114 (.agg #[.int .i64 k',.string s',.int .u64 n',.int .i64 a2,.int .i64 b2,.int .i64 c2]) (.agg #[.int .i64 k,.string s,.int .u64 n,.int .i64 a1,.int .i64 b1,.int .i64 c1])).run Try.prog w = .ok (.bool false) w:=fun w=>by
     have:=reql_T ⟨k',s',n',a2,b2,c2⟩ ⟨k,s,n,a1,b1,c1⟩ w
     rw [decide_eq_false hu] at this
     exact this
    clear hu hc hg
    go_wp2_with fail
    refine wp_region_calm (by kernel_rfl) (by kernel_rfl) ?_
    repeat (go_big_quiet_step (fail))
    refine wpQuiet_nil ?_
    intro w3 hw3
    obtain ⟨⟨w3,hb3⟩,rfl⟩:=hw3
    clear e0 r0 g0 g1 g2 g3 g4 g5 f0 f1 f2 f3 f4 f5 heq
    go_wp2_with fail
    go_roundw
    case rel=>exact ⟨j + 1,by omega,by go_num,hid (Hb.out.trans (hb3.mono Hb.out.size))⟩
    case measure=>simp [intOf]; omega
  · obtain rfl:j = L.length:=by omega
    have r0:wr.cell? ⟨b,0,none⟩ = some (.slice a L.length cap):=(Hb.out.cell (p:=⟨b,0,none⟩) Hs1.out.lt).trans Hs1.out.c0
    have e0:∀ x:Later wr,x.w.cell? ⟨b,0,none⟩ = some (.slice a L.length cap):=fun x=>x.cell r0
    have e1:∀ x:Later wr,x.w.cell? ⟨b,1,none⟩ = some (.int .i64 m):=fun x=>x.cell ((Hb.out.cell (p:=⟨b,1,none⟩) Hs1.out.lt).trans Hs1.out.c1)
    have hd:decide (m ≤ (L.length:Int)) = false:=by simpa using hroom
    have Hroom:=hid hroom
    clear hroom hlt hj
    go_wp2_with fail
    refine wp_region_calm (by kernel_rfl) (by kernel_rfl) ?_
    repeat (go_big_quiet_step (fail))
    refine wpQuiet_nil ?_
    intro w3 hw3
    obtain ⟨⟨w3,hb3⟩,rfl⟩:=hw3
    clear e0 r0 e1
    go_wp2_with fail
    have hb13:Below w1.heap.size w1 w3:=Hb.out.trans (hb3.mono Hb.out.size)
    have hbw3:Below w.heap.size w w3:=Hbw.out.trans (hb13.mono Hbw.out.size)
    have hbox3:w3.heap[w.heap.size]? = _:=(hb13.block _ (Array.getElem?_eq_some_iff.1 Hbox.out).1).trans Hbox.out
    obtain ⟨a',cap',hat',hown,hgb',_,_⟩:=rsto_owns HR.out Hfr.out hbw3
    obtain ⟨rfl,rfl⟩:a' = a ∧ cap' = cap:=by
     have e:=(hbw3.cell (p:=⟨b,0,none⟩) hat'.lt).trans hat'.c0
     have e2:=(hb13.cell (p:=⟨b,0,none⟩) Hs1.out.lt).trans Hs1.out.c0
     rw [e2] at e
     simp only [Option.some.injEq,Value.slice.injEq] at e
     exact ⟨e.1.symm,e.2.2.symm⟩
    have x0:w3.cell? ⟨b,0,none⟩ = some (.slice a' L.length cap'):=(hb13.cell (p:=⟨b,0,none⟩) Hs1.out.lt).trans Hs1.out.c0
    have xf:w3.frozen? ⟨b,0,none⟩ = false:=(hb13.frozen (p:=⟨b,0,none⟩) Hs1.out.lt).trans (Hs1.out.fz 0)
    have y0:w3.cell? ⟨w.heap.size,0,none⟩ = some (.int .i64 k):=by rw [cell_of_heap hbox3]; rfl
    have y1:w3.cell? ⟨w.heap.size,1,none⟩ = some (.string s):=by rw [cell_of_heap hbox3]; rfl
    have y2:w3.cell? ⟨w.heap.size,2,none⟩ = some (.int .u64 n):=by rw [cell_of_heap hbox3]; rfl
    have y3:w3.cell? ⟨w.heap.size,3,none⟩ = some (.int .i64 a1):=by rw [cell_of_heap hbox3]; rfl
    have y4:w3.cell? ⟨w.heap.size,4,none⟩ = some (.int .i64 b1):=by rw [cell_of_heap hbox3]; rfl
    have y5:w3.cell? ⟨w.heap.size,5,none⟩ = some (.int .i64 c1):=by rw [cell_of_heap hbox3]; rfl
    obtain ⟨i0,hi0,hz0,hs0,hy0⟩:=rinfo_T
    have Hi0:=hid hi0
    have Hz0:=hid hz0
    have Hs0:=hid hs0
    have Hy0:=hid hy0
    have Hown:=hid hown
    have Hb3:=hid hbw3
    have hlt3:b < w3.heap.size:=Nat.lt_of_lt_of_le hat'.lt hbw3.size
    have hbl:w.heap.size < w3.heap.size:=(Array.getElem?_eq_some_iff.1 hbox3).1
    have Hne:Hid (∀ g,(Value.slice a' L.length cap').ownBlock = some g → g ≠ w.heap.size):=hid fun g e=>by have:=(hgb' g e).2.1; omega
    have Hnb:Hid (∀ g,(Value.slice a' L.length cap').ownBlock = some g → g ≠ b):=hid fun g e=>(hgb' g e).1
    have hnbw:b ≠ w.heap.size:=by have:=hat'.lt; omega
    clear hi0 hz0 hs0 hy0 hown hbw3 hb13 hbox3 hat' hgb' hb3
    have hne3:=World.new_ne w3 ⟨b,0,none⟩ x0
    go_region_law
     ((refine step_append_lies _ (by rfl) (.tmp 45) (.tmp 47) 129 (by rfl) 0 114 i0 (T.val zeroT) 6 56 (by kernel_rfl) Hi0.out Hz0.out Hs0.out Hy0.out rfl (by decide) (.slice a' L.length cap') L.length (cellsOf L) (by rfl) (Hown.out.alloc _) ⟨w3.heap.size,0,none⟩ 1 1 (T.cells ⟨k,s,n,a1,b1,c1⟩) (by rfl) rfl (World.news_of_block (heap_alloc_new _ _)) (cells_one _) (by decide) (by simp only [maxLen]; omega) (by omega) (Nat.zero_le _) (w3.heap.size + 1) (by simp) ?_; intro g2 cap2 w5 hown5 hgrow5 hat5 hlt5; have z0:w5.cell? ⟨b,0,none⟩ = some (.slice a' L.length cap'):=by { rw [hgrow5.cell_far _ (by simp; omega) (fun e=>Hnb.out _ e.symm rfl)]; exact (((Below.refl w3.heap.size w3).alloc (Nat.le_refl _) _).cell (p:=⟨b,0,none⟩) hlt3).trans x0 }; have zf:w5.frozen? ⟨b,0,none⟩ = false:=by { rw [hgrow5.frozen_far _ (by simp; omega) (fun e=>Hnb.out _ e.symm rfl)]; exact (((Below.refl w3.heap.size w3).alloc (Nat.le_refl _) _).frozen (p:=⟨b,0,none⟩) hlt3).trans xf }))
    all_goals
     clear y0 y1 y2 y3 y4 y5 x0 xf
     have Hown5:=hid hown5
     have Hgrow5:=hid hgrow5
     have Hat5:=hid hat5
     clear hown5 hgrow5 hat5
     go_wp2_with fail
     go_ret2
     exact ⟨rfl,rput_end Hok.out (Hb3.out.trans (Below.mono (Below.alloc (Below.refl w3.heap.size w3) (Nat.le_refl w3.heap.size) (.cells #[.int .i64 k,.string s,.int .u64 n,.int .i64 a1,.int .i64 b1,.int .i64 c1] 114)) Hb3.out.size)) Hh.out Hfb.out Hgb.out Hown5.out ⟨Hgrow5.out.os,Hgrow5.out.tape,Hgrow5.out.output,Hgrow5.out.size,Hgrow5.out.block⟩ (Hat5.out.imp id fun e=>by rw [e]; simp) Hm.out Hi.out Hroom.out⟩

/-- THE DOCUMENT'S PUT: what it answers, and what the store then is. -/
theorem rput_calls {W w:World} {Rs:List Res} {b:Nat} {L:List T} {m:Int} (k:Int) (s:ByteArray) (n a b' c:Int) (h:Hd W w (RSto b L m::Rs)) :
 Calls Try.prog 52 #[.pointer (some ⟨b,0,none⟩),T.val ⟨k,s,n,a,b',c⟩] w fun e w' =>
  e = .returned (.tuple #[.int .i64 (put m L ⟨k,s,n,a,b',c⟩).1,.int .i64 (put m L ⟨k,s,n,a,b',c⟩).2.1]) ∧ Hd W w' (RSto b (put m L ⟨k,s,n,a,b',c⟩).2.2 m::Rs):=by
 obtain ⟨a0,cap,hat⟩:=h.rsto
 by_cases hm:T.may L.length ⟨k,s,n,a,b',c⟩
 case neg =>
  have e:put m L ⟨k,s,n,a,b',c⟩ = (0,1,L):=by unfold put; rw [if_neg hm]
  rw [e]
  exact (rput_no k s n a b' c hat hm).mono fun _ _ ⟨h1,h2⟩=>⟨h1,h.still h2⟩
 cases hi:find ⟨k,s,n,a,b',c⟩ L with
 | some i =>
  have e:put m L ⟨k,s,n,a,b',c⟩ = ((i:Int) + 1,0,L):=by unfold put; rw [if_pos hm,hi]
  rw [e]
  exact (rput_is k s n a b' c hat hm hi).mono fun _ _ ⟨h1,h2⟩=>⟨h1,h.still h2⟩
 | none =>
  by_cases hfull:m ≤ L.length
  · have e:put m L ⟨k,s,n,a,b',c⟩ = (0,4,L):=by unfold put; rw [if_pos hm,hi]; simp [hfull]
    rw [e]
    exact (rput_full k s n a b' c hat hm hi hfull).mono fun _ _ ⟨h1,h2⟩=>⟨h1,h.still h2⟩
  · have e:put m L ⟨k,s,n,a,b',c⟩ = ((L.length:Int) + 1,0,L ++ [⟨k,s,n,a,b',c⟩]):=by unfold put; rw [if_pos hm,hi]; simp [hfull]
    rw [e]
    obtain ⟨f,hR,hf,_,hclose⟩:=h.open
    refine (rput_new k s n a b' c hR hf hm hi (by omega)).mono fun _ w' ⟨h1,g,hg,hgi,hgn,g1,g2,g3,g4,g5⟩=>⟨h1,?_⟩
    exact hclose w' _ g hg hgi hgn g1 g2 g3 g4 g5
end Go.Proofs.Ytpcfmafokkffgaa
namespace Go.Proofs.Ytpcfmafokkffgaa

/-- i is the name of t. -/
structure At (L:List T) (i:Int) (t:T):Prop where
 lo:1 ≤ i
 hi:i ≤ L.length
 is:L[(i - 1).toNat]? = some t

/-- L' is L and more. -/
def Ext (L L':List T):Prop:=∃ M,L' = L ++ M

theorem At.may {L:List T} {i:Int} {t:T} (g:Good L) (h:At L i t):t.may L.length :=
 T.may_mono (g.may _ _ h.is) (by have:=h.hi; have:=h.lo; omega)
theorem At.getT {L:List T} {i:Int} {t:T} (h:At L i t):getT L i = t ∧ getB L i = true:=by
 simp only [Go.Proofs.Ytpcfmafokkffgaa.getT,getB,get,if_pos h.lo,h.is]
 exact ⟨rfl,rfl⟩
theorem at_of {L:List T} {i:Int} (h1:1 ≤ i) (h2:i ≤ L.length):∃ t,At L i t :=
 ⟨L[(i - 1).toNat]'(by omega),h1,h2,List.getElem?_eq_getElem (by omega)⟩
theorem at_getT {L:List T} {i:Int} (h1:1 ≤ i) (h2:i ≤ L.length):At L i (getT L i):=by
 obtain ⟨t,h⟩:=at_of h1 h2
 rw [h.getT.1]; exact h

theorem put_bad {m:Int} {L:List T} {t:T} (h:¬ t.may L.length):put m L t = (0,1,L):=by simp [put,h]

/-- The terms that the layers make. -/
def txtT (s:ByteArray):T:=⟨1,s,0,0,0,0⟩
def nonT (n:Int):T:=⟨2,⟨#[]⟩,n,0,0,0⟩
def pubT (a:Int):T:=⟨3,⟨#[]⟩,0,a,0,0⟩
def shaT (a b:Int):T:=⟨4,⟨#[]⟩,0,a,b,0⟩
def kpuT (a:Int):T:=⟨5,⟨#[]⟩,0,a,0,0⟩
def boxT (a b:Int):T:=⟨6,⟨#[]⟩,0,a,b,0⟩
def kemT (a b:Int):T:=⟨7,⟨#[]⟩,0,a,b,0⟩
def hasT (a b:Int):T:=⟨8,⟨#[]⟩,0,a,b,0⟩
def keyT (a n:Int):T:=⟨9,⟨#[]⟩,n,a,0,0⟩
def seaT (a n b c:Int):T:=⟨10,⟨#[]⟩,n,a,b,c⟩
def paiT (a b:Int):T:=⟨11,⟨#[]⟩,0,a,b,0⟩

section
variable {len a b c n:Int}
end

/-- The parts of a term that is there are there ahead of it. -/
theorem At.part {L:List T} {i p:Int} {t:T} (g:Good L) (h:At L i t) (hp:p ∈ t.parts):1 ≤ p ∧ p < i:=by
 have:=(g.may _ _ h.is).2.2.2.2.2 p hp
 have:=h.lo
 omega
end Go.Proofs.Ytpcfmafokkffgaa
namespace Go.Proofs.Ytpcfmafokkffgaa
open Go.RowKit

set_option maxHeartbeats 1000000 in
theorem ref_calls (k:Int) (s:ByteArray) (n a b c:Int) (w:World) :
 Calls Try.prog 53 #[.agg #[.int .i64 k,.string s,.int .u64 n,.int .i64 a,.int .i64 b,.int .i64 c]] w fun e w' =>
  e = .returned (T.val ⟨k,s,n,a,b,c⟩) ∧ Below w.heap.size w w':=by
 go_enter Try.func53,Try.ntmps53
 go_wp2
 refine bodyPost_ret (v:=T.val ⟨k,s,n,a,b,c⟩) (by simp [results,Try.results53,go_sem,T.val]) rfl ⟨rfl,?_⟩
 exact ((Below.refl _ _).alloc (Nat.le_refl _) _).alloc (by simp) _





end Go.Proofs.Ytpcfmafokkffgaa
namespace Go.Proofs.Ytpcfmafokkffgaa
open Go.RowKit

theorem put_len (m:Int) (L:List T) (t:T):(put m L t).2.2.length ≤ L.length + 1:=by
 unfold put
 split
 · cases find t L with
   | some i=>simp
   | none=>simp only []; split <;> simp
 · simp

set_option maxRecDepth 100000 in
set_option maxHeartbeats 8000000 in
theorem stores_calls {W w:World} {Rs:List Res} (h:Hd W w Rs) (ad:Option Addr) (len cap:Nat) (ts:List T) (hlen:len = ts.length) (hmax:len ≤ maxLen) (hts:TermsIn W ad ts) (most:Int) (h0:0 ≤ most) :
 Calls Try.prog 17 #[.slice ad len cap,.int .i64 most] w fun e w'=>∃ b b' L,e = .returned (.tuple #[.pointer (some ⟨b,0,none⟩),.pointer (some ⟨b',0,none⟩)]) ∧ Good L ∧ (L.length:Int) ≤ most ∧ Hd W w' (Sto b L 1000::RSto b' L 1000::Rs):=by
 have Hlen:=hid hlen
 have Hts:=hid hts
 have Hw:=hid h
 clear hts hlen h
 unfold maxLen at hmax
 go_enter Try.func17,Try.ntmps17
 go_wp2_with fail
 refine (new_calls Hw.out (by decide) (by decide)).mono ?_
 rintro e w1 ⟨b,rfl,hd1⟩
 have H:=hid hd1
 clear hd1
 go_wp2_with fail
 refine (rnew_calls H.out (by decide) (by decide)).mono ?_
 rintro e w2 ⟨b',rfl,hd2⟩
 have H2:=hid hd2.swap
 clear hd2 H
 go_wp2_with fail
 go_loopw [10] (fun i wr=>∃ j:Nat,j ≤ len ∧ (j:Int) ≤ most ∧ i = .int .i64 j ∧ ∃ L:List T,L.length ≤ j ∧ Hid (Hd W wr (Sto b L 1000::RSto b' L 1000::Rs))) (fun i _=>len - (intOf i).toNat)
 case atStart=>exact ⟨0,Nat.zero_le _,by omega,rfl,[],Nat.le_refl _,H2⟩
 case round =>
  obtain ⟨j,hj,hjm,rfl,L,hL,HL⟩:=hrel
  clear H2
  by_cases hlt:j < len ∧ (j:Int) < most
  · have hd1:decide (j < len) = true:=by simpa using hlt.1
    have hd2:decide ((j:Int) < most) = true:=by simpa using hlt.2
    obtain ⟨t,ht⟩:∃ t,ts[j]? = some t:=⟨ts[j]'(by rw [← Hlen.out]; exact hlt.1),List.getElem?_eq_getElem _⟩
    obtain ⟨g,o,rfl,hsz,hcell⟩:=(Hts.out.later HL.out.below) j t ht
    obtain ⟨k,s,n,a,b2,c⟩:=t
    have c0:=hcell 0 _ rfl
    have c1:=hcell 1 _ rfl
    have c2:=hcell 2 _ rfl
    have c3:=hcell 3 _ rfl
    have c4:=hcell 4 _ rfl
    have c5:=hcell 5 _ rfl
    simp only [Nat.add_zero] at c0
    have C0:=hid c0
    have C1:=hid c1
    have C2:=hid c2
    have C3:=hid c3
    have C4:=hid c4
    have C5:=hid c5
    have hj0:(0:Int) ≤ (j:Int):=by omega
    have hj1:(j:Int) < (len:Int):=by omega
    have Ht:=hid ht
    clear hcell ht
    go_wp2_with fail
    refine (cut_calls k s n a b2 c _ hsz).mono ?_
    obtain ⟨k1,s1,n1,a1,b1,c1',hcut⟩:∃ k1 s1 n1 a1 b1 c1,T.cut ⟨k,s,n,a,b2,c⟩ = ⟨k1,s1,n1,a1,b1,c1⟩:=⟨_,_,_,_,_,_,rfl⟩
    have Hcut:=hid hcut
    rw [hcut]
    simp only [T.val]
    rintro e w3 ⟨rfl,hb3⟩
    have H3:=hid (HL.out.still hb3)
    clear hb3 c0 c1 c2 c3 c4 c5 C0 C1 C2 C3 C4 C5 hcut
    go_wp2_with fail
    refine (put_calls k1 s1 n1 a1 b1 c1' H3.out).mono ?_
    obtain ⟨r1,r2,L2,hput⟩:∃ r1 r2 L2,put 1000 L ⟨k1,s1,n1,a1,b1,c1'⟩ = (r1,r2,L2):=⟨_,_,_,rfl⟩
    have hpl:=put_len 1000 L ⟨k1,s1,n1,a1,b1,c1'⟩
    have Hput:=hid hput
    rw [hput] at hpl ⊢
    simp only at hpl
    rintro e w4 ⟨rfl,h4⟩
    have H4:=hid h4.swap
    clear h4 hput H3
    obtain ⟨g',o',e',_,hcell⟩:=(Hts.out.later H4.out.below) j _ Ht.out
    simp only [Option.some.injEq,Addr.mk.injEq,and_true] at e'
    obtain ⟨rfl,rfl⟩:=e'
    have c0:=hcell 0 _ rfl
    have c1:=hcell 1 _ rfl
    have c2:=hcell 2 _ rfl
    have c3:=hcell 3 _ rfl
    have c4:=hcell 4 _ rfl
    have c5:=hcell 5 _ rfl
    simp only [Nat.add_zero] at c0
    clear hcell
    go_wp2_with fail
    refine (cut_calls k s n a b2 c _ hsz).mono ?_
    rw [Hcut.out]
    simp only [T.val]
    rintro e w5 ⟨rfl,hb5⟩
    have H5:=hid (H4.out.still hb5)
    clear hb5 c0 c1 c2 c3 c4 c5 H4
    go_wp2_with fail
    refine (ref_calls k1 s1 n1 a1 b1 c1' _).mono ?_
    simp only [T.val]
    rintro e w6 ⟨rfl,hb6⟩
    have H6:=hid (H5.out.still hb6)
    clear hb6 H5
    go_wp2_with fail
    refine (rput_calls k1 s1 n1 a1 b1 c1' H6.out).mono ?_
    rw [Hput.out]
    rintro e w7 ⟨rfl,h7⟩
    have H7:=hid h7.swap
    clear h7 H6
    go_wp2_with fail
    go_roundw
    case rel=>exact ⟨j + 1,by omega,by omega,by go_num,L2,by omega,H7⟩
    case measure=>simp [intOf]; omega
  · have hex:decide (j < len) = false ∨ (decide (j < len) = true ∧ decide ((j:Int) < most) = false):=by
     by_cases h:j < len
     · right; exact ⟨by simpa using h,by simp; omega⟩
     · left; simpa using h
    have hg:Good L:=by
     obtain ⟨lb,db,mb,lc,dc,hs⟩:=HL.out.sto
     exact hs.good
    have Hg:=hid hg
    have HLm:Hid ((L.length:Int) ≤ most):=hid (by omega)
    clear hlt hg
    rcases hex with hd1 | ⟨hd1,hd2⟩
    · go_wp2_with fail
      go_ret2
      exact ⟨b,b',L,rfl,Hg.out,HLm.out,HL.out⟩
    · go_wp2_with fail
      go_ret2
      exact ⟨b,b',L,rfl,Hg.out,HLm.out,HL.out⟩
end Go.Proofs.Ytpcfmafokkffgaa
namespace Go.Proofs.Ytpcfmafokkffgaa
open Go.RowKit

/-- x is a name. -/
structure In (L:List T) (x:Int):Prop where
 lo:1 ≤ x
 hi:x ≤ L.length
theorem In.term {L:List T} {x:Int} (h:In L x):∃ t,At L x t:=at_of h.lo h.hi
theorem In.getB {L:List T} {x:Int} (h:In L x):getB L x = true:=by obtain ⟨t,ht⟩:=h.term; exact ht.getT.2

/-- A store of at most N terms. -/
structure Room (W w:World) (b:Nat) (L:List T) (m:Int) (N:Nat) (Rs:List Res):Prop where
 hd:Hd W w (Sto b L m::Rs)
 good:Good L
 len:L.length ≤ N

/-- What a call that names a term leaves. -/
def Named (W:World) (b:Nat) (L:List T) (m:Int) (N:Nat) (Rs:List Res) (t:T) (e:Ending) (w':World):Prop :=
 ∃ p L',e = .returned (.tuple #[.int .i64 p,.int .i64 0]) ∧ At L' p t ∧ Ext L L' ∧ Room W w' b L' m (N + 1) Rs

/-- A call that changes nothing and tells a known name. -/
def Known (W:World) (b:Nat) (L:List T) (m:Int) (N:Nat) (Rs:List Res) (p:Int) (e:Ending) (w':World):Prop :=
 e = .returned (.tuple #[.int .i64 p,.int .i64 0]) ∧ Room W w' b L m N Rs

theorem mod_range {d:Int} (n:Int) (h:1 ≤ d):0 ≤ n % d ∧ n % d < d:=⟨Int.emod_nonneg n (by omega),Int.emod_lt_of_pos n (by omega)⟩
end Go.Proofs.Ytpcfmafokkffgaa
namespace Go.Proofs.Ytpcfmafokkffgaa
open Go.RowKit

theorem Hd.al {W w:World} {Rs:List Res} {o:Obj} (h:Hd W w Rs):Hd W (w.alloc o) Rs:=h.still ((Below.refl _ _).alloc (Nat.le_refl _) _)
theorem Hd.dr {W w:World} {Rs:List Res} (h:Hd W w Rs):Hd W w.drew Rs:=h.still (Below.refl _ _).drew

/-- A variable of the call's own is kept behind the first thing. -/
theorem Hd.bx {W w:World} {A:Res} {Rs:List Res} {o:Obj} (h:Hd W w (A::Rs)):Hd W (w.alloc o) (A::Blk w.heap.size o::Rs):=(h.box o).swap
theorem Hd.bxk {W w:World} {A:Res} {Rs:List Res} {o:Obj} (k:Nat) (hk:w.heap.size = k) (h:Hd W w (A::Rs)):Hd W (w.alloc o) (A::Blk k o::Rs):=by subst hk; exact h.bx
theorem Hd.un2 {W w:World} {A B:Res} {Rs:List Res} (h:Hd W w (A::B::Rs)):Hd W w (A::Rs):=h.swap.drop

/-- A store into a block of the call's own. -/
theorem Hd.set {W w:World} {Rs:List Res} {k:Nat} {cs:Array Value} {T:TypeId} (j:Nat) (v:Value) (h:Hd W w (Blk k (.cells cs T (0,0))::Rs)):Hd W (w.setCell ⟨k,j,none⟩ v) (Blk k (.cells (cs.setIfInBounds j v) T (0,0))::Rs):=by
 have hb:=h.blk
 obtain ⟨f,hR,hf,hlt,hshut⟩:=h.open
 have hRf:f = fun i=>if i = k then some (Obj.cells cs T (0,0)) else none:=hR
 subst hRf
 refine hshut _ _ (fun i=>if i = k then some (.cells (cs.setIfInBounds j v) T (0,0)) else none) rfl (fun i o hi=>?_) (fun i hi=>?_) rfl rfl rfl (by simp) (fun i hi hi2=>?_)
 · dsimp only at hi
   split at hi
   · rename_i e; subst e
     rw [heap_setCell_same _ _ _ _ _ _ hb]; exact hi
   · cases hi
 · split at hi
   · rename_i e; subst e; exact .inl (by simp)
   · exact absurd rfl hi
 · refine heap_setCell_other _ _ _ _ fun e=>?_
   have:i = k:=e
   subst this
   simp at hi2

section
variable {W w:World} {Rs:List Res} {b:Nat} {L:List T} {m:Int}

theorem get_c (x:Int) (h:Hd W w (Sto b L m::Rs)) :
 Calls Try.prog 49 #[.pointer (some ⟨b,0,none⟩),.int .i64 x] w fun e w'=>e = .returned (.tuple #[T.val (getT L x),.bool (getB L x)]) ∧ Hd W w' (Sto b L m::Rs):=by
 obtain ⟨lb,db,mb,lc,dc,hs⟩:=h.sto
 exact (get_calls x hs).mono fun e w' ⟨h1,h2⟩=>⟨h1,h.still h2⟩


/-- A put whose answer has names. -/
theorem put_c (k:Int) (s:ByteArray) (n a b' c:Int) {r1 r2:Int} {L2:List T} (hq:Hid (put m L ⟨k,s,n,a,b',c⟩ = (r1,r2,L2))) (h:Hd W w (Sto b L m::Rs)) :
 Calls Try.prog 24 #[.pointer (some ⟨b,0,none⟩),.agg #[.int .i64 k,.string s,.int .u64 n,.int .i64 a,.int .i64 b',.int .i64 c]] w fun e w'=>e = .returned (.tuple #[.int .i64 r1,.int .i64 r2]) ∧ Hd W w' (Sto b L2 m::Rs):=by
 have:=put_calls k s n a b' c h
 rw [hq.out] at this
 exact this

theorem rput_c (k:Int) (s:ByteArray) (n a b' c:Int) {r1 r2:Int} {L2:List T} (hq:Hid (put m L ⟨k,s,n,a,b',c⟩ = (r1,r2,L2))) (h:Hd W w (RSto b L m::Rs)) :
 Calls Try.prog 52 #[.pointer (some ⟨b,0,none⟩),.agg #[.int .i64 k,.string s,.int .u64 n,.int .i64 a,.int .i64 b',.int .i64 c]] w fun e w'=>e = .returned (.tuple #[.int .i64 r1,.int .i64 r2]) ∧ Hd W w' (RSto b L2 m::Rs):=by
 have:=rput_calls k s n a b' c h
 rw [hq.out] at this
 exact this
end
end Go.Proofs.Ytpcfmafokkffgaa
namespace Go.Proofs.Ytpcfmafokkffgaa
open Go.RowKit

/-- Things in another order. -/
theorem Hd.perm {W w:World} {Rs Ss:List Res} (p:Rs.Perm Ss):Hd W w Rs → Hd W w Ss:=by
 have key:∀ {Rs Ss:List Res},Rs.Perm Ss → ∀ u,Lies w u Rs → Lies w u Ss:=by
  intro Rs Ss p
  induction p with
  | nil=>exact fun _ h=>h
  | cons x _ ih=>exact fun u h=>Lies.cons_mono (fun v=>ih v) h
  | swap x y l=>exact fun u h=>h.swap
  | trans _ _ ih1 ih2=>exact fun u h=>ih2 u (ih1 u h)
 exact fun h=>⟨h.below,key p _ h.lies⟩

/-- What a call holds, with what its callee was given. -/
theorem Hd.join {W w w':World} {Rs Ss:List Res} (h:Hd W w Rs) (k:Hd w w' Ss):Hd W w' (Ss ++ Rs):=by
 refine ⟨h.below.trans (k.below.mono h.below.size),?_⟩
 have key:∀ (Ss:List Res) (u v:Nat → Prop),(∀ i,i < w.heap.size → v i) → (∀ i,u i → v i) → (∀ i,u i → i < W.heap.size ∨ w.heap.size ≤ i) → Lies w' v Ss → Lies w' u (Ss ++ Rs):=by
  intro Ss
  induction Ss with
  | nil =>
   intro u v _ _ h3 _
   exact (h.lies.grow h3).keep fun i _ hi=>k.below.block i hi
  | cons S Ss ih =>
   intro u v h1 h2 h3 hl
   obtain ⟨f,hS,hf,hd,hr⟩:=hl
   refine ⟨f,hS,hf,fun i hi hu=>hd i hi (h2 i hu),ih _ _ (fun i hi=>.inl (h1 i hi)) (fun i hi=>hi.imp (h2 i) id) (fun i hi=>?_) hr⟩
   rcases hi with hi | hi
   · exact h3 i hi
   · refine .inr (Nat.le_of_not_lt fun hlt=>hd i hi (h1 i hlt))
 refine key Ss _ _ (fun i hi=>hi) (fun i hi=>Nat.lt_of_lt_of_le hi h.below.size) (fun i hi=>.inl hi) k.lies

section
variable (ops:Array Oper) (need uses:Nat → List Nat)

def dstOf (i:Nat):Option Nat:=(ops[i]?).bind (·.dst)
/-- What the rule asks of the region's text. -/
def checkOps:Bool :=
 (List.range ops.size).all fun i =>
  (match ops[i]? with
   | some o=>decide (o.guard = none) && (need i).all (fun d=>o.after.any fun e=>e.on == d && Region.binds .any e) && o.after.all (fun e=>!Region.binds .any e || decide (e.on < i))
   | none=>false) &&
  (need i).all (fun d=>decide (d < i)) &&
  (uses i).all (fun k=>k == i || (need i).any fun d=>(uses d).contains k) &&
  (List.range ops.size).all fun j=>i == j || dstOf ops i != dstOf ops j || dstOf ops i == none

variable {ops need uses}

theorem here_set {listed:Array Bool} {i j:Nat} (h:(listed.setIfInBounds i true).getD j false = true):j = i ∨ listed.getD j false = true:=by
 by_cases e:i = j
 · exact .inl e.symm
 · right
   simpa [Array.getElem?_setIfInBounds_ne e] using h
theorem here_mono {listed:Array Bool} {i j:Nat} (h:listed.getD j false = true):(listed.setIfInBounds i true).getD j false = true:=by
 by_cases e:i = j
 · subst e
   have hlt:i < listed.size:=by
    rcases Nat.lt_or_ge i listed.size with h' | h'
    · exact h'
    · simp [Array.getElem?_eq_none h'] at h
   simp [hlt]
 · simpa [Array.getElem?_setIfInBounds_ne e] using h

theorem none_here (n i:Nat):(Array.replicate n false).getD i false = false:=by
 simp only [Array.getD_eq_getD_getElem?,Array.getElem?_replicate]
 split <;> rfl

/-- Another block for i. -/
def upd (g:Nat → Nat) (i x:Nat):Nat → Nat:=fun j=>if j = i then x else g j

theorem put_same {a:Act} {d:Nat} {v:Value} (h:d < a.tmps.size):(a.put (some d) v).eval (.tmp d) = v:=by
 simp [Act.put,Act.eval,h]
theorem put_ne {a:Act} {d:Option Nat} {t:Nat} {v:Value} (h:d ≠ some t):(a.put d v).eval (.tmp t) = a.eval (.tmp t):=by
 cases d with
 | none=>rfl
 | some d =>
  have hne:d ≠ t:=fun e=>h (by rw [e])
  simp [Act.put,Act.eval,Array.getElem?_setIfInBounds_ne hne]
theorem put_size (a:Act) (d:Option Nat) (v:Value):(a.put d v).tmps.size = a.tmps.size:=by
 cases d <;> simp [Act.put]
theorem put_defers (a:Act) (d:Option Nat) (v:Value):(a.put d v).defers = a.defers:=by
 cases d <;> rfl

/-- What holds on the way. -/
structure Way (ops:Array Oper) (uses:Nat → List Nat) (val:(Nat → Nat) → Nat → Value) (R:(Nat → Nat) → Nat → List Res) (W w0:World) (Rs:List Res) (a0:Act) (listed:Array Bool) (a:Act) (w:World) (g:Nat → Nat):Prop where
 lsize:listed.size = ops.size
 size:a.tmps.size = a0.tmps.size
 defers:a.defers = a0.defers
 rest:∀ t:Nat,(∀ i,dstOf ops i ≠ some t) → a.eval (.tmp t) = a0.eval (.tmp t)
 has:∀ i d,listed.getD i false = true → dstOf ops i = some d → a.eval (.tmp d) = val g i
 closed:∀ i,listed.getD i false = true → ∀ k ∈ uses i,listed.getD k false = true
 below:Below w0.heap.size w0 w
 hd:Hd W w (((List.range ops.size).filter fun i=>listed.getD i false).flatMap (R g) ++ Rs)

end

/-- A frame of which some slots are written anew. -/
def patchG (S:Nat → Bool) (f:Nat → Value):Nat → List Value → List Value
 | _,[]=>[]
 | i,v::l=>(bif S i then f i else v)::patchG S f (i + 1) l

theorem patchG_get (S:Nat → Bool) (f:Nat → Value):∀ (l:List Value) (i j:Nat),(patchG S f i l)[j]? = (l[j]?).map fun v=>bif S (i + j) then f (i + j) else v
 | [],i,j=>by simp [patchG]
 | v::l,i,0=>by simp [patchG]
 | v::l,i,j + 1=>by
  simp only [patchG,List.getElem?_cons_succ,patchG_get S f l (i + 1) j]
  rw [show i + 1 + j = i + (j + 1) from by omega]

theorem act_litG {a a0:Act} (S:Nat → Bool) (hs:a.tmps.size = a0.tmps.size) (hd:a.defers = a0.defers) (hr:∀ t:Nat,S t = false → a.eval (.tmp t) = a0.eval (.tmp t)) :
 a = { tmps:=(patchG S (fun i=>a.eval (.tmp i)) 0 a0.tmps.toList).toArray,defers:=a0.defers }:=by
 obtain ⟨t,d⟩:=a
 obtain ⟨t0,d0⟩:=a0
 dsimp only at hs hd
 subst hd
 congr 1
 apply Array.ext_getElem?
 intro i
 simp only [List.getElem?_toArray,patchG_get,Nat.zero_add,Array.getElem?_toList]
 by_cases h:i < t.size
 · have h3:i < t0.size:=by omega
   simp only [Array.getElem?_eq_getElem h,Array.getElem?_eq_getElem h3,Option.map_some,Option.some.injEq]
   cases hS:S i with
   | true=>simp [Act.eval,h]
   | false =>
    have:=hr i hS
    simpa [Act.eval,h,h3] using this
 · have h3:¬ i < t0.size:=by omega
   simp [h,h3]
end Go.Proofs.Ytpcfmafokkffgaa
namespace Go.Proofs.Ytpcfmafokkffgaa
open Go.RowKit

theorem Hd.nthk {W w:World} {k:Nat} {o:Obj}:∀ (i:Nat) {Rs:List Res},Hd W w Rs → Rs[i]? = some (Blk k o) → w.heap[k]? = some o
 | 0,A::Rs,h,e=>by
  simp only [List.getElem?_cons_zero,Option.some.injEq] at e
  subst e
  exact h.blk
 | i + 1,A::Rs,h,e=>Hd.nthk i h.drop (by simpa using e)
 | _,[],_,e=>by simp at e
theorem perm_front {R:Res}:∀ (l:List Res) (i:Nat),l[i]? = some R → l.Perm (R::l.eraseIdx i)
 | [],i,h=>by simp at h
 | x::l,0,h=>by
  simp only [List.getElem?_cons_zero,Option.some.injEq] at h
  subst h
  exact List.Perm.refl _
 | x::l,i + 1,h=>((perm_front l i (by simpa using h)).cons x).trans (List.Perm.swap _ _ _)
theorem Hd.front {W w:World} {Rs:List Res} {R:Res} (i:Nat) (h:Hd W w Rs) (e:Rs[i]? = some R):Hd W w (R::Rs.eraseIdx i):=Hd.perm (perm_front Rs i e) h
theorem Hd.back {W w:World} {Rs:List Res} {R:Res} (i:Nat) (h:Hd W w (R::Rs)) {Ss:List Res} (e:R::Ss.eraseIdx i = R::Rs) (hi:Ss[i]? = some R:=by rfl):Hd W w Ss:=by
 rw [← e] at h
 exact Hd.perm (perm_front Ss i hi).symm h
theorem blks_ne {W w:World} {Rs:List Res} {a b:Nat} {o p:Obj} (h:Hd W w (Blk a o::Blk b p::Rs)):¬ a = b:=by
 intro e
 subst e
 obtain ⟨_,f,hf,_,_,g,hg,_,hd,_⟩:=h
 have hf':f = fun j=>if j = a then some o else none:=hf
 have hg':g = fun j=>if j = a then some p else none:=hg
 subst hf' hg'
 exact hd a (by simp) (.inr (by simp))
theorem Hd.boxk {W w:World} {Rs:List Res} {o:Obj} (k:Nat) (hk:w.heap.size = k) (h:Hd W w Rs):Hd W (w.alloc o) (Blk k o::Rs):=by subst hk; exact h.box o
theorem evc (a:Act) (c:Value):a.eval (.const c) = c:=rfl
end Go.Proofs.Ytpcfmafokkffgaa
namespace Go.Proofs.Ytpcfmafokkffgaa
open Go.RowKit

/-- A number's digit in a window. -/
def wDig (x n:Int):Int:=if x ≤ n ∨ 64 ≤ x - 1 - n then 0 else ((2 ^ (x - 1 - n).toNat:Nat):Int)
def wCan (x y n:Int):Bool:=decide (x ≤ n) || (decide (x - 1 - n < 64) && !y.toNat.testBit (x - 1 - n).toNat)
def wTake (x y n:Int):(Int × Int) × Int :=
 if wCan x y n = true then
  if n < x then ((x,((y.toNat ||| 2 ^ (x - 1 - n).toNat:Nat):Int)),0)
  else ((n + 1,(((y.toNat * 2 ^ (n + 1 - x).toNat) % 2 ^ 64 ||| 1:Nat):Int)),0)
 else ((0,0),12)

/-- A window of numbers below 256. -/
structure WIn (x y:Int):Prop where
 x0:0 ≤ x
 x1:x ≤ 256
 y0:0 ≤ y
 y1:y < 18446744073709551616
 z:x = 0 → y = 0

theorem two_pow_lt {d:Nat} (h:d < 64):(2 ^ d:Nat) < 18446744073709551616:=Nat.lt_of_lt_of_le (Nat.pow_lt_pow_right (by decide) h) (by decide)
theorem and_pow_eq_zero (y d:Nat):(y &&& 2 ^ d = 0) ↔ y.testBit d = false:=by
 constructor
 · intro h
   have:=congrArg (fun z=>z.testBit d) h
   simpa [Nat.testBit_and,Nat.testBit_two_pow] using this
 · intro h
   refine Nat.eq_of_testBit_eq fun i=>?_
   rw [Nat.testBit_and,Nat.testBit_two_pow,Nat.zero_testBit]
   by_cases e:d = i
   · subst e; simp [h]
   · simp [e]
theorem wTake_in {x y n:Int} (h:WIn x y) (hn:0 ≤ n) (hn':n ≤ 255):WIn (wTake x y n).1.1 (wTake x y n).1.2:=by
 unfold wTake
 split
 · split
   · rename_i hc hlt
     have hd:(x - 1 - n).toNat < 64:=by
      unfold wCan at hc
      simp only [Bool.or_eq_true,decide_eq_true_eq,Bool.and_eq_true] at hc
      rcases hc with hc | hc
      · omega
      · omega
     have hb:=Nat.or_lt_two_pow (n:=64) (x:=y.toNat) (y:=2 ^ (x - 1 - n).toNat) (by have:=h.y1; have:=h.y0; omega) (two_pow_lt hd)
     have e64:(2 ^ 64:Nat) = 18446744073709551616:=by decide
     exact ⟨h.x0,h.x1,by dsimp only; omega,by dsimp only; omega,fun e=>by dsimp only at e; have:=h.x0; omega⟩
   · have hb:=Nat.or_lt_two_pow (n:=64) (x:=(y.toNat * 2 ^ (n + 1 - x).toNat) % 2 ^ 64) (y:=1) (Nat.mod_lt _ (by decide)) (by decide)
     have e64:(2 ^ 64:Nat) = 18446744073709551616:=by decide
     exact ⟨by dsimp only; omega,by dsimp only; omega,by dsimp only; omega,by dsimp only; omega,fun e=>by dsimp only at e; omega⟩
 · exact ⟨by decide,by decide,by decide,by decide,fun _=>rfl⟩

set_option maxRecDepth 100000 in
set_option maxHeartbeats 2000000 in
theorem digit_calls {x y n:Int} (h:WIn x y) (hn:0 ≤ n) (hn':n ≤ 255) (w:World) :
 Calls Try.prog 108 #[.agg #[.int .u64 x,.int .u64 y],.int .u64 n] w fun e w'=>e = .returned (.int .u64 (wDig x n)) ∧ Below w.heap.size w w':=by
 have H:=hid ((Hd.refl w).boxk (o:=.cells #[.int .u64 x,.int .u64 y] 141 (0,0)) w.heap.size rfl)
 have hx0:=h.x0
 have hx1:=h.x1
 by_cases h1:x ≤ n
 · have d1:decide (x ≤ n) = true:=by simpa using h1
   have hq:Hid (wDig x n = 0):=hid (by unfold wDig; rw [if_pos (.inl h1)])
   clear h1 h
   go_enter Try.func108,Try.ntmps108
   go_wp2_with fail
   go_ret
   exact ⟨by rw [hq.out]; rfl,H.out.below⟩
 have d1:decide (x ≤ n) = false:=by simpa using h1
 have z1:IntKind.u64.wrap (x - 1) = x - 1:=IntWalk.u64_in _ (by omega)
 have z2:IntKind.u64.wrap (x - 1 - n) = x - 1 - n:=IntWalk.u64_in _ (by omega)
 by_cases h2:64 ≤ x - 1 - n
 · have d2:decide (64 ≤ x - 1 - n) = true:=by simpa using h2
   have hq:Hid (wDig x n = 0):=hid (by unfold wDig; rw [if_pos (.inr h2)])
   clear h1 h h2
   go_enter Try.func108,Try.ntmps108
   go_wp2_with fail
   go_ret
   exact ⟨by rw [hq.out]; rfl,H.out.below⟩
 have d2:decide (64 ≤ x - 1 - n) = false:=by simpa using h2
 have hq:Hid (wDig x n = ((2 ^ (x - 1 - n).toNat:Nat):Int)):=hid (by unfold wDig; rw [if_neg (by omega)])
 have z3:IntKind.u64.wrap (2 ^ (x - 1 - n).toNat:Int) = ((2 ^ (x - 1 - n).toNat:Nat):Int):=by
  have:=two_pow_lt (d:=(x - 1 - n).toNat) (by omega)
  rw [show ((2:Int) ^ (x - 1 - n).toNat) = ((2 ^ (x - 1 - n).toNat:Nat):Int) by simp]
  generalize (2 ^ (x - 1 - n).toNat:Nat) = K at *
  exact IntWalk.u64_in _ (by omega)
 have z4:min (x - 1 - n).toNat 64 = (x - 1 - n).toNat:=Nat.min_eq_left (by omega)
 have z5:¬ (x - 1 - n < 0):=by omega
 have z6:decide (x - 1 - n < 0) = false:=by simp; omega
 clear h1 h h2
 go_enter Try.func108,Try.ntmps108
 go_wp2_with fail
 go_ret
 exact ⟨by rw [hq.out]; rfl,H.out.below⟩

theorem eqW (x y:Int) (w:World):(binOp .eql 141 (.agg #[.int .u64 x,.int .u64 y]) (.agg #[.int .u64 0,.int .u64 0])).run Try.prog w = .ok (.bool (decide (x = 0 ∧ y = 0))) w:=by
 have q:(Op.equalIn 10000 141 (.agg #[.int .u64 x,.int .u64 y]) (.agg #[.int .u64 0,.int .u64 0])).run Try.prog w = .ok (decide (x = 0 ∧ y = 0)) w:=by
  go_simp
  by_cases h1:x = 0 <;> by_cases h2:y = 0 <;> simp [h1,h2]
 rw [run_eql_struct,q]
 rfl
theorem bits_and_dig {y:Int} {d:Nat} (y0:0 ≤ y) (y1:y < 18446744073709551616) (hd:d < 64):bits .and .u64 y ((2 ^ d:Nat):Int) = ((y.toNat &&& 2 ^ d:Nat):Int):=by
 have:=bits_and_u64_nat y.toNat (2 ^ d) (by omega) (two_pow_lt hd)
 rwa [show ((y.toNat:Nat):Int) = y by omega] at this
theorem bits_or_dig {y:Int} {d:Nat} (y0:0 ≤ y) (y1:y < 18446744073709551616) (hd:d < 18446744073709551616):bits .or .u64 y (d:Int) = ((y.toNat ||| d:Nat):Int):=by
 have:=bits_or_u64_nat y.toNat d (by omega) hd
 rwa [show ((y.toNat:Nat):Int) = y by omega] at this

set_option maxRecDepth 100000 in
set_option maxHeartbeats 4000000 in
theorem can14_calls {x y n:Int} (h:WIn x y) (hn:0 ≤ n) (hn':n ≤ 255) (w:World) :
 Calls Try.prog 107 #[.agg #[.int .u64 x,.int .u64 y],.int .u64 n] w fun e w'=>e = .returned (.bool (wCan x y n)) ∧ Below w.heap.size w w':=by
 have H:=hid ((Hd.refl w).boxk (o:=.cells #[.int .u64 x,.int .u64 y] 141 (0,0)) w.heap.size rfl)
 have hx0:=h.x0
 have hx1:=h.x1
 have HW:=hid h
 have dm:(n == 18446744073709551615) = false:=by simp; omega
 by_cases h0:x = 0
 · have eqw:∀ w:World,(binOp .eql 141 (.agg #[.int .u64 x,.int .u64 y]) (.agg #[.int .u64 0,.int .u64 0])).run Try.prog w = .ok (.bool true) w:=fun w=>by
    rw [eqW,decide_eq_true ⟨h0,h.z h0⟩]
   have hq:Hid (wCan x y n = true):=hid (by unfold wCan; rw [decide_eq_true (show x ≤ n by omega)]; rfl)
   clear h h0
   go_enter Try.func107,Try.ntmps107
   go_wp2_with fail
   go_ret
   exact ⟨by rw [hq.out]; rfl,H.out.below⟩
 have eqw:∀ w:World,(binOp .eql 141 (.agg #[.int .u64 x,.int .u64 y]) (.agg #[.int .u64 0,.int .u64 0])).run Try.prog w = .ok (.bool false) w:=fun w=>by
  rw [eqW,decide_eq_false (fun e=>h0 e.1)]
 by_cases h1:x ≤ n
 · have d1:decide (x ≤ n) = true:=by simpa using h1
   have hq:Hid (wCan x y n = true):=hid (by unfold wCan; rw [d1]; rfl)
   clear h h0 h1
   go_enter Try.func107,Try.ntmps107
   go_wp2_with fail
   go_ret
   exact ⟨by rw [hq.out]; rfl,H.out.below⟩
 have d1:decide (x ≤ n) = false:=by simpa using h1
 by_cases h2:64 ≤ x - 1 - n
 · have hq:Hid (wCan x y n = false):=hid (by unfold wCan; rw [d1,decide_eq_false (show ¬ x - 1 - n < 64 by omega)]; rfl)
   have hd:Hid (wDig x n = 0):=hid (by unfold wDig; rw [if_pos (.inr h2)])
   clear h h0 h1 h2
   go_enter Try.func107,Try.ntmps107
   go_wp2_with fail
   refine (digit_calls HW.out hn hn' _).mono ?_
   rw [hd.out]
   rintro e w1 ⟨rfl,h1⟩
   replace H:=hid (H.out.still h1)
   clear h1
   go_wp2_with fail
   go_ret
   exact ⟨by rw [hq.out]; rfl,H.out.below⟩
 obtain ⟨D,hD⟩:∃ D:Nat,(x - 1 - n).toNat = D:=⟨_,rfl⟩
 have hD64:D < 64:=by omega
 have hd:wDig x n = ((2 ^ D:Nat):Int):=by unfold wDig; rw [if_neg (by omega),hD]
 have hq:wCan x y n = !y.toNat.testBit D:=by unfold wCan; rw [d1,decide_eq_true (show x - 1 - n < 64 by omega),hD]; simp
 have ha:=bits_and_dig h.y0 h.y1 hD64
 have hz:=and_pow_eq_zero y.toNat D
 have hp:(2 ^ D:Nat) ≠ 0:=by have:=Nat.two_pow_pos D; omega
 obtain ⟨P,hP⟩:∃ P:Int,((2 ^ D:Nat):Int) = P:=⟨_,rfl⟩
 obtain ⟨A,hA⟩:∃ A:Int,((y.toNat &&& 2 ^ D:Nat):Int) = A:=⟨_,rfl⟩
 have e1:(P != 0) = true:=by rw [bne_iff_ne,← hP]; omega
 have e2:(A == 0) = !y.toNat.testBit D:=by
  rw [← hA,Bool.eq_iff_iff]
  simp only [beq_iff_eq,Bool.not_eq_true']
  rw [← hz]; omega
 rw [hP] at ha hd
 rw [hA] at ha
 obtain ⟨B,hB⟩:∃ B:Bool,(!y.toNat.testBit D) = B:=⟨_,rfl⟩
 rw [hB] at e2 hq
 have HQ:=hid hq
 have HDg:=hid hd
 clear h h0 h1 h2 hq hd hB hA hP hp hz hD
 go_enter Try.func107,Try.ntmps107
 go_wp2_with fail
 refine (digit_calls HW.out hn hn' _).mono ?_
 rw [HDg.out]
 rintro e w1 ⟨rfl,h1⟩
 replace H:=hid (H.out.still h1)
 clear h1
 have hk:=H.out.blk
 have c0:=(cell_of_heap hk 0).trans (show _ = some (.int .u64 x) from rfl)
 have c1:=(cell_of_heap hk 1).trans (show _ = some (.int .u64 y) from rfl)
 have cs:=(Array.getElem?_eq_some_iff.1 hk).1
 clear hk
 go_wp2_with fail
 go_ret
 exact ⟨by rw [HQ.out]; rfl,H.out.below⟩
end Go.Proofs.Ytpcfmafokkffgaa
namespace Go.Proofs.Ytpcfmafokkffgaa
open Go.RowKit

section
variable {P:Program} {Q:Exit → Act → World → Prop}

/-- What the rule asks of the region's text. -/
def relOps (ops:Array Oper) (need:List (List Nat)) (dsts:List Nat):Bool :=
 decide (dsts.length = ops.size) && decide dsts.Nodup &&
 (List.range ops.size).all fun i =>
  (match ops[i]? with
   | some o=>(o.dst == dsts[i]?) && (match o.guard with | none=>true | some (k,_)=>(need.getD i []).contains k) && (need.getD i []).all (fun d=>o.after.any fun e=>e.on == d && Region.binds .any e) && o.after.all (fun e=>!Region.binds .any e || decide (e.on < i))
   | none=>false)

structure RelAt (ops:Array Oper) (need:List (List Nat)) (dsts:List Nat) (i:Nat) (o:Oper):Prop where
 dst:o.dst = dsts[i]?
 guard:∀ k b,o.guard = some (k,b) → k ∈ need.getD i []
 need:∀ d ∈ need.getD i [],∃ e ∈ o.after,e.on = d ∧ Region.binds .any e = true
 after:∀ e ∈ o.after,Region.binds .any e = true → e.on < i

variable {ops:Array Oper} {need:List (List Nat)} {dsts:List Nat}

/-- Each operation of a list, with its number. -/
def StepAll (S:Nat → Oper → Prop):Nat → List Oper → Prop
 | _,[]=>True
 | k,o::l=>S k o ∧ StepAll S (k + 1) l
theorem StepAll.at {S:Nat → Oper → Prop}:∀ {l:List Oper} {k:Nat},StepAll S k l → ∀ {i:Nat} {o:Oper},l[i]? = some o → S (k + i) o
 | [],_,_,i,o,h=>by simp at h
 | x::l,k,h,0,o,ho=>by
  simp only [List.getElem?_cons_zero,Option.some.injEq] at ho
  subst ho
  exact h.1
 | x::l,k,h,i + 1,o,ho=>by
  have:=StepAll.at h.2 (i:=i) (o:=o) (by simpa using ho)
  rwa [show k + (i + 1) = k + 1 + i by omega]

theorem wpOp_wanted {i:Nat} {o:Oper} {K:Act → World → Prop} {a:Act} {w:World} (ho:ops[i]? = some o) (hg:Region.wanted o (yielded ops a.tmps) = true) (h:o.wp P a w K Q):wpOp P ops Q i K a w:=by
 unfold wpOp
 rw [ho]
 simp only [hg,if_true]
 exact .inl h

structure RelWay (ops:Array Oper) (dsts:List Nat) (V:Nat → Value → World → Prop) (w0:World) (a0:Act) (listed:Array Bool) (a:Act) (w:World):Prop where
 lsize:listed.size = ops.size
 size:a.tmps.size = a0.tmps.size
 defers:a.defers = a0.defers
 rest:∀ t:Nat,t ∉ dsts → a.eval (.tmp t) = a0.eval (.tmp t)
 has:∀ i d,listed.getD i false = true → dsts[i]? = some d → V i (a.eval (.tmp d)) w
 below:Below w0.heap.size w0 w

/-- One operation, by what is known of those that it waits for. -/
def RelStep (P:Program) (Q:Exit → Act → World → Prop) (need:List (List Nat)) (dsts:List Nat) (V:Nat → Value → World → Prop) (w0:World) (a0:Act) (i:Nat) (o:Oper):Prop :=
 ∀ (a:Act) (w:World),(∀ d ∈ need.getD i [],V d (a.eval (.tmp (dsts.getD d 0))) w) → (∀ t:Nat,t ∉ dsts → a.eval (.tmp t) = a0.eval (.tmp t)) → Below w0.heap.size w0 w →
  ∀ K:Act → World → Prop,(∀ v w',V i v w' → Below w.heap.size w w' → K (a.put o.dst v) w') → o.wp P a w K Q

theorem StepAll.cons {S:Nat → Oper → Prop} {k:Nat} {o:Oper} {l:List Oper} (h:S k o) (h2:StepAll S (k + 1) l):StepAll S k (o::l):=⟨h,h2⟩
section
variable {o:Oper} {a:Act} {w:World} {K:Act → World → Prop} {V:Value → World → Prop}
end
end
end Go.Proofs.Ytpcfmafokkffgaa
namespace Go.Proofs.Ytpcfmafokkffgaa
open Go.RowKit

/-- What an operation has made: an address and a number. -/
abbrev Gh:=Option Addr × Nat
def updG (g:Nat → Gh) (i:Nat) (x:Gh):Nat → Gh:=fun j=>if j = i then x else g j

section
variable {P:Program} {Q:Exit → Act → World → Prop} {ops:Array Oper} {need uses:List (List Nat)} {dsts fill:List (Option Nat)}

/-- What the rule asks of the region's text. -/
def holdOps (ops:Array Oper) (need uses:List (List Nat)) (dsts fill:List (Option Nat)):Bool :=
 (List.range ops.size).all fun i =>
  (match ops[i]? with
   | some o=>(o.dst == dsts.getD i none) && (match o.guard with | none=>true | some (k,_)=>(need.getD i []).contains k && (dsts.getD k none).isSome) && (need.getD i []).all (fun d=>decide (d < i) && o.after.any fun e=>e.on == d && Region.binds .any e) && o.after.all (fun e=>!Region.binds .any e || decide (e.on < i))
   | none=>false) &&
  (uses.getD i []).all (fun k=>k == i || (need.getD i []).any fun d=>(uses.getD d []).contains k) &&
  (match fill.getD i none with
   | none=>true
   | some s=>(need.getD s []).contains i && (fill.getD s none == none) && (dsts.getD s none == none) && decide (s < ops.size) && (List.range ops.size).all fun j=>j == i || fill.getD j none != some s) &&
  (List.range ops.size).all fun j=>i == j || dsts.getD i none != dsts.getD j none || dsts.getD i none == none

structure HoldAt (ops:Array Oper) (need uses:List (List Nat)) (dsts fill:List (Option Nat)) (i:Nat) (o:Oper):Prop where
 hdst:o.dst = dsts.getD i none
 hguard:∀ k b,o.guard = some (k,b) → k ∈ need.getD i [] ∧ dsts.getD k none ≠ none
 hneed:∀ d ∈ need.getD i [],d < i ∧ ∃ e ∈ o.after,e.on = d ∧ Region.binds .any e = true
 hafter:∀ e ∈ o.after,Region.binds .any e = true → e.on < i
 huses:∀ k ∈ uses.getD i [],k = i ∨ ∃ d ∈ need.getD i [],k ∈ uses.getD d []
 hfill:∀ s,fill.getD i none = some s → i ∈ need.getD s [] ∧ fill.getD s none = none ∧ dsts.getD s none = none ∧ s < ops.size ∧ ∀ j,j < ops.size → fill.getD j none = some s → j = i
 hapart:∀ j < ops.size,∀ t,dsts.getD i none = some t → dsts.getD j none = some t → i = j

/-- What an operation's value is, of what those that it uses have made. -/
def valOf (uses:List (List Nat)) (vals:List (List Gh → Value)) (g:Nat → Gh) (i:Nat):Value:=(vals.getD i fun _=>undef) ((uses.getD i []).map g)
/-- What an operation has laid, and what has been filled in. -/
def resOf (uses:List (List Nat)) (fill:List (Option Nat)) (R R2:List (List Gh → List Res)) (listed:Nat → Bool) (g:Nat → Gh) (i:Nat):List Res :=
 bif listed i then
  (match fill.getD i none with
   | some s=>bif listed s then (R2.getD i fun _=>[]) ((uses.getD s []).map g) else (R.getD i fun _=>[]) ((uses.getD i []).map g)
   | none=>(R.getD i fun _=>[]) ((uses.getD i []).map g))
 else []

theorem flat_change {F F':Nat → List Res} {i:Nat} (h:∀ j,j ≠ i → F j = F' j):∀ {l:List Nat},l.Nodup → i ∈ l → ∃ Ys,(l.flatMap F).Perm (F i ++ Ys) ∧ (l.flatMap F').Perm (F' i ++ Ys)
 | [],_,hm=>by cases hm
 | x::l,hn,hm=>by
  have hx:=(List.nodup_cons.1 hn).1
  by_cases e:x = i
  · subst e
    refine ⟨l.flatMap F,by rw [List.flatMap_cons],?_⟩
    rw [List.flatMap_cons]
    have:l.flatMap F' = l.flatMap F:=by
     have key:∀ l:List Nat,x ∉ l → l.flatMap F' = l.flatMap F:=by
      intro l
      induction l with
      | nil=>intro _; rfl
      | cons y l ih =>
       intro hy
       rw [List.flatMap_cons,List.flatMap_cons,ih (fun h=>hy (by simp [h])),h y (fun e=>hy (by simp [e]))]
     exact key l hx
    rw [this]
  · obtain ⟨Ys,h1,h2⟩:=flat_change h (List.nodup_cons.1 hn).2 ((List.mem_cons.1 hm).resolve_left fun e2=>e e2.symm)
    have sw:∀ (A B C:List Res),(A ++ (B ++ C)).Perm (B ++ (A ++ C)):=fun A B C=>by
     rw [← List.append_assoc,← List.append_assoc]
     exact List.perm_append_comm.append_right _
    refine ⟨F x ++ Ys,?_,?_⟩
    · rw [List.flatMap_cons]
      exact (List.Perm.append_left _ h1).trans (sw _ _ _)
    · rw [List.flatMap_cons,← h x e]
      exact (List.Perm.append_left _ h2).trans (sw _ _ _)

structure HoldWay (ops:Array Oper) (need uses:List (List Nat)) (dsts fill:List (Option Nat)) (vals:List (List Gh → Value)) (R R2:List (List Gh → List Res)) (W:World) (Rs:List Res) (a0:Act) (listed:Array Bool) (a:Act) (w:World) (g:Nat → Gh):Prop where
 lsize:listed.size = ops.size
 size:a.tmps.size = a0.tmps.size
 defers:a.defers = a0.defers
 rest:∀ t:Nat,some t ∉ dsts → a.eval (.tmp t) = a0.eval (.tmp t)
 has:∀ i d,listed.getD i false = true → dsts.getD i none = some d → a.eval (.tmp d) = valOf uses vals g i
 closed:∀ i,listed.getD i false = true → ∀ k ∈ uses.getD i [],listed.getD k false = true
 nclosed:∀ i,listed.getD i false = true → ∀ k ∈ need.getD i [],listed.getD k false = true
 hd:Hd W w ((List.range ops.size).flatMap (resOf uses fill R R2 (fun i=>listed.getD i false) g) ++ Rs)

/-- One operation. -/
def HoldStep (P:Program) (Q:Exit → Act → World → Prop) (need uses:List (List Nat)) (dsts fill:List (Option Nat)) (vals:List (List Gh → Value)) (R R2:List (List Gh → List Res)) (W:World) (Rs:List Res) (a0:Act) (i:Nat) (o:Oper):Prop :=
 ∀ (a:Act) (w:World) (g:Nat → Gh),(∀ d ∈ need.getD i [],∀ s,dsts.getD d none = some s → a.eval (.tmp s) = valOf uses vals g d) → (∀ t:Nat,some t ∉ dsts → a.eval (.tmp t) = a0.eval (.tmp t)) →
  match fill.findIdx? (· == some i) with
  | none=>∀ (Ss:List Res),Hd W w (Ss ++ Rs) → ∀ K:Act → World → Prop,(∀ x v w',(o.dst ≠ none → v = valOf uses vals (updG g i x) i) → Hd W w' ((R.getD i fun _=>[]) ((uses.getD i []).map (updG g i x)) ++ (Ss ++ Rs)) → K (a.put o.dst v) w') → o.wp P a w K Q
  | some b=>∀ (Ss:List Res),Hd W w ((R.getD b fun _=>[]) ((uses.getD b []).map g) ++ Ss) → ∀ K:Act → World → Prop,(∀ v w',Hd W w' ((R2.getD b fun _=>[]) ((uses.getD i []).map g) ++ Ss) → K (a.put o.dst v) w') → o.wp P a w K Q

section
variable {vals:List (List Gh → Value)} {R:List (List Gh → List Res)} {W:World} {Rs Ss:List Res} {a:Act} {w:World} {g:Nat → Gh} {i:Nat} {o:Oper} {K:Act → World → Prop}
theorem hold_run {v:Value} (h:(execOp a.eval o).run P w = .ok (.value v) w) (hv:v = valOf uses vals (updG g i default) i) (hR:(R.getD i fun _=>[]) ((uses.getD i []).map (updG g i default)) = []) (hH:Hd W w (Ss ++ Rs))
 (hK:∀ x v w',(o.dst ≠ none → v = valOf uses vals (updG g i x) i) → Hd W w' ((R.getD i fun _=>[]) ((uses.getD i []).map (updG g i x)) ++ (Ss ++ Rs)) → K (a.put o.dst v) w'):o.wp P a w K Q:=by
 unfold Oper.wp; rw [h]
 exact hK default v w (fun _=>hv) (by rw [hR]; exact hH)
theorem hold_new {obj:Obj} {v:Value} (h:(execOp a.eval o).run P w = .ok (.value v) (w.alloc obj)) (hv:v = valOf uses vals (updG g i (none,w.heap.size)) i) (hR:(R.getD i fun _=>[]) ((uses.getD i []).map (updG g i (none,w.heap.size))) = [Blk w.heap.size obj]) (hH:Hd W w (Ss ++ Rs))
 (hK:∀ x v w',(o.dst ≠ none → v = valOf uses vals (updG g i x) i) → Hd W w' ((R.getD i fun _=>[]) ((uses.getD i []).map (updG g i x)) ++ (Ss ++ Rs)) → K (a.put o.dst v) w'):o.wp P a w K Q:=by
 unfold Oper.wp; rw [h]
 exact hK (none,w.heap.size) v _ (fun _=>hv) (by rw [hR]; exact hH.box obj)
theorem hold_call {f:FuncId} {args:Array Value} (h:(execOp a.eval o).run P w = .ok (.enter f args) w)
 (hc:Calls P f args w fun e w2=>∃ x:Gh,e = .returned (valOf uses vals (updG g i x) i) ∧ ∀ Xs,Hd W w Xs → Hd W w2 ((R.getD i fun _=>[]) ((uses.getD i []).map (updG g i x)) ++ Xs)) (hH:Hd W w (Ss ++ Rs))
 (hK:∀ x v w',(o.dst ≠ none → v = valOf uses vals (updG g i x) i) → Hd W w' ((R.getD i fun _=>[]) ((uses.getD i []).map (updG g i x)) ++ (Ss ++ Rs)) → K (a.put o.dst v) w'):o.wp P a w K Q:=by
 unfold Oper.wp; rw [h]
 refine Calls.mono hc fun e w2 he=>?_
 obtain ⟨x,rfl,h2⟩:=he
 exact hK x _ _ (fun _=>rfl) (h2 _ hH)
end

theorem Hd.rear {W w:World}:∀ {Ss Rs:List Res},Hd W w (Ss ++ Rs) → Hd W w Rs
 | [],_,h=>h
 | _::_,_,h=>Hd.rear h.drop

theorem hold_lt {n:Nat} (h:dsts.all (fun d=>match d with | none=>true | some t=>decide (t < n)) = true) {m:Nat} (hm:m = n:=by rfl):∀ d,some d ∈ dsts → d < m:=fun d hd=>by
 have:=List.all_eq_true.1 h _ hd
 subst hm
 simpa using this
theorem hold_nil {R:List (List Gh → List Res)} {fs:List Nat} (_h:True) (hf:fill.filterMap id = fs) (h:∀ s gs,s ∈ fs → (R.getD s fun _=>[]) gs = []):∀ s b,fill.getD b none = some s → ∀ gs,(R.getD s fun _=>[]) gs = []:=fun s b hb gs=>by
 refine h s gs ?_
 rw [← hf,List.mem_filterMap]
 rw [List.getD_eq_getElem?_getD] at hb
 cases he:fill[b]? with
 | none=>rw [he] at hb; cases hb
 | some y=>rw [he] at hb; exact ⟨y,List.mem_of_getElem? he,hb⟩
theorem map_upd {g:Nat → Gh} {i:Nat} {x:Gh} {l:List Nat} (h:i ∉ l):l.map g = l.map (updG g i x):=by
 refine List.map_congr_left fun k hk=>?_
 have:k ≠ i:=fun e=>h (e ▸ hk)
 simp [updG,this]

end
end Go.Proofs.Ytpcfmafokkffgaa
namespace Go.Proofs.Ytpcfmafokkffgaa
open Go.RowKit

/-- A slice value that owns its row: n elements of the type e, of so many cells each. -/
def RowR (e:TypeId) (size:Nat) (v:Value) (n:Nat) (xs:List Value):Res:=fun f=>xs.length = n * size ∧
 ((v = .slice none 0 0 ∧ n = 0 ∧ f = fun _=>none) ∨
  ∃ g cap cur,v = .slice (some ⟨g,0,none⟩) n cap ∧ n ≤ cap ∧ cap ≤ maxLen ∧ cur.size = cap * size ∧ cur.toList.take (n * size) = xs ∧ f = fun j=>if j = g then some (.cells cur e (0,0)) else none)

def nums (k:IntKind) (xs:List Int):List Value:=xs.map (.int k)

section
variable {W w X w':World} {e:TypeId} {size n n':Nat} {v:Value} {xs ys:List Value} {Rs:List Res}

theorem rowR_owns {f:Frag} (h:RowR e size v n xs f) (hf:FragIn f w):w.ownsRow 0 e size v n xs:=by
 obtain ⟨hl,⟨rfl,rfl,rfl⟩ | ⟨g,cap,cur,rfl,h1,h2,h3,h4,rfl⟩⟩:=h
 · exact ⟨hl,.inl ⟨rfl,rfl⟩⟩
 · exact ⟨hl,.inr ⟨g,cap,cur,rfl,Nat.zero_le _,hf g _ (by simp),h1,h2,h3,h4⟩⟩

theorem Hd.owns (h:Hd W w (RowR e size v n xs::Rs)):w.ownsRow 0 e size v n xs:=by
 obtain ⟨f,hR,hf,_⟩:=h.open
 exact rowR_owns hR hf

/-- After an append. -/
theorem Hd.grown (h:Hd W w (RowR e size v n xs::Rs)) {g cap:Nat} (ho:w'.ownsRow 0 e size (.slice (some ⟨g,0,none⟩) n' cap) n' ys) (hg:w.grownBy w' v.ownBlock) (hgg:v.ownBlock = some g ∨ g = w.heap.size):Hd W w' (RowR e size (.slice (some ⟨g,0,none⟩) n' cap) n' ys::Rs):=by
 obtain ⟨f,hR,hf,hlt,hshut⟩:=h.open
 obtain ⟨hl,⟨h1,_⟩ | ⟨g2,c2,cur,hv,_,hc,h3,h4,h5,h6⟩⟩:=ho
 · cases h1
 simp only [Value.slice.injEq,Option.some.injEq,Addr.mk.injEq,and_true] at hv
 obtain ⟨rfl,_,rfl⟩:=hv
 refine hshut w' _ (fun j=>if j = g then some (.cells cur e (0,0)) else none) ⟨hl,.inr ⟨g,cap,cur,rfl,h3,h4,h5,h6,rfl⟩⟩ (fun k o hk=>?_) (fun k hk=>?_) hg.os hg.tape hg.output hg.size (fun k hk hk2=>?_)
 · dsimp only at hk
   split at hk
   · rename_i e1; subst e1; rw [hc]; exact hk
   · cases hk
 · split at hk
   · rename_i e1; subst e1
     obtain ⟨_,⟨rfl,rfl,rfl⟩ | ⟨g3,c3,cur3,rfl,_,_,_,_,rfl⟩⟩:=hR
     · rcases hgg with h | h
       · cases h
       · exact .inr (by omega)
     · rcases hgg with h | h
       · simp only [Value.ownBlock,Option.some.injEq] at h; subst h; exact .inl (by simp)
       · exact .inr (by omega)
   · exact absurd rfl hk
 · refine hg.block k hk fun e1=>?_
   obtain ⟨_,⟨rfl,rfl,rfl⟩ | ⟨g3,c3,cur3,rfl,_,_,_,_,rfl⟩⟩:=hR
   · cases e1
   · simp only [Value.ownBlock,Option.some.injEq] at e1; subst e1; simp at hk2

/-- A cell of it. -/
theorem Hd.row_cell (h:Hd W w (RowR e size v n xs::Rs)) {j:Nat} {u:Value} (hj:xs[j]? = some u):∃ g cap,v = .slice (some ⟨g,0,none⟩) n cap ∧ w.cell? ⟨g,j,none⟩ = some u:=by
 obtain ⟨hl,⟨rfl,rfl⟩ | ⟨g,cap,cur,rfl,_,hc,h3,h4,h5,h6⟩⟩:=h.owns
 · have:=(List.getElem?_eq_some_iff.1 hj).1
   omega
 · refine ⟨g,cap,rfl,?_⟩
   rw [cell_of_heap hc,← Array.getElem?_toList]
   exact get_of_take h6 hj
theorem Hd.row_form (h:Hd W w (RowR e size v n xs::Rs)):∃ a cap,v = .slice a n cap:=by
 obtain ⟨hl,⟨rfl,rfl⟩ | ⟨g,cap,cur,rfl,_,hc,h3,h4,h5,h6⟩⟩:=h.owns
 · exact ⟨_,_,rfl⟩
 · exact ⟨_,_,rfl⟩

/-- A new empty one. -/
theorem Hd.row_new {E:TypeId} (h:Hd W w Rs):Hd W (w.alloc (.cells #[] E (0,0))) (RowR E 1 (.slice (some ⟨w.heap.size,0,none⟩) 0 0) 0 []::Rs):=by
 refine h.add ((Below.refl _ _).alloc (Nat.le_refl _) _) (fun j=>if j = w.heap.size then some (.cells #[] E (0,0)) else none) ⟨rfl,.inr ⟨w.heap.size,0,#[],rfl,Nat.le_refl _,Nat.zero_le _,rfl,rfl,rfl⟩⟩ (fun k o hk=>?_) (fun k hk=>?_)
 · dsimp only at hk
   split at hk
   · rename_i e1; subst e1; rw [heap_at rfl]; exact hk
   · cases hk
 · split at hk
   · omega
   · exact absurd rfl hk

theorem nums_get {k:IntKind} {zs:List Int} {j:Nat} (hj:j < zs.length):(nums k zs)[j]? = some (.int k (zs.getD j 0)):=by
 simp [nums,List.getElem?_eq_getElem hj,List.getD]

/-- APPEND ONE NUMBER, at the list of a plain region's operations. -/
theorem append_num {ops:Array Oper} {rest:List Oper} {o:Oper} {a:Act} {Q:Exit → Act → World → Prop} {k:IntKind} {T E bytes:Nat} {i:TypeInfo} {zs:List Int} (ht:Try.prog.underlying T = some (.slice E)) (hi:Try.prog.info? E = some i) (hz:i.zero = some (.int k 0)) (hsize:i.size = 1) (hby:i.bytes = bytes) (hb8:bytes ≤ 8)
 (hgd:o.guard = none) (s x:Operand) (ho:o.op = .call { callee:=.builtin .append,args:=#[s,x],argTypes:=#[T,T] }) (h:Hd W w (RowR E 1 v n (nums k zs)::Rs)) (hs:a.eval s = v) (d:Int) (hx:a.eval x = .slice (some ⟨w.heap.size,0,none⟩) 1 1) (hn:n ≤ 1048577)
 (hK:∀ g cap w',Hd W w' (RowR E 1 (.slice (some ⟨g,0,none⟩) (n + 1) cap) (n + 1) (nums k (zs ++ [d]))::Rs) → wpList Try.prog ops Q rest (a.put o.dst (.slice (some ⟨g,0,none⟩) (n + 1) cap)) w') :
 wpList Try.prog ops Q (o::rest) a (w.alloc (.cells #[.int k d] E (0,0))):=by
 have hd:=h.al (o:=.cells #[.int k d] E (0,0))
 refine wpList_append_lies _ hgd s x T ho 0 E i (.int k 0) 1 bytes ht hi hz hsize hby rfl (by decide) v n _ hs hd.owns ⟨w.heap.size,0,none⟩ 1 1 [.int k d] hx rfl (World.news_of_block (heap_alloc_new _ _)) (by simp [Value.oneCell']) (by decide) (by simp only [maxLen]; omega) ?_ (Nat.zero_le _) _ rfl ?_
 · have:(n + 1) * bytes ≤ (n + 1) * 8:=Nat.mul_le_mul_left _ hb8
   omega
 · intro g cap w' ho' hg hgg _
   refine hK g cap w' ?_
   have:=hd.grown ho' hg hgg
   rw [show nums k (zs ++ [d]) = nums k zs ++ [.int k d] by simp [nums]]
   exact this
end

end Go.Proofs.Ytpcfmafokkffgaa
namespace Go.Proofs.Ytpcfmafokkffgaa
open Go.RowKit

section
variable {P:Program} {Q:Exit → Act → World → Prop} {ops:Array Oper} {need uses:List (List Nat)} {dsts fill:List (Option Nat)}

/-- What the rule asks of the region's text. -/
def holdOpsB (ops:Array Oper) (need uses:List (List Nat)) (dsts fill:List (Option Nat)):Bool :=
 (List.range ops.size).all (fun i =>
  (match ops[i]? with
   | some o=>(o.dst == dsts.getD i none) && (match o.guard with | none=>true | some (k,_)=>(need.getD i []).contains k && (dsts.getD k none).isSome) && (need.getD i []).all (fun d=>decide (d < i) && o.after.any fun e=>e.on == d && Region.binds .any e) && o.after.all (fun e=>!Region.binds .any e || decide (e.on < i))
   | none=>false) &&
  (uses.getD i []).all (fun k=>k == i || (need.getD i []).any fun d=>(uses.getD d []).contains k) &&
  (List.range ops.size).all fun j=>i == j || dsts.getD i none != dsts.getD j none || dsts.getD i none == none) &&
 (List.range fill.length).all (fun b =>
  match fill.getD b none with
   | none=>true
   | some s=>(decide (ops.size ≤ b) || (need.getD s []).contains b) && (fill.getD s none == none) && decide (s < ops.size) && (List.range fill.length).all fun j=>j == b || fill.getD j none != some s)

structure HoldAtB (ops:Array Oper) (need uses:List (List Nat)) (dsts:List (Option Nat)) (i:Nat) (o:Oper):Prop where
 hdst:o.dst = dsts.getD i none
 hguard:∀ k b,o.guard = some (k,b) → k ∈ need.getD i [] ∧ dsts.getD k none ≠ none
 hneed:∀ d ∈ need.getD i [],d < i ∧ ∃ e ∈ o.after,e.on = d ∧ Region.binds .any e = true
 hafter:∀ e ∈ o.after,Region.binds .any e = true → e.on < i
 huses:∀ k ∈ uses.getD i [],k = i ∨ ∃ d ∈ need.getD i [],k ∈ uses.getD d []
 hapart:∀ j < ops.size,∀ t,dsts.getD i none = some t → dsts.getD j none = some t → i = j

theorem hold_fillB (h:holdOpsB ops need uses dsts fill = true) {b s:Nat} (hs:fill.getD b none = some s):b < fill.length ∧ (ops.size ≤ b ∨ b ∈ need.getD s []) ∧ fill.getD s none = none ∧ s < ops.size ∧ ∀ j,fill.getD j none = some s → j = b:=by
 have lt:∀ {b s:Nat},fill.getD b none = some s → b < fill.length:=fun {b s} hb=>by
  rcases Nat.lt_or_ge b fill.length with h2 | h2
  · exact h2
  · rw [List.getD_eq_getElem?_getD,List.getElem?_eq_none h2] at hb; cases hb
 unfold holdOpsB at h
 rw [Bool.and_eq_true] at h
 have h3:=List.all_eq_true.1 h.2 b (List.mem_range.2 (lt hs))
 rw [hs] at h3
 simp only [Bool.and_eq_true,decide_eq_true_eq,List.contains_iff_mem,beq_iff_eq,List.all_eq_true,List.mem_range,Bool.or_eq_true,bne_iff_ne] at h3
 obtain ⟨⟨⟨k1,k2⟩,k4⟩,k5⟩:=h3
 exact ⟨lt hs,k1,k2,k4,fun j hj=>(k5 j (lt hj)).resolve_right fun hne=>hne hj⟩
theorem hold_atB (h:holdOpsB ops need uses dsts fill = true) {i:Nat} {o:Oper} (ho:ops[i]? = some o):HoldAtB ops need uses dsts i o:=by
 have hlt:i < ops.size:=(Array.getElem?_eq_some_iff.1 ho).1
 unfold holdOpsB at h
 rw [Bool.and_eq_true] at h
 have hi:=List.all_eq_true.1 h.1 i (List.mem_range.2 hlt)
 rw [ho] at hi
 rw [Bool.and_eq_true,Bool.and_eq_true] at hi
 obtain ⟨⟨h1,h2⟩,h4⟩:=hi
 simp only [Bool.and_eq_true,decide_eq_true_eq,List.all_eq_true,Array.all_eq_true',Array.any_eq_true',beq_iff_eq,Bool.or_eq_true,Bool.not_eq_true'] at h1
 obtain ⟨⟨⟨g1,g2⟩,g3⟩,g4⟩:=h1
 refine ⟨g1,fun k b hg=>?_,fun d hd=>?_,fun e he hb=>?_,fun k hk=>?_,fun j hj t e1 e2=>?_⟩
 · rw [hg] at g2
   simp only [Bool.and_eq_true,List.contains_iff_mem] at g2
   exact ⟨g2.1,fun e=>by rw [e] at g2; cases g2.2⟩
 · obtain ⟨g5,e,he,h7,h8⟩:=g3 d hd
   exact ⟨g5,e,he,h7,h8⟩
 · rcases g4 e he with h7 | h7
   · rw [hb] at h7; cases h7
   · exact h7
 · have:=List.all_eq_true.1 h2 k hk
   simp only [Bool.or_eq_true,beq_iff_eq,List.any_eq_true,List.contains_iff_mem] at this
   rcases this with h | ⟨d,hd,h⟩
   · exact .inl h
   · exact .inr ⟨d,hd,h⟩
 · simp only [List.all_eq_true,List.mem_range,Bool.or_eq_true,beq_iff_eq,bne_iff_ne] at h4
   rcases h4 j hj with (h9 | h9) | h9
   · exact h9
   · exact absurd (e1.trans e2.symm) h9
   · rw [h9] at e1; cases e1

/-- What has come up, and what was held ahead. -/
def lstB (n:Nat) (listed:Array Bool) (i:Nat):Bool:=listed.getD i false || decide (n ≤ i)

theorem hold_readyB (h:holdOpsB ops need uses dsts fill = true) {listed:Array Bool} {i:Nat} (hi:i ∈ Region.ready .any ops listed) {d:Nat} (hd:d ∈ need.getD i []):listed.getD d false = true:=by
 obtain ⟨_,o,ho,hall⟩:=mem_ready.1 hi
 obtain ⟨_,e,he,rfl,hb⟩:=(hold_atB h ho).hneed d hd
 exact hall e he hb

theorem hold_allB (h:holdOpsB ops need uses dsts fill = true) {listed:Array Bool} (hs:listed.size = ops.size) (hr:Region.ready .any ops listed = []):∀ i,i < ops.size → listed.getD i false = true:=by
 intro i
 induction i using Nat.strongRecOn with
 | _ i ih =>
  intro hi
  refine Classical.byContradiction fun hne=>?_
  have h1:listed.getD i true = false:=by
   have hlt:i < listed.size:=by omega
   simp only [Array.getD_eq_getD_getElem?,Array.getElem?_eq_getElem hlt,Option.getD_some] at hne ⊢
   simpa using hne
  have hmem:i ∈ Region.ready .any ops listed:=mem_ready.2 ⟨h1,ops[i],Array.getElem?_eq_getElem hi,fun e he hb=>by
   have:=(hold_atB h (Array.getElem?_eq_getElem hi)).hafter e he hb
   exact ih e.on this (by omega)⟩
  rw [hr] at hmem
  cases hmem

structure HoldWayB (ops:Array Oper) (need uses:List (List Nat)) (dsts fill:List (Option Nat)) (vals:List (List Gh → Value)) (R R2:List (List Gh → List Res)) (W:World) (Rs:List Res) (a0:Act) (listed:Array Bool) (a:Act) (w:World) (g:Nat → Gh):Prop where
 lsize:listed.size = ops.size
 size:a.tmps.size = a0.tmps.size
 defers:a.defers = a0.defers
 rest:∀ t:Nat,some t ∉ dsts → a.eval (.tmp t) = a0.eval (.tmp t)
 has:∀ i d,listed.getD i false = true → dsts.getD i none = some d → a.eval (.tmp d) = valOf uses vals g i
 closed:∀ i,listed.getD i false = true → ∀ k ∈ uses.getD i [],listed.getD k false = true
 nclosed:∀ i,listed.getD i false = true → ∀ k ∈ need.getD i [],listed.getD k false = true
 hd:Hd W w ((List.range fill.length).flatMap (resOf uses fill R R2 (lstB ops.size listed) g) ++ Rs)

/-- One operation. -/
def HoldStepB (P:Program) (Q:Exit → Act → World → Prop) (need uses:List (List Nat)) (dsts fill:List (Option Nat)) (vals:List (List Gh → Value)) (R R2:List (List Gh → List Res)) (W:World) (Rs:List Res) (a0:Act) (i:Nat) (o:Oper):Prop :=
 ∀ (a:Act) (w:World) (g:Nat → Gh),(∀ d ∈ need.getD i [],∀ s,dsts.getD d none = some s → a.eval (.tmp s) = valOf uses vals g d) → (∀ t:Nat,some t ∉ dsts → a.eval (.tmp t) = a0.eval (.tmp t)) → (∀ d ∈ need.getD i [],fill.getD d none = none → ∃ Ys,Hd W w ((R.getD d fun _=>[]) ((uses.getD d []).map g) ++ Ys)) → (∀ b s,fill.getD b none = some s → uses.length ≤ b → i ∈ need.getD s [] → ∃ Ys,Hd W w ((R.getD b fun _=>[]) ((uses.getD b []).map g) ++ Ys)) →
  match fill.findIdx? (· == some i) with
  | none=>∀ (Ss:List Res),Hd W w (Ss ++ Rs) → ∀ K:Act → World → Prop,(∀ x v w',(o.dst ≠ none → v = valOf uses vals (updG g i x) i) → Hd W w' ((R.getD i fun _=>[]) ((uses.getD i []).map (updG g i x)) ++ (Ss ++ Rs)) → K (a.put o.dst v) w') → o.wp P a w K Q
  | some b=>∀ (Ss:List Res),Hd W w ((R.getD b fun _=>[]) ((uses.getD b []).map g) ++ (Ss ++ Rs)) → ∀ K:Act → World → Prop,(∀ x v w',(o.dst ≠ none → v = valOf uses vals (updG g i x) i) → Hd W w' ((R2.getD b fun _=>[]) ((uses.getD i []).map (updG g i x)) ++ (Ss ++ Rs)) → K (a.put o.dst v) w') → o.wp P a w K Q

theorem HoldStepB.val {vals:List (List Gh → Value)} {R R2:List (List Gh → List Res)} {W:World} {Rs:List Res} {a0:Act} {i:Nat} {o:Oper} (hf:fill.findIdx? (· == some i) = none)
 (h:∀ (a:Act) (w:World) (g:Nat → Gh),(∀ d ∈ need.getD i [],∀ s,dsts.getD d none = some s → a.eval (.tmp s) = valOf uses vals g d) → (∀ t:Nat,some t ∉ dsts → a.eval (.tmp t) = a0.eval (.tmp t)) → (∀ d ∈ need.getD i [],fill.getD d none = none → ∃ Ys,Hd W w ((R.getD d fun _=>[]) ((uses.getD d []).map g) ++ Ys)) → (∀ b s,fill.getD b none = some s → uses.length ≤ b → i ∈ need.getD s [] → ∃ Ys,Hd W w ((R.getD b fun _=>[]) ((uses.getD b []).map g) ++ Ys)) →
  ∀ (Ss:List Res),Hd W w (Ss ++ Rs) → ∀ K:Act → World → Prop,(∀ x v w',(o.dst ≠ none → v = valOf uses vals (updG g i x) i) → Hd W w' ((R.getD i fun _=>[]) ((uses.getD i []).map (updG g i x)) ++ (Ss ++ Rs)) → K (a.put o.dst v) w') → o.wp P a w K Q) :
 HoldStepB P Q need uses dsts fill vals R R2 W Rs a0 i o:=by
 intro a w g h1 h2 h3 h4
 rw [hf]
 exact h a w g h1 h2 h3 h4
theorem HoldStepB.fil {vals:List (List Gh → Value)} {R R2:List (List Gh → List Res)} {W:World} {Rs:List Res} {a0:Act} {i:Nat} {o:Oper} (b:Nat) (hf:fill.findIdx? (· == some i) = some b)
 (h:∀ (a:Act) (w:World) (g:Nat → Gh),(∀ d ∈ need.getD i [],∀ s,dsts.getD d none = some s → a.eval (.tmp s) = valOf uses vals g d) → (∀ t:Nat,some t ∉ dsts → a.eval (.tmp t) = a0.eval (.tmp t)) → (∀ d ∈ need.getD i [],fill.getD d none = none → ∃ Ys,Hd W w ((R.getD d fun _=>[]) ((uses.getD d []).map g) ++ Ys)) → (∀ b s,fill.getD b none = some s → uses.length ≤ b → i ∈ need.getD s [] → ∃ Ys,Hd W w ((R.getD b fun _=>[]) ((uses.getD b []).map g) ++ Ys)) →
  ∀ (Ss:List Res),Hd W w ((R.getD b fun _=>[]) ((uses.getD b []).map g) ++ (Ss ++ Rs)) → ∀ K:Act → World → Prop,(∀ x v w',(o.dst ≠ none → v = valOf uses vals (updG g i x) i) → Hd W w' ((R2.getD b fun _=>[]) ((uses.getD i []).map (updG g i x)) ++ (Ss ++ Rs)) → K (a.put o.dst v) w') → o.wp P a w K Q) :
 HoldStepB P Q need uses dsts fill vals R R2 W Rs a0 i o:=by
 intro a w g h1 h2 h3 h4
 rw [hf]
 exact h a w g h1 h2 h3 h4

theorem hold_filB {b:Nat} {vals:List (List Gh → Value)} {R2:List (List Gh → List Res)} {W:World} {Ss Rs:List Res} {a:Act} {w w':World} {g:Nat → Gh} {i:Nat} {o:Oper} {K:Act → World → Prop} (h:(execOp a.eval o).run P w = .ok .skip w') (hd:o.dst = none) (hR:(uses.getD i []).map (updG g i default) = (uses.getD i []).map g) (hH:Hd W w' ((R2.getD b fun _=>[]) ((uses.getD i []).map g) ++ (Ss ++ Rs)))
 (hK:∀ x v w',(o.dst ≠ none → v = valOf uses vals (updG g i x) i) → Hd W w' ((R2.getD b fun _=>[]) ((uses.getD i []).map (updG g i x)) ++ (Ss ++ Rs)) → K (a.put o.dst v) w'):o.wp P a w K Q:=by
 unfold Oper.wp; rw [h]
 exact hK default undef w' (fun hn=>absurd hd hn) (by rw [hR]; exact hH)

/-- THE RULE. -/
theorem hold_coreB {C:Prop} {l:List Oper} {a0:Act} {w0 W:World} {Rs:List Res} (need uses:List (List Nat)) (dsts fill:List (Option Nat)) (vals:List (List Gh → Value)) (R R2:List (List Gh → List Res))
 (hc:holdOpsB l.toArray need uses dsts fill = true) (hld:dsts.length = l.length) (hsz:∀ d,some d ∈ dsts → d < a0.tmps.size) (h0:Hd W w0 ((List.range fill.length).flatMap (resOf uses fill R R2 (fun i=>decide (l.length ≤ i)) fun _=>default) ++ Rs))
 (hul:uses.length = l.length) (hlf:l.length ≤ fill.length) (hnil:∀ s b,fill.getD b none = some s → ∀ gs,(R.getD s fun _=>[]) gs = [])
 (hgd:StepAll (fun _ o=>match o.guard with | none=>True | some (k,b)=>∀ g,valOf uses vals g k = .bool b) 0 l)
 (step:StepAll (HoldStepB P Q need uses dsts fill vals R R2 W Rs a0) 0 l)
 (S:Nat → Bool) (hS:dsts.all (fun d=>match d with | none=>true | some t=>S t) = true)
 (done:∀ (f:Nat → Value) (w:World) (g:Nat → Gh),(∀ i d,dsts.getD i none = some d → f d = valOf uses vals g i) →
  Hd W w ((List.range fill.length).flatMap (resOf uses fill R R2 (fun _=>true) g) ++ Rs) → Q .normal { tmps:=(patchG S f 0 a0.tmps.toList).toArray,defers:=a0.defers } w)
 (run:∀ I:Array Bool → Act → World → Prop,I (Array.replicate l.toArray.size false) a0 w0.drew →
  (∀ listed a w,I listed a w → ∀ i,i ∈ Region.ready .any l.toArray listed → ∃ o,l.toArray[i]? = some o ∧ Region.wanted o (yielded l.toArray a.tmps) = true ∧ o.wp P a w (fun a' w'=>I (listed.setIfInBounds i true) a' w') Q) →
  (∀ listed a w,I listed a w → Region.ready .any l.toArray listed = [] → Q .normal a w) → C):C:=by
 have hsize:l.toArray.size = l.length:=by simp
 have dmem:∀ i d,dsts.getD i none = some d → some d ∈ dsts:=fun i d h=>by
  rw [List.getD_eq_getElem?_getD] at h
  cases he:dsts[i]? with
  | none=>rw [he] at h; cases h
  | some y=>rw [he] at h; simp only [Option.getD_some] at h; subst h; exact List.mem_of_getElem? he
 refine run (fun listed a w=>a0 = a0 ∧ ∃ g,HoldWayB l.toArray need uses dsts fill vals R R2 W Rs a0 listed a w g) ?_ ?_ ?_
 · refine ⟨rfl,fun _=>default,by simp,rfl,rfl,fun _ _=>rfl,fun i d h=>?_,fun i h=>?_,fun i h=>?_,?_⟩
   · rw [none_here] at h; cases h
   · rw [none_here] at h; cases h
   · rw [none_here] at h; cases h
   · have:lstB l.toArray.size (Array.replicate l.toArray.size false) = fun i=>decide (l.length ≤ i):=by
      funext i
      unfold lstB
      rw [none_here,hsize]; simp
     rw [this]
     exact h0.still (Below.refl _ _).drew
 · rintro listed a w ⟨_,g,hw⟩ i hi
   obtain ⟨hl,o,ho,hall⟩:=mem_ready.1 hi
   have hck:=hold_atB hc ho
   have hlt:i < l.toArray.size:=(Array.getElem?_eq_some_iff.1 ho).1
   have hgo:l[i]? = some o:=by simpa using ho
   have hli:listed.getD i false = false:=by
    have:i < listed.size:=by rw [hw.lsize]; exact hlt
    simp only [Array.getD_eq_getD_getElem?,Array.getElem?_eq_getElem this,Option.getD_some] at hl ⊢
    exact hl
   have hneed:∀ d ∈ need.getD i [],∀ s,dsts.getD d none = some s → a.eval (.tmp s) = valOf uses vals g d:=fun d hd s hs=>hw.has d s (hold_readyB hc hi hd) hs
   have hin:∀ j,listed.getD j false = true → j < l.toArray.size:=fun j hj=>by
    rcases Nat.lt_or_ge j l.toArray.size with h | h
    · exact h
    · rw [← hw.lsize] at h; simp [Array.getElem?_eq_none h] at hj
   have hwant:Region.wanted o (yielded l.toArray a.tmps) = true:=by
    cases hg:o.guard with
    | none=>simp [Region.wanted,hg]
    | some kb =>
     obtain ⟨k,b⟩:=kb
     obtain ⟨hk,hkd⟩:=hck.hguard k b hg
     have hgv:=hgd.at hgo
     simp only [hg] at hgv
     have hkl:=hin k (hold_readyB hc hi hk)
     have hok:l.toArray[k]? = some (l.toArray[k]):=Array.getElem?_eq_getElem hkl
     have hdk:=(hold_atB hc hok).hdst
     cases hd:dsts.getD k none with
     | none=>exact absurd hd hkd
     | some t =>
      have hv:=hneed k hk t hd
      rw [hgv g] at hv
      have hlt2:t < a.tmps.size:=by rw [hw.size]; exact hsz _ (dmem k t hd)
      have hb2:a.tmps[t]? = some (.bool b):=by
       rw [Array.getElem?_eq_getElem hlt2]
       simpa [Act.eval,hlt2] using hv
      rw [hd] at hdk
      simp only [Region.wanted,hg,yielded,hok,Option.bind_some,hdk,hb2,beq_self_eq_true]
   refine ⟨o,ho,hwant,?_⟩
   have hs:=step.at hgo
   rw [Nat.zero_add] at hs
   have hres:∀ d ∈ need.getD i [],fill.getD d none = none → ∃ Ys,Hd W w ((R.getD d fun _=>[]) ((uses.getD d []).map g) ++ Ys):=fun d hd hf=>by
    have hdl:=(hck.hneed d hd).1
    obtain ⟨Ys,p1,_⟩:=flat_change (F:=resOf uses fill R R2 (lstB l.toArray.size listed) g) (F':=resOf uses fill R R2 (lstB l.toArray.size listed) g) (i:=d) (fun _ _=>rfl) List.nodup_range (List.mem_range.2 (show d < fill.length by omega))
    have e1:resOf uses fill R R2 (lstB l.toArray.size listed) g d = (R.getD d fun _=>[]) ((uses.getD d []).map g):=by
     unfold resOf
     rw [show lstB l.toArray.size listed d = true by unfold lstB; rw [hold_readyB hc hi hd]; rfl,hf]; rfl
    rw [e1] at p1
    have:=Hd.perm (List.Perm.append_right Rs p1) hw.hd
    rw [List.append_assoc] at this
    exact ⟨_,this⟩
   have hpre:∀ b s,fill.getD b none = some s → uses.length ≤ b → i ∈ need.getD s [] → ∃ Ys,Hd W w ((R.getD b fun _=>[]) ((uses.getD b []).map g) ++ Ys):=fun b s hb hlb hins=>by
    have hk:=hold_fillB hc hb
    obtain ⟨Ys,p1,_⟩:=flat_change (F:=resOf uses fill R R2 (lstB l.toArray.size listed) g) (F':=resOf uses fill R R2 (lstB l.toArray.size listed) g) (i:=b) (fun _ _=>rfl) List.nodup_range (List.mem_range.2 hk.1)
    have hls:lstB l.toArray.size listed s = false:=by
     unfold lstB
     have h1:listed.getD s false = false:=by
      cases h:listed.getD s false with
      | false=>rfl
      | true =>
       have:=hw.nclosed s h i hins
       rw [hli] at this; cases this
     rw [h1]
     have:=hk.2.2.2.1
     simp only [Bool.false_or,decide_eq_false_iff_not]; omega
    have e1:resOf uses fill R R2 (lstB l.toArray.size listed) g b = (R.getD b fun _=>[]) ((uses.getD b []).map g):=by
     unfold resOf
     rw [show lstB l.toArray.size listed b = true by unfold lstB; rw [decide_eq_true (by omega),Bool.or_true],hb]
     simp only [cond_true]
     rw [hls]; rfl
    rw [e1] at p1
    have:=Hd.perm (List.Perm.append_right Rs p1) hw.hd
    rw [List.append_assoc] at this
    exact ⟨_,this⟩
   have hs:=hs a w g hneed hw.rest hres hpre
   have hset:∀ j,j ≠ i → (listed.setIfInBounds i true).getD j false = listed.getD j false:=fun j hj=>by
    simp [Array.getElem?_setIfInBounds_ne (Ne.symm hj)]
   have hset1:(listed.setIfInBounds i true).getD i false = true:=by
    have:i < listed.size:=by rw [hw.lsize]; exact hlt
    simp [this]
   have hiu:∀ j,listed.getD j false = true → i ∉ uses.getD j []:=fun j hj hk=>by
    have:=hw.closed j hj i hk
    rw [hli] at this; cases this
   have hclosed:∀ j,(listed.setIfInBounds i true).getD j false = true → ∀ k ∈ uses.getD j [],(listed.setIfInBounds i true).getD k false = true:=fun j hj k hk=>by
    rcases here_set hj with rfl | hlj
    · rcases hck.huses k hk with rfl | ⟨d,hd,hkd⟩
      · exact hj
      · exact here_mono (hw.closed d (hold_readyB hc hi hd) k hkd)
    · exact here_mono (hw.closed j hlj k hk)
   have hnclosed:∀ j,(listed.setIfInBounds i true).getD j false = true → ∀ k ∈ need.getD j [],(listed.setIfInBounds i true).getD k false = true:=fun j hj k hk=>by
    rcases here_set hj with rfl | hlj
    · exact here_mono (hold_readyB hc hi hk)
    · exact here_mono (hw.nclosed j hlj k hk)
   have hB:∀ j,j ≠ i → lstB l.toArray.size (listed.setIfInBounds i true) j = lstB l.toArray.size listed j:=fun j hj=>by unfold lstB; rw [hset j hj]
   have hBi:lstB l.toArray.size listed i = false:=by unfold lstB; rw [hli]; simp only [Bool.false_or,decide_eq_false_iff_not]; omega
   have hBi':lstB l.toArray.size (listed.setIfInBounds i true) i = true:=by unfold lstB; rw [hset1]; rfl
   have hBu:∀ j,lstB l.toArray.size listed j = true → i ∉ uses.getD j []:=fun j hj=>by
    unfold lstB at hj
    rw [Bool.or_eq_true] at hj
    rcases hj with hj | hj
    · exact hiu j hj
    · have:l.toArray.size ≤ j:=by simpa using hj
      rw [List.getD_eq_getElem?_getD,List.getElem?_eq_none (by omega)]
      simp
   have hp:i < fill.length:=by omega
   cases hfi:fill.findIdx? (· == some i) with
   | none =>
    rw [hfi] at hs
    have hnf:∀ j,fill.getD j none ≠ some i:=fun j hj=>by
     rw [List.getD_eq_getElem?_getD] at hj
     cases he:fill[j]? with
     | none=>rw [he] at hj; cases hj
     | some y =>
      rw [he] at hj
      simp only [Option.getD_some] at hj
      have:=List.findIdx?_eq_none_iff.1 hfi y (List.mem_of_getElem? he)
      rw [hj] at this; simp at this
    refine hs _ hw.hd _ fun x v w' hv hR=>?_
    refine ⟨rfl,updG g i x,by simp [hw.lsize],(put_size _ _ _).trans hw.size,(put_defers _ _ _).trans hw.defers,fun t ht=>?_,fun j d hj hd=>?_,hclosed,hnclosed,?_⟩
    · rw [put_ne (by rw [hck.hdst]; exact fun e=>ht (dmem i t e))]
      exact hw.rest t ht
    · by_cases e:j = i
      · subst e
        rw [hck.hdst.trans hd,put_same (by rw [hw.size]; exact hsz d (dmem j d hd))]
        exact hv (by rw [hck.hdst,hd]; exact Option.some_ne_none d)
      · have hlj:=(here_set hj).resolve_left e
        rw [put_ne (by rw [hck.hdst]; exact fun e2=>e (hck.hapart j (hin j hlj) d e2 hd).symm),hw.has j d hlj hd]
        unfold valOf
        rw [map_upd (hiu j hlj)]
    · have hch:∀ j,j ≠ i → resOf uses fill R R2 (lstB l.toArray.size listed) g j = resOf uses fill R R2 (lstB l.toArray.size (listed.setIfInBounds i true)) (updG g i x) j:=fun j hj=>by
       unfold resOf
       rw [hB j hj]
       cases hlj:lstB l.toArray.size listed j with
       | false=>rfl
       | true =>
        simp only [cond_true]
        cases hf:fill.getD j none with
        | none=>simp only; rw [map_upd (hBu j hlj)]
        | some s =>
         have hsi:s ≠ i:=fun e=>hnf j (by rw [hf,e])
         simp only
         rw [hB s hsi]
         cases hls:lstB l.toArray.size listed s with
         | false=>simp only [cond_false]; rw [map_upd (hBu j hlj)]
         | true=>simp only [cond_true]; rw [map_upd (hBu s hls)]
      obtain ⟨Ys,p1,p2⟩:=flat_change hch List.nodup_range (List.mem_range.2 hp)
      have e1:resOf uses fill R R2 (lstB l.toArray.size listed) g i = []:=by unfold resOf; rw [hBi]; rfl
      have e2:resOf uses fill R R2 (lstB l.toArray.size (listed.setIfInBounds i true)) (updG g i x) i = (R.getD i fun _=>[]) ((uses.getD i []).map (updG g i x)):=by
       unfold resOf
       rw [hBi']
       simp only [cond_true]
       cases hf:fill.getD i none with
       | none=>rfl
       | some s =>
        have hk:=hold_fillB hc hf
        have hne:s ≠ i:=fun e=>by rw [e] at hk; rw [hk.2.2.1] at hf; cases hf
        have hls:lstB l.toArray.size listed s = false:=by
         unfold lstB
         have h1:listed.getD s false = false:=by
          cases h:listed.getD s false with
          | false=>rfl
          | true =>
           have:=hw.nclosed s h i (hk.2.1.resolve_left (by omega))
           rw [hli] at this; cases this
         rw [h1]
         have:=hk.2.2.2.1
         simp only [Bool.false_or,decide_eq_false_iff_not]; omega
        simp only
        rw [hB s hne,hls]; rfl
      rw [e1,List.nil_append] at p1
      rw [e2] at p2
      refine Hd.perm ?_ hR
      rw [← List.append_assoc]
      exact List.Perm.append_right _ ((List.Perm.append_left _ p1).trans p2.symm)
   | some b =>
    rw [hfi] at hs
    obtain ⟨hb1,hb2,_⟩:=List.findIdx?_eq_some_iff_getElem.1 hfi
    have hfb:fill.getD b none = some i:=by
     rw [List.getD_eq_getElem?_getD,List.getElem?_eq_getElem hb1,Option.getD_some]
     simpa using hb2
    have hkb:=hold_fillB hc hfb
    have hlb:lstB l.toArray.size listed b = true:=by
     unfold lstB
     rcases hkb.2.1 with h | h
     · rw [decide_eq_true h,Bool.or_true]
     · rw [hold_readyB hc hi h]; rfl
    have hbi:b ≠ i:=fun e=>by rw [e,hBi] at hlb; cases hlb
    have hch:∀ x:Gh,∀ j,j ≠ b → resOf uses fill R R2 (lstB l.toArray.size listed) g j = resOf uses fill R R2 (lstB l.toArray.size (listed.setIfInBounds i true)) (updG g i x) j:=fun x j hj=>by
     unfold resOf
     by_cases hji:j = i
     · subst hji
       rw [hBi,hBi',hkb.2.2.1]
       simp only [cond_true,cond_false]
       exact (hnil j b hfb _).symm
     · rw [hB j hji]
       cases hlj:lstB l.toArray.size listed j with
       | false=>rfl
       | true =>
        simp only [cond_true]
        cases hf:fill.getD j none with
        | none=>simp only; rw [map_upd (hBu j hlj)]
        | some s =>
         have hsi:s ≠ i:=fun e=>hj (hkb.2.2.2.2 j (by rw [hf,e]))
         simp only
         rw [hB s hsi]
         cases hls:lstB l.toArray.size listed s with
         | false=>simp only [cond_false]; rw [map_upd (hBu j hlj)]
         | true=>simp only [cond_true]; rw [map_upd (hBu s hls)]
    have e1:resOf uses fill R R2 (lstB l.toArray.size listed) g b = (R.getD b fun _=>[]) ((uses.getD b []).map g):=by
     unfold resOf; rw [hlb,hfb]; simp only [cond_true]; rw [hBi]; rfl
    have e2:∀ x,resOf uses fill R R2 (lstB l.toArray.size (listed.setIfInBounds i true)) (updG g i x) b = (R2.getD b fun _=>[]) ((uses.getD i []).map (updG g i x)):=fun x=>by
     unfold resOf; rw [hB b hbi,hlb,hfb]; simp only [cond_true]; rw [hBi']; rfl
    obtain ⟨Y0,q1,_⟩:=flat_change (hch default) List.nodup_range (List.mem_range.2 hkb.1)
    rw [e1] at q1
    have hH:=Hd.perm (List.Perm.append_right Rs q1) hw.hd
    rw [List.append_assoc] at hH
    refine hs _ hH _ fun x v w' hv hR=>?_
    obtain ⟨Ys,p1,p2⟩:=flat_change (hch x) List.nodup_range (List.mem_range.2 hkb.1)
    rw [e1] at p1
    rw [e2] at p2
    refine ⟨rfl,updG g i x,by simp [hw.lsize],(put_size _ _ _).trans hw.size,(put_defers _ _ _).trans hw.defers,fun t ht=>?_,fun j d hj hd=>?_,hclosed,hnclosed,?_⟩
    · rw [put_ne (by rw [hck.hdst]; exact fun e=>ht (dmem i t e))]
      exact hw.rest t ht
    · by_cases e:j = i
      · subst e
        rw [hck.hdst.trans hd,put_same (by rw [hw.size]; exact hsz d (dmem j d hd))]
        exact hv (by rw [hck.hdst,hd]; exact Option.some_ne_none d)
      · have hlj:=(here_set hj).resolve_left e
        rw [put_ne (by rw [hck.hdst]; exact fun e2=>e (hck.hapart j (hin j hlj) d e2 hd).symm),hw.has j d hlj hd]
        unfold valOf
        rw [map_upd (hiu j hlj)]
    · have hYY:Y0.Perm Ys:=(List.perm_append_left_iff _).1 (q1.symm.trans p1)
      rw [← List.append_assoc] at hR
      exact Hd.perm (List.Perm.append_right _ ((List.Perm.append_left _ hYY).trans p2.symm)) hR
 · rintro listed a w ⟨_,g,hw⟩ hr
   have hall:=hold_allB hc hw.lsize hr
   have hlit:=act_litG (a:=a) (a0:=a0) S hw.size hw.defers (fun t ht=>hw.rest t (fun h=>by
    have:=List.all_eq_true.1 hS _ h
    simp only at this
    rw [this] at ht; cases ht))
   rw [hlit]
   refine done _ w g (fun i d hd=>hw.has i d (hall i ?_) hd) ?_
   · rcases Nat.lt_or_ge i l.toArray.size with h | h
     · exact h
     · rw [List.getD_eq_getElem?_getD,List.getElem?_eq_none (by omega)] at hd; cases hd
   · have hh:=hw.hd
     have:lstB l.toArray.size listed = fun _=>true:=by
      funext i
      unfold lstB
      rcases Nat.lt_or_ge i l.toArray.size with h | h
      · rw [hall i h]; rfl
      · rw [decide_eq_true h,Bool.or_true]
     rw [this] at hh
     exact hh

/-- An append of one number to a row held ahead. -/
theorem hold_appB {Q:Exit → Act → World → Prop} {uses:List (List Nat)} {b:Nat} {vals:List (List Gh → Value)} {R2:List (List Gh → List Res)} {W:World} {Ss:List Res} {a:Act} {w:World} {g:Nat → Gh} {i:Nat} {o:Oper} {K:Act → World → Prop} {T E n bytes gx:Nat} {v:Value} {zs:List Int} {inf:TypeInfo} (d:Int)
 (ht:Try.prog.underlying T = some (.slice E)) (hi:Try.prog.info? E = some inf) (hz:inf.zero = some (.int .i64 0)) (hsize:inf.size = 1) (hby:inf.bytes = bytes) (hb8:bytes ≤ 8)
 (s x:Operand) (ho:o.op = .call { callee:=.builtin .append,args:=#[s,x],argTypes:=#[T,T] }) (h:Hd W w (RowR E 1 v n (nums .i64 zs)::Ss)) (hs:a.eval s = v) (hx:a.eval x = .slice (some ⟨gx,0,none⟩) 1 1) (hc:w.heap[gx]? = some (.cells #[.int .i64 d] E (0,0))) (hn:n ≤ 1000)
 (hv:∀ y:Gh,valOf uses vals (updG g i y) i = .slice y.1 (n + 1) y.2) (hR:∀ y:Gh,(R2.getD b fun _=>[]) ((uses.getD i []).map (updG g i y)) = [RowR E 1 (.slice y.1 (n + 1) y.2) (n + 1) (nums .i64 (zs ++ [d]))])
 (hK:∀ x v w',(o.dst ≠ none → v = valOf uses vals (updG g i x) i) → Hd W w' ((R2.getD b fun _=>[]) ((uses.getD i []).map (updG g i x)) ++ Ss) → K (a.put o.dst v) w'):o.wp Try.prog a w K Q:=by
 refine wp_append_lies w s x T ho 0 E inf (.int .i64 0) 1 bytes ht hi hz hsize hby rfl (by decide) v n _ hs h.owns ⟨gx,0,none⟩ 1 1 [.int .i64 d] hx rfl (World.news_of_block hc) (by simp [Value.oneCell']) (by decide) (by simp only [maxLen]; omega) ?_ (Nat.zero_le _) _ rfl ?_
 · have:(n + 1) * bytes ≤ (n + 1) * 8:=Nat.mul_le_mul_left _ hb8
   omega
 · intro g2 cap w' ho' hg hgg _
   refine hK (some ⟨g2,0,none⟩,cap) _ w' (fun _=>(hv (some ⟨g2,0,none⟩,cap)).symm) ?_
   rw [hR]
   have:=h.grown ho' hg hgg
   rw [show nums .i64 (zs ++ [d]) = nums .i64 zs ++ [.int .i64 d] by simp [nums]]
   exact this

/-- An operation in a round, at the fence that lets all in. -/
theorem Oper.wpIn_of_wp {o:Oper} {a:Act} {w:World} {K:Act → World → Prop} {n r:Nat} (hd:∀ c,o.op ≠ .defer c) (hr:∀ row args w',(execOp a.eval o).run P w ≠ .ok (.row row args) w') (h:o.wp P a w K Q):o.wpIn (Fence.wide.inRound r) n P a w K Q:=by
 refine ⟨fun _ _=>trivial,?_⟩
 rw [show (Fence.wide.inRound r).round = some r from rfl,Oper.semAt_some r a.eval o hd]
 unfold Oper.wp at h
 revert h hr
 generalize (execOp a.eval o).run P w = res
 intro hr h
 cases res with
 | ok x w' =>
  cases x <;> simp only [Oper.upon,Oper.uponIn] at h ⊢ <;> first | exact h | skip
  case enter f args=>exact ⟨fun h=>(by cases h),CallsIn.inRound r (callsIn_wide.2 h)⟩
  case row row args=>exact absurd rfl (hr row args w')
 | halt x w'=>cases x <;> simp only [Oper.upon,Oper.uponIn] at h ⊢ <;> exact h

theorem wpAnyIn_invB {ops:Array Oper} {I:Array Bool → Act → World → Prop} {n r:Nat} (hops:∀ (i:Nat) (o:Oper),ops[i]? = some o → (∀ c,o.op ≠ .defer c) ∧ ∀ (a:Act) w row args w',(execOp a.eval o).run P w ≠ .ok (.row row args) w')
 (step:∀ listed a w,I listed a w → ∀ i,i ∈ Region.ready .any ops listed → ∃ o,ops[i]? = some o ∧ Region.wanted o (yielded ops a.tmps) = true ∧ o.wp P a w (fun a' w'=>I (listed.setIfInBounds i true) a' w') Q)
 (done:∀ listed a w,I listed a w → Region.ready .any ops listed = [] → Q .normal a w):∀ (fuel:Nat) (listed:Array Bool) (a:Act) (w:World),unlisted listed ≤ fuel → I listed a w → wpAnyIn (Fence.wide.inRound r) n P .any ops Q fuel listed a w
 | 0,listed,a,w,hf,hI=>by
  have hr:Region.ready .any ops listed = []:=by
   cases hr:Region.ready .any ops listed with
   | nil=>rfl
   | cons i rs =>
    have h1:=(mem_ready.1 (by rw [hr]; exact List.mem_cons_self:i ∈ Region.ready .any ops listed)).1
    have:=unlisted_set h1
    omega
  exact ⟨hr,done listed a w hI hr⟩
 | fuel + 1,listed,a,w,hf,hI=>by
  refine ⟨done listed a w hI,fun i hi=>?_⟩
  have h1:=(mem_ready.1 hi).1
  have h2:=unlisted_set h1
  obtain ⟨o,ho,hwant,hwp⟩:=step listed a w hI i hi
  refine wpOpIn_mono (fun a' w' h=>wpAnyIn_invB hops step done fuel _ a' w' (by omega) h) ?_
  unfold wpOpIn
  rw [ho]
  simp only [hwant,if_true]
  exact Oper.wpIn_of_wp (hops i o ho).1 ((hops i o ho).2 a w) hwp

theorem run_wpB {l:List Oper} {id:Nat} {a0:Act} {w0:World} (hm:P.follows .mixedOrders = true) (I:Array Bool → Act → World → Prop) (h0:I (Array.replicate l.toArray.size false) a0 w0.drew)
 (step:∀ listed a w,I listed a w → ∀ i,i ∈ Region.ready .any l.toArray listed → ∃ o,l.toArray[i]? = some o ∧ Region.wanted o (yielded l.toArray a.tmps) = true ∧ o.wp P a w (fun a' w'=>I (listed.setIfInBounds i true) a' w') Q)
 (done:∀ listed a w,I listed a w → Region.ready .any l.toArray listed = [] → Q .normal a w):(Code.region id l.toArray true).wp P Q a0 w0 :=
 wp_region_any hm (wpAny_inv (I:=I) (fun listed a w h i hi=>by
  obtain ⟨o,ho,hw,hk⟩:=step listed a w h i hi
  exact wpOp_wanted ho hw hk) done _ _ _ _ (by simp [unlisted]) h0)
theorem run_wpInB {l:List Oper} {id n r:Nat} {a0:Act} {w0:World} (hm:P.follows .mixedOrders = true) (hops:∀ (i:Nat) (o:Oper),l.toArray[i]? = some o → (∀ c,o.op ≠ .defer c) ∧ ∀ (a:Act) w row args w',(execOp a.eval o).run P w ≠ .ok (.row row args) w')
 (I:Array Bool → Act → World → Prop) (h0:I (Array.replicate l.toArray.size false) a0 w0.drew)
 (step:∀ listed a w,I listed a w → ∀ i,i ∈ Region.ready .any l.toArray listed → ∃ o,l.toArray[i]? = some o ∧ Region.wanted o (yielded l.toArray a.tmps) = true ∧ o.wp P a w (fun a' w'=>I (listed.setIfInBounds i true) a' w') Q)
 (done:∀ listed a w,I listed a w → Region.ready .any l.toArray listed = [] → Q .normal a w):(Code.region id l.toArray true).wpIn (Fence.wide.inRound r) n P Q a0 w0 :=
 wpIn_region_any hm (wpAnyIn_invB hops step done _ _ _ _ (by simp [unlisted]) h0)
end
end Go.Proofs.Ytpcfmafokkffgaa
namespace Go.Proofs.Ytpcfmafokkffgaa
open Go.RowKit

abbrev zR:List Gh → List Res:=fun _=>[]
abbrev pt (b o:Nat):Value:=.pointer (some ⟨b,o,none⟩)
/-- What an operation hands on of what lies in a slot. -/
def opV (o:Op) (t:Nat) (v:Value):Option Value :=
  match o with
  | .move (.tmp k) | .assign (.tmp k)=>if k == t then some v else none
  | .nilCheck (.tmp k)=>if k == t then (match v with | .pointer (some _)=>some v | _=>none) else none
  | .extract (.tmp k) i=>if k == t then (match v with | .tuple vs=>vs[i]? | _=>none) else none
  | _=>none
section
variable {P:Program} {Q:Exit → Act → World → Prop} {need uses:List (List Nat)} {dsts fill:List (Option Nat)} {vals:List (List Gh → Value)} {R R2:List (List Gh → List Res)} {W:World} {Rs:List Res} {a0:Act} {i:Nat} {o:Oper}
theorem opV_run {a:Act} {w:World} {t:Nat} {v v2:Value} (h:opV o.op t v = some v2) (e:a.eval (.tmp t) = v):(execOp a.eval o).run P w = .ok (.value v2) w:=by
  unfold opV at h
  unfold execOp
  split at h
  · rename_i k hk
    split at h
    · rename_i ht
      have ht:k = t:=by simpa using ht
      cases h
      rw [hk]
      simp only [ht,e]
      rfl
    · cases h
  · rename_i k hk
    split at h
    · rename_i ht
      have ht:k = t:=by simpa using ht
      cases h
      rw [hk]
      simp only [ht,e]
      rfl
    · cases h
  · rename_i k hk
    split at h
    · rename_i ht
      have ht:k = t:=by simpa using ht
      rw [hk]
      simp only [ht,e]
      split at h
      · cases h
        rfl
      · cases h
    · cases h
  · rename_i k i hk
    split at h
    · rename_i ht
      have ht:k = t:=by simpa using ht
      rw [hk]
      simp only [ht,e]
      split at h
      · simp [Instr.extract,h,go_sem]
      · cases h
    · cases h
  · cases h
theorem pN (d t:Nat) (hc:((fill.findIdx? (· == some i)).isNone && (need.getD i []).contains d && dsts.getD d none == some t) = true)
    (h:∀ g,opV o.op t (valOf uses vals g d) = some (valOf uses vals (updG g i default) i) ∧ (R.getD i fun _=>[]) ((uses.getD i []).map (updG g i default)) = []):HoldStepB P Q need uses dsts fill vals R R2 W Rs a0 i o:=by
  simp only [Bool.and_eq_true,Option.isNone_iff_eq_none,beq_iff_eq,List.contains_iff_mem] at hc
  exact HoldStepB.val hc.1.1 fun a w g hn _ _ _ _ hH _ hK=>hold_run (opV_run (h g).1 (hn d hc.1.2 t hc.2)) rfl (h g).2 hH hK
theorem pF (d t off:Nat) (hc:((fill.findIdx? (· == some i)).isNone && (need.getD i []).contains d && dsts.getD d none == some t) = true) {s f:Nat} (ho:o.op = .fieldAddr s (.tmp t) f)
    (hF:∀ (b q:Nat) (w:World),(Instr.fieldAt s (.pointer (some ⟨b,q,none⟩)) f).run P w = .ok (.pointer (some ⟨b,q + off,none⟩)) w)
    (h:∀ g,(∃ b q,valOf uses vals g d = .pointer (some ⟨b,q,none⟩) ∧ valOf uses vals (updG g i default) i = .pointer (some ⟨b,q + off,none⟩)) ∧ (R.getD i fun _=>[]) ((uses.getD i []).map (updG g i default)) = []):HoldStepB P Q need uses dsts fill vals R R2 W Rs a0 i o:=by
  simp only [Bool.and_eq_true,Option.isNone_iff_eq_none,beq_iff_eq,List.contains_iff_mem] at hc
  refine HoldStepB.val hc.1.1 fun a w g hn _ _ _ _ hH _ hK=>?_
  obtain ⟨⟨b,q,h1,h2⟩,h3⟩:=h g
  refine hold_run (v:=.pointer (some ⟨b,q + off,none⟩)) ?_ h2.symm h3 hH hK
  have e:=(hn d hc.1.2 t hc.2).trans h1
  unfold execOp
  rw [ho]
  simp only [e]
  simp only [Sem.run_bind,hF,Result.andThen_ok,Sem.run_pure]
theorem pR (t:Nat) (hc:((fill.findIdx? (· == some i)).isNone && !dsts.contains (some t)) = true)
    (h:∀ g,opV o.op t (a0.eval (.tmp t)) = some (valOf uses vals (updG g i default) i) ∧ (R.getD i fun _=>[]) ((uses.getD i []).map (updG g i default)) = []):HoldStepB P Q need uses dsts fill vals R R2 W Rs a0 i o:=by
  simp only [Bool.and_eq_true,Option.isNone_iff_eq_none,Bool.not_eq_true',List.contains_eq_mem,decide_eq_false_iff_not] at hc
  exact HoldStepB.val hc.1 fun a w g _ hr _ _ _ hH _ hK=>hold_run (opV_run (h g).1 (hr t hc.2)) rfl (h g).2 hH hK
end
section
theorem cells3 {w:World} {k:Nat} {a0 a1 a2:Value} {T:TypeId} (h:w.heap[k]? = some (.cells #[a0,a1,a2] T (0,0))):w.cell? ⟨k,0,none⟩ = some a0 ∧ w.cell? ⟨k,1,none⟩ = some a1 ∧ w.cell? ⟨k,2,none⟩ = some a2:=⟨cell_of_heap h 0,cell_of_heap h 1,cell_of_heap h 2⟩
theorem cells4 {w:World} {k:Nat} {a0 a1 a2 a3:Value} {T:TypeId} (h:w.heap[k]? = some (.cells #[a0,a1,a2,a3] T (0,0))):w.cell? ⟨k,0,none⟩ = some a0 ∧ w.cell? ⟨k,1,none⟩ = some a1 ∧ w.cell? ⟨k,2,none⟩ = some a2 ∧ w.cell? ⟨k,3,none⟩ = some a3:=⟨cell_of_heap h 0,cell_of_heap h 1,cell_of_heap h 2,cell_of_heap h 3⟩
theorem cells5 {w:World} {k:Nat} {a0 a1 a2 a3 a4:Value} {T:TypeId} (h:w.heap[k]? = some (.cells #[a0,a1,a2,a3,a4] T (0,0))):w.cell? ⟨k,0,none⟩ = some a0 ∧ w.cell? ⟨k,1,none⟩ = some a1 ∧ w.cell? ⟨k,2,none⟩ = some a2 ∧ w.cell? ⟨k,3,none⟩ = some a3 ∧ w.cell? ⟨k,4,none⟩ = some a4:=⟨cell_of_heap h 0,cell_of_heap h 1,cell_of_heap h 2,cell_of_heap h 3,cell_of_heap h 4⟩
theorem cells13 {w:World} {k:Nat} {a0 a1 a2 a3 a4 a5 a6 a7 a8 a9 a10 a11 a12:Value} {T:TypeId} (h:w.heap[k]? = some (.cells #[a0,a1,a2,a3,a4,a5,a6,a7,a8,a9,a10,a11,a12] T (0,0))):w.cell? ⟨k,0,none⟩ = some a0 ∧ w.cell? ⟨k,1,none⟩ = some a1 ∧ w.cell? ⟨k,2,none⟩ = some a2 ∧ w.cell? ⟨k,3,none⟩ = some a3 ∧ w.cell? ⟨k,4,none⟩ = some a4 ∧ w.cell? ⟨k,5,none⟩ = some a5 ∧ w.cell? ⟨k,6,none⟩ = some a6 ∧ w.cell? ⟨k,7,none⟩ = some a7 ∧ w.cell? ⟨k,8,none⟩ = some a8 ∧ w.cell? ⟨k,9,none⟩ = some a9 ∧ w.cell? ⟨k,10,none⟩ = some a10 ∧ w.cell? ⟨k,11,none⟩ = some a11 ∧ w.cell? ⟨k,12,none⟩ = some a12:=⟨cell_of_heap h 0,cell_of_heap h 1,cell_of_heap h 2,cell_of_heap h 3,cell_of_heap h 4,cell_of_heap h 5,cell_of_heap h 6,cell_of_heap h 7,cell_of_heap h 8,cell_of_heap h 9,cell_of_heap h 10,cell_of_heap h 11,cell_of_heap h 12⟩
end
end Go.Proofs.Ytpcfmafokkffgaa
namespace Go.Proofs.Ytpcfmafokkffgaa
open Go.RowKit

theorem hold_callB {P:Program} {Q:Exit → Act → World → Prop} {uses:List (List Nat)} {b:Nat} {vals:List (List Gh → Value)} {R2:List (List Gh → List Res)} {W:World} {Ss Rs:List Res} {a:Act} {w:World} {g:Nat → Gh} {i:Nat} {o:Oper} {K:Act → World → Prop} {f:FuncId} {args:Array Value} (h:(execOp a.eval o).run P w = .ok (.enter f args) w)
 (hc:Calls P f args w fun e w2=>∃ x:Gh,e = .returned (valOf uses vals (updG g i x) i) ∧ Hd W w2 ((R2.getD b fun _=>[]) ((uses.getD i []).map (updG g i x)) ++ (Ss ++ Rs)))
 (hK:∀ x v w',(o.dst ≠ none → v = valOf uses vals (updG g i x) i) → Hd W w' ((R2.getD b fun _=>[]) ((uses.getD i []).map (updG g i x)) ++ (Ss ++ Rs)) → K (a.put o.dst v) w'):o.wp P a w K Q:=by
 unfold Oper.wp; rw [h]
 refine Calls.mono hc fun e w2 he=>?_
 obtain ⟨x,rfl,h2⟩:=he
 exact hK x _ _ (fun _=>rfl) h2
end Go.Proofs.Ytpcfmafokkffgaa
namespace Go.Proofs.Ytpcfmafokkffgaa
open Go.RowKit

theorem shl_fits {y n x:Int} (y0:0 ≤ y):IntKind.u64.wrap (y * 2 ^ min (n + 1 - x).toNat 64) = ((y.toNat * 2 ^ (n + 1 - x).toNat % 2 ^ 64:Nat):Int):=by
 obtain ⟨d,hd⟩:∃ d,(n + 1 - x).toNat = d:=⟨_,rfl⟩
 obtain ⟨Y,rfl⟩:∃ Y:Nat,y = Y:=⟨y.toNat,by omega⟩
 rw [hd,IntKind.wrap_u64]
 have key:Y * 2 ^ min d 64 % 2 ^ 64 = Y * 2 ^ d % 2 ^ 64:=by
  rcases Nat.le_total d 64 with h | h
  · rw [Nat.min_eq_left h]
  · rw [Nat.min_eq_right h,show d = 64 + (d - 64) by omega,Nat.pow_add]
    rw [Nat.mul_left_comm Y (2 ^ 64) (2 ^ (d - 64))]
    rw [Nat.mul_mod_left,Nat.mul_mod_right]
 have e64:(2 ^ 64:Nat) = 18446744073709551616:=by decide
 rw [e64] at key
 simp only [Int.toNat_natCast]
 rw [e64,← key]
 simp

set_option maxRecDepth 100000 in
set_option maxHeartbeats 4000000 in
theorem take14_calls {x y n:Int} (h:WIn x y) (h0n:0 ≤ n) (h1n:n ≤ 255) {r1 r2 r3:Int} (hq:wTake x y n = ((r1,r2),r3)) (w:World) :
 Calls Try.prog 87 #[.agg #[.int .u64 x,.int .u64 y],.int .u64 n] w fun e w'=>e = .returned (.tuple #[.agg #[.int .u64 r1,.int .u64 r2],.int .i64 r3]) ∧ Below w.heap.size w w':=by
 have mixed:Try.prog.follows .mixedOrders = true:=by kernel_rfl
 have H:=hid (((Hd.refl w).boxk (o:=.cells #[.int .u64 x,.int .u64 y] 141 (0,0)) w.heap.size rfl).boxk (o:=.cells #[.int .u64 0,.int .u64 0] 141 (0,0)) (w.heap.size + 1) (by simp))
 obtain ⟨wo,hwo⟩:∃ wo,(w.alloc (.cells #[.int .u64 x,.int .u64 y] 141 (0,0))).alloc (.cells #[.int .u64 0,.int .u64 0] 141 (0,0)) = wo:=⟨_,rfl⟩
 rw [hwo] at H
 have hx0:=h.x0
 have hx1:=h.x1
 have HW:=hid h
 have dm:(n == 18446744073709551615) = false:=by simp; omega
 have hk:=Hd.nthk 1 H.out rfl
 have c0:=(cell_of_heap hk 0).trans (show _ = some (.int .u64 x) from rfl)
 have c1:=(cell_of_heap hk 1).trans (show _ = some (.int .u64 y) from rfl)
 have cs:=(Array.getElem?_eq_some_iff.1 hk).1
 clear hk
 unfold wTake at hq
 go_enter Try.func87,Try.ntmps87
 go_wp2_with fail
 refine (can14_calls HW.out h0n h1n _).mono ?_
 cases hc:wCan x y n
 · rw [hc,if_neg (by simp)] at hq
   simp only [Prod.mk.injEq] at hq
   obtain ⟨⟨rfl,rfl⟩,rfl⟩:=hq
   rintro e w1 ⟨rfl,h1⟩
   replace H:=hid (H.out.still h1)
   clear h1 c0 c1 cs hwo h hc
   have hk:=Hd.nthk 0 H.out rfl
   have q0:=(cell_of_heap hk 0).trans (show _ = some (.int .u64 0) from rfl)
   have q1:=(cell_of_heap hk 1).trans (show _ = some (.int .u64 0) from rfl)
   have qs:=(Array.getElem?_eq_some_iff.1 hk).1
   have qf:=frozen_of_heap hk
   clear hk
   go_wp2_with fail
   refine bodyPost_ret (v:=.tuple #[.agg #[.int .u64 0,.int .u64 0],.int .i64 12]) (by simp [results,Try.results87,go_sem,q0,q1]) rfl ⟨rfl,?_⟩
   exact ((H.out.set 0 (.int .u64 0)).set 1 (.int .u64 0)).below
 rw [hc,if_pos rfl] at hq
 rintro e w1 ⟨rfl,h1⟩
 replace H:=hid (H.out.still h1)
 clear h1 c0 c1 cs hwo
 have hk:=Hd.nthk 1 H.out rfl
 have c0:=(cell_of_heap hk 0).trans (show _ = some (.int .u64 x) from rfl)
 have c1:=(cell_of_heap hk 1).trans (show _ = some (.int .u64 y) from rfl)
 have cs:=(Array.getElem?_eq_some_iff.1 hk).1
 clear hk
 by_cases h1:n < x
 · have d1:decide (n < x) = true:=by simpa using h1
   rw [if_pos h1] at hq
   simp only [Prod.mk.injEq] at hq
   obtain ⟨⟨rfl,h2⟩,rfl⟩:=hq
   have h64:x - 1 - n < 64:=by
    unfold wCan at hc
    simp only [Bool.or_eq_true,decide_eq_true_eq,Bool.and_eq_true] at hc
    rcases hc with hc | hc
    · omega
    · exact hc.1
   obtain ⟨D,hD⟩:∃ D:Nat,(x - 1 - n).toNat = D:=⟨_,rfl⟩
   have hD64:D < 64:=by omega
   have hd:wDig x n = ((2 ^ D:Nat):Int):=by unfold wDig; rw [if_neg (by omega),hD]
   have ha:=bits_or_dig (d:=2 ^ D) h.y0 h.y1 (two_pow_lt hD64)
   rw [hD] at h2
   obtain ⟨Pw,hP⟩:∃ P:Int,((2 ^ D:Nat):Int) = P:=⟨_,rfl⟩
   obtain ⟨A,hA⟩:∃ A:Int,((y.toNat ||| 2 ^ D:Nat):Int) = A:=⟨_,rfl⟩
   rw [hP] at ha hd
   rw [hA] at ha h2
   subst h2
   have HDg:=hid hd
   clear h hc hd hA hP hD hD64 h64 h1
   go_wp2_with fail
   clear c0 c1 cs
   have cf108:∀ args w,(callFunc 108 args).run Try.prog w = .ok (.enter 108 args) w:=fun args w=>by kernel_rfl
   refine hold_coreB (P:=Try.prog) (W:=w) (Rs:=(Blk (w.heap.size + 1) (.cells #[.int .u64 0,.int .u64 0] 141 (0,0))::[])) [[],[0],[],[],[2,3],[1,4],[],[1,2,5,6]] [[],[],[],[],[],[],[],[]] ([some 21,some 22,some 23,some 24,some 25,some 26,some 27,none]:List (Option Nat)) ([none,none,none,none,none,none,none,none,some 7]:List (Option Nat)) ((fun _=>pt w.heap.size 1)::(fun _=>.int .u64 y)::(fun _=>.agg #[.int .u64 x,.int .u64 y])::(fun _=>.int .u64 n)::(fun _=>.int .u64 Pw)::(fun _=>.int .u64 A)::(fun _=>pt w.heap.size 1)::(fun _=>undef)::[]) (zR::zR::zR::zR::zR::zR::zR::zR::(fun _=>[Blk w.heap.size (.cells #[.int .u64 x,.int .u64 y] 141 (0,0))])::([]:List (List Gh → List Res))) (zR::zR::zR::zR::zR::zR::zR::zR::(fun _=>[Blk w.heap.size (.cells #[.int .u64 x,.int .u64 A] 141 (0,0))])::([]:List (List Gh → List Res))) (by kernel_rfl) rfl (hold_lt (n:=41) (by decide)) (H.out.swap) rfl (by decide) (hold_nil (fs:=[7]) trivial rfl ?nil6) ?gd6 ?step6 (fun t=>(decide (21 ≤ t) && decide (t ≤ 27))) (by decide) ?done6 (fun I h0 st dn=>run_wpB mixed I h0 st dn)
   case nil6 =>
    intro s gs hs
    simp only [List.mem_cons,List.not_mem_nil,or_false] at hs
    subst hs; rfl
   case gd6 =>
    repeat (refine StepAll.cons (by first | exact trivial | exact fun g=>rfl) ?_)
    exact trivial
   case step6 =>
    refine StepAll.cons ?_ ?_
    · refine HoldStepB.val (by decide) fun a wx γ hn hr hres hpre Ss hH K hK=>?_
      have e2:a.eval (.tmp 2) = .pointer (some ⟨w.heap.size,0,none⟩):=(hr 2 (by decide)).trans rfl
      exact hold_run (v:=.pointer (some ⟨w.heap.size,1,none⟩)) (by clear hn hr hK; generalize a.eval = ρ at *; simp [execOp,e2,go_sem]) rfl rfl hH hK
    refine StepAll.cons ?_ ?_
    · refine HoldStepB.val (by decide) fun a wx γ hn hr hres hpre Ss hH K hK=>?_
      have e21:a.eval (.tmp 21) = .pointer (some ⟨w.heap.size,1,none⟩):=hn 0 (by decide) 21 rfl
      obtain ⟨Zs,hB⟩:=hpre 8 7 rfl (by decide) (by decide)
      have hk:=(show Hd w wx (Blk w.heap.size (.cells #[.int .u64 x,.int .u64 y] 141 (0,0))::Zs) from hB).blk
      have c0:=(cell_of_heap hk 1).trans (show _ = some (.int .u64 y) from rfl)
      clear hk
      exact hold_run (v:=.int .u64 y) (by clear hn hr hK; generalize a.eval = ρ at *; simp [execOp,e21,c0,go_sem]) rfl rfl hH hK
    refine StepAll.cons ?_ ?_
    · refine HoldStepB.val (by decide) fun a wx γ hn hr hres hpre Ss hH K hK=>?_
      have e2:a.eval (.tmp 2) = .pointer (some ⟨w.heap.size,0,none⟩):=(hr 2 (by decide)).trans rfl
      obtain ⟨Zs,hB⟩:=hpre 8 7 rfl (by decide) (by decide)
      have hk:=(show Hd w wx (Blk w.heap.size (.cells #[.int .u64 x,.int .u64 y] 141 (0,0))::Zs) from hB).blk
      have c0:=(cell_of_heap hk 0).trans (show _ = some (.int .u64 x) from rfl)
      have c1:=(cell_of_heap hk 1).trans (show _ = some (.int .u64 y) from rfl)
      clear hk
      exact hold_run (v:=.agg #[.int .u64 x,.int .u64 y]) (by clear hn hr hK; generalize a.eval = ρ at *; simp [execOp,e2,c0,c1,go_sem]) rfl rfl hH hK
    refine .cons (pR 1 rfl fun _=>⟨rfl,rfl⟩) ?_
    refine StepAll.cons ?_ ?_
    · refine HoldStepB.val (by decide) fun a wx γ hn hr hres hpre Ss hH K hK=>?_
      have e23:a.eval (.tmp 23) = .agg #[.int .u64 x,.int .u64 y]:=hn 2 (by decide) 23 rfl
      have e24:a.eval (.tmp 24) = .int .u64 n:=hn 3 (by decide) 24 rfl
      have ef:a.eval (.func 108) = .func (.func 108) #[] #[]:=rfl
      refine hold_call (f:=108) (args:=#[.agg #[.int .u64 x,.int .u64 y],.int .u64 n]) (by clear hn hr hK hH; generalize a.eval = ρ at *; simp [execOp,e23,e24,cf108,ef,go_sem]) ?_ hH hK
      refine (digit_calls HW.out h0n h1n _).mono fun e w2 h=>⟨default,?_,fun Xs hX=>hX.still h.2⟩
      rw [h.1,HDg.out]
      rfl
    refine StepAll.cons ?_ ?_
    · refine HoldStepB.val (by decide) fun a wx γ hn hr hres hpre Ss hH K hK=>?_
      have e22:a.eval (.tmp 22) = .int .u64 y:=hn 1 (by decide) 22 rfl
      have e25:a.eval (.tmp 25) = .int .u64 Pw:=hn 4 (by decide) 25 rfl
      exact hold_run (v:=.int .u64 A) (by clear hn hr hK; generalize a.eval = ρ at *; simp [execOp,e22,e25,ha,go_sem]) rfl rfl hH hK
    refine StepAll.cons ?_ ?_
    · refine HoldStepB.val (by decide) fun a wx γ hn hr hres hpre Ss hH K hK=>?_
      have e2:a.eval (.tmp 2) = .pointer (some ⟨w.heap.size,0,none⟩):=(hr 2 (by decide)).trans rfl
      exact hold_run (v:=.pointer (some ⟨w.heap.size,1,none⟩)) (by clear hn hr hK; generalize a.eval = ρ at *; simp [execOp,e2,go_sem]) rfl rfl hH hK
    refine StepAll.cons ?_ ?_
    · refine HoldStepB.fil 8 (by decide) fun a wx γ hn hr hres hpre Ss hH K hK=>?_
      have e27:a.eval (.tmp 27) = .pointer (some ⟨w.heap.size,1,none⟩):=hn 6 (by decide) 27 rfl
      have e26:a.eval (.tmp 26) = .int .u64 A:=hn 5 (by decide) 26 rfl
      have hH2:Hd w wx (Blk w.heap.size (.cells #[.int .u64 x,.int .u64 y] 141 (0,0))::(Ss ++ (Blk (w.heap.size + 1) (.cells #[.int .u64 0,.int .u64 0] 141 (0,0))::[]))):=hH
      have hk:=hH2.blk
      have c0:=(cell_of_heap hk 1).trans (show _ = some (.int .u64 y) from rfl)
      have cf:=frozen_of_heap hk
      clear hk hH
      exact hold_filB (w':=(wx.setCell ⟨w.heap.size,1,none⟩ (.int .u64 A))) (by clear hn hr hK hH2; generalize a.eval = ρ at *; simp [execOp,e27,e26,c0,cf,go_sem]) rfl rfl (hH2.set 1 (.int .u64 A)) hK
    exact trivial
   case done6 =>
    intro f w9 g9 hv h9
    have hd:Hd w w9 (Blk w.heap.size (.cells #[.int .u64 x,.int .u64 A] 141 (0,0))::Blk (w.heap.size + 1) (.cells #[.int .u64 0,.int .u64 0] 141 (0,0))::[]):=h9
    clear hv h9 cf108
    clear g9
    simp only [patchG,Nat.reduceAdd,Nat.reduceLeDiff,decide_true,decide_false,Bool.and_true,Bool.and_false,cond_true,cond_false,]
    clear H
    have H:=hid hd
    clear hd
    have hk:=Hd.nthk 0 H.out rfl
    have c0:=(cell_of_heap hk 0).trans (show _ = some (.int .u64 x) from rfl)
    have c1:=(cell_of_heap hk 1).trans (show _ = some (.int .u64 A) from rfl)
    have cs:=(Array.getElem?_eq_some_iff.1 hk).1
    clear hk
    have hk:=Hd.nthk 1 H.out rfl
    have q0:=(cell_of_heap hk 0).trans (show _ = some (.int .u64 0) from rfl)
    have q1:=(cell_of_heap hk 1).trans (show _ = some (.int .u64 0) from rfl)
    have qs:=(Array.getElem?_eq_some_iff.1 hk).1
    have qf:=frozen_of_heap hk
    clear hk
    go_wp2_with fail
    refine bodyPost_ret (v:=.tuple #[.agg #[.int .u64 x,.int .u64 A],.int .i64 0]) (by simp [results,Try.results87,go_sem,q0,q1]) rfl ⟨rfl,?_⟩
    exact ((H.out.swap.set 0 (.int .u64 x)).set 1 (.int .u64 A)).below
 · have d1:decide (n < x) = false:=by simpa using h1
   rw [if_neg h1] at hq
   simp only [Prod.mk.injEq] at hq
   obtain ⟨⟨rfl,h2⟩,rfl⟩:=hq
   have z1:IntKind.u64.wrap (n + 1) = n + 1:=IntWalk.u64_in _ (by omega)
   have z2:IntKind.u64.wrap (n + 1 - x) = n + 1 - x:=IntWalk.u64_in _ (by omega)
   have z3:¬ (n + 1 - x < 0):=by omega
   have z4:decide (n + 1 - x < 0) = false:=by simp; omega
   have z5:=shl_fits (n:=n) (x:=x) h.y0
   have z6:=bits_or_u64_nat (y.toNat * 2 ^ (n + 1 - x).toNat % 2 ^ 64) 1 (Nat.mod_lt _ (by decide)) (by decide)
   obtain ⟨Sh,hS⟩:∃ S:Int,((y.toNat * 2 ^ (n + 1 - x).toNat % 2 ^ 64:Nat):Int) = S:=⟨_,rfl⟩
   obtain ⟨A,hA⟩:∃ A:Int,((y.toNat * 2 ^ (n + 1 - x).toNat % 2 ^ 64 ||| 1:Nat):Int) = A:=⟨_,rfl⟩
   rw [hS] at z5 z6
   rw [hA] at z6 h2
   subst h2
   have z7:bits .or .u64 Sh 1 = A:=z6
   have zsh:∀ w:World,(Op.shift .shl .u64 y .u64 (n + 1 - x)).run Try.prog w = .ok (.int .u64 Sh) w:=fun w=>by
    unfold Op.shift
    rw [if_neg z3]
    show (pure (.int .u64 (IntKind.u64.wrap (y * 2 ^ min (n + 1 - x).toNat 64))):Sem Value).run _ w = _
    rw [z5]
    rfl
   clear hS hA z6 h hc h1 z3 z4 z5
   have hk:=Hd.nthk 0 H.out rfl
   have q0:=(cell_of_heap hk 0).trans (show _ = some (.int .u64 0) from rfl)
   have q1:=(cell_of_heap hk 1).trans (show _ = some (.int .u64 0) from rfl)
   have qs:=(Array.getElem?_eq_some_iff.1 hk).1
   have qf:=frozen_of_heap hk
   clear hk
   go_wp2_with fail
   refine bodyPost_ret (v:=.tuple #[.agg #[.int .u64 (n + 1),.int .u64 A],.int .i64 0]) (by simp [results,Try.results87,go_sem,q0,q1]) rfl ⟨rfl,?_⟩
   exact ((H.out.set 0 (.int .u64 (n + 1))).set 1 (.int .u64 A)).below
end Go.Proofs.Ytpcfmafokkffgaa
