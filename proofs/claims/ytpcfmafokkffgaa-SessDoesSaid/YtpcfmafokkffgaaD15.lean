/-
  Walks and laws that the proof stands on, one behind another: RSessC. For every input.
-/
import Derived.Test.YtpcfmafokkffgaaD12
import Derived.Test.YtpcfmafokkffgaaD10
import Derived.Test.YtpcfmafokkffgaaD11
namespace Go.Proofs.Ytpcfmafokkffgaa
open Go.RowKit

set_option maxRecDepth 100000 in
set_option maxHeartbeats 4000000 in
theorem conv17_calls (h s r v:Int) (w:World) :
 Calls Try.prog 36 #[.agg #[.int .i64 h,.int .i64 s,.int .i64 r,.int .i64 v]] w fun e w'=>e = .returned (.agg #[.int .i64 h,.int .i64 s,.int .i64 r,.int .i64 v]) ∧ Below w.heap.size w w':=by
 have H:=hid (((Hd.refl w).boxk (o:=.cells #[.int .i64 h,.int .i64 s,.int .i64 r,.int .i64 v] 72 (0,0)) w.heap.size rfl).boxk (o:=.cells #[.int .i64 0,.int .i64 0,.int .i64 0,.int .i64 0] 80 (0,0)) (w.heap.size + 1) (by simp))
 obtain ⟨wo,hwo⟩:∃ wo,(w.alloc (.cells #[.int .i64 h,.int .i64 s,.int .i64 r,.int .i64 v] 72 (0,0))).alloc (.cells #[.int .i64 0,.int .i64 0,.int .i64 0,.int .i64 0] 80 (0,0)) = wo:=⟨_,rfl⟩
 rw [hwo] at H
 have hk:=Hd.nthk 1 H.out rfl
 obtain ⟨b0,b1,b2,b3⟩:=cells4 hk
 have bs:=(Array.getElem?_eq_some_iff.1 hk).1
 clear hk
 have hk:=Hd.nthk 0 H.out rfl
 obtain ⟨q0,q1,q2,q3⟩:=cells4 hk
 have qs:=(Array.getElem?_eq_some_iff.1 hk).1
 have qf:=frozen_of_heap hk
 clear hk
 go_enter Try.func36,Try.ntmps36
 go_wp2_with fail
 refine bodyPost_ret (v:=.agg #[.int .i64 h,.int .i64 s,.int .i64 r,.int .i64 v]) (by simp [results,Try.results36,go_sem,q0,q1,q2,q3]) rfl ⟨rfl,?_⟩
 exact ((((H.out.set 0 (.int .i64 h)).set 1 (.int .i64 s)).set 2 (.int .i64 r)).set 3 (.int .i64 v)).below

section
variable {W w:World} {Rs:List Res} {b p:Nat} {L:List T} {m:Int}
set_option maxHeartbeats 1000000 in
theorem rthere19_c (x:Int) (h:Hd W w (RSto b L m::Rs)) :
 Calls Try.prog 62 #[.pointer (some ⟨b,0,none⟩),.int .i64 x] w fun e w'=>e = .returned (.bool (getB L x)) ∧ Hd W w' (RSto b L m::Rs):=by
 obtain ⟨a,cap,hs⟩:=h.rsto
 have hl:L.length ≤ 1048576:=by have:=hs.ok.m1; have:=hs.ok.len; omega
 have c0:=hs.c0
 have H:=hid h
 clear h hs
 by_cases h1:1 ≤ x
 · by_cases h2:x ≤ L.length
   · have Hg:Hid (getB L x = true):=hid (In.getB ⟨h1,h2⟩)
     have d1:decide (1 ≤ x) = true:=by simpa using h1
     have d2:decide (x ≤ (L.length:Int)) = true:=by simpa using h2
     go_enter Try.func62,Try.ntmps62
     go_wp2_with fail
     go_ret
     rw [Hg.out]
     exact ⟨rfl,H.out⟩
   · have Hg:Hid (getB L x = false):=hid (getT_out (.inr (by omega))).2
     have d1:decide (1 ≤ x) = true:=by simpa using h1
     have d2:decide (x ≤ (L.length:Int)) = false:=by simpa using h2
     go_enter Try.func62,Try.ntmps62
     go_wp2_with fail
     go_ret
     rw [Hg.out]
     exact ⟨rfl,H.out⟩
 · have Hg:Hid (getB L x = false):=hid (getT_out (.inl (by omega))).2
   have d1:decide (1 ≤ x) = false:=by simpa using h1
   go_enter Try.func62,Try.ntmps62
   go_wp2_with fail
   go_ret
   rw [Hg.out]
   exact ⟨rfl,H.out⟩

set_option maxRecDepth 100000 in
set_option maxHeartbeats 4000000 in
theorem rnew19_calls (h s r v:Int) (hd:Hd W w (RSto b L m::Rs)) :
 Calls Try.prog 35 #[.pointer (some ⟨b,0,none⟩),.agg #[.int .i64 h,.int .i64 s,.int .i64 r,.int .i64 v]] w fun e' w' =>
  if getB L h = true ∧ getB L s = true ∧ getB L r = true then ∃ p,e' = .returned (.tuple #[.pointer (some ⟨p,0,none⟩),.int .i64 0]) ∧ Hd W w' (RSto b L m::Blk p (rsO b (se0 h s r v) (.slice none 0 0))::Rs)
  else e' = .returned (.tuple #[.pointer none,.int .i64 1]) ∧ Hd W w' (RSto b L m::Rs):=by
 have H:=hid (hd.bxk w.heap.size rfl (o:=.cells #[.int .i64 h,.int .i64 s,.int .i64 r,.int .i64 v] 80 (0,0)))
 clear hd
 cases g1:getB L h
 · suffices hh:Calls Try.prog 35 #[.pointer (some ⟨b,0,none⟩),.agg #[.int .i64 h,.int .i64 s,.int .i64 r,.int .i64 v]] w (fun e' w'=>e' = .returned (.tuple #[.pointer none,.int .i64 1]) ∧ Hd W w' (RSto b L m::Rs)) from hh.mono fun e' w' h'=>by rw [if_neg (by rintro ⟨e,_⟩; cases e)]; exact h'
   have Gh:=hid g1
   clear g1
   go_enter Try.func35,Try.ntmps35
   have hk:=Hd.nthk 1 H.out rfl
   have c0:=(cell_of_heap hk 0).trans (show _ = some (.int .i64 h) from rfl)
   have c1:=(cell_of_heap hk 1).trans (show _ = some (.int .i64 s) from rfl)
   have c2:=(cell_of_heap hk 2).trans (show _ = some (.int .i64 r) from rfl)
   have c3:=(cell_of_heap hk 3).trans (show _ = some (.int .i64 v) from rfl)
   have cs:=(Array.getElem?_eq_some_iff.1 hk).1
   clear hk
   go_wp2_with fail
   refine (rthere19_c h H.out).mono ?_
   rw [Gh.out]
   rintro e w1 ⟨rfl,h1⟩
   clear H c0 c1 c2 c3 cs
   have H:=hid h1
   clear h1
   have hk:=Hd.nthk 1 H.out rfl
   have c0:=(cell_of_heap hk 0).trans (show _ = some (.int .i64 h) from rfl)
   have c1:=(cell_of_heap hk 1).trans (show _ = some (.int .i64 s) from rfl)
   have c2:=(cell_of_heap hk 2).trans (show _ = some (.int .i64 r) from rfl)
   have c3:=(cell_of_heap hk 3).trans (show _ = some (.int .i64 v) from rfl)
   have cs:=(Array.getElem?_eq_some_iff.1 hk).1
   clear hk
   go_wp2_with fail
   go_ret2
   exact ⟨rfl,H.out.un2⟩
 cases g2:getB L s
 · suffices hh:Calls Try.prog 35 #[.pointer (some ⟨b,0,none⟩),.agg #[.int .i64 h,.int .i64 s,.int .i64 r,.int .i64 v]] w (fun e' w'=>e' = .returned (.tuple #[.pointer none,.int .i64 1]) ∧ Hd W w' (RSto b L m::Rs)) from hh.mono fun e' w' h'=>by rw [if_neg (by rintro ⟨_,e,_⟩; cases e)]; exact h'
   have Gh:=hid g1
   have Gs:=hid g2
   clear g1 g2
   go_enter Try.func35,Try.ntmps35
   have hk:=Hd.nthk 1 H.out rfl
   have c0:=(cell_of_heap hk 0).trans (show _ = some (.int .i64 h) from rfl)
   have c1:=(cell_of_heap hk 1).trans (show _ = some (.int .i64 s) from rfl)
   have c2:=(cell_of_heap hk 2).trans (show _ = some (.int .i64 r) from rfl)
   have c3:=(cell_of_heap hk 3).trans (show _ = some (.int .i64 v) from rfl)
   have cs:=(Array.getElem?_eq_some_iff.1 hk).1
   clear hk
   go_wp2_with fail
   refine (rthere19_c h H.out).mono ?_
   rw [Gh.out]
   rintro e w1 ⟨rfl,h1⟩
   clear H c0 c1 c2 c3 cs
   have H:=hid h1
   clear h1
   have hk:=Hd.nthk 1 H.out rfl
   have c0:=(cell_of_heap hk 0).trans (show _ = some (.int .i64 h) from rfl)
   have c1:=(cell_of_heap hk 1).trans (show _ = some (.int .i64 s) from rfl)
   have c2:=(cell_of_heap hk 2).trans (show _ = some (.int .i64 r) from rfl)
   have c3:=(cell_of_heap hk 3).trans (show _ = some (.int .i64 v) from rfl)
   have cs:=(Array.getElem?_eq_some_iff.1 hk).1
   clear hk
   go_wp2_with fail
   refine (rthere19_c s H.out).mono ?_
   rw [Gs.out]
   rintro e w2 ⟨rfl,h1⟩
   clear H c0 c1 c2 c3 cs
   have H:=hid h1
   clear h1
   have hk:=Hd.nthk 1 H.out rfl
   have c0:=(cell_of_heap hk 0).trans (show _ = some (.int .i64 h) from rfl)
   have c1:=(cell_of_heap hk 1).trans (show _ = some (.int .i64 s) from rfl)
   have c2:=(cell_of_heap hk 2).trans (show _ = some (.int .i64 r) from rfl)
   have c3:=(cell_of_heap hk 3).trans (show _ = some (.int .i64 v) from rfl)
   have cs:=(Array.getElem?_eq_some_iff.1 hk).1
   clear hk
   go_wp2_with fail
   go_ret2
   exact ⟨rfl,H.out.un2⟩
 cases g3:getB L r
 · suffices hh:Calls Try.prog 35 #[.pointer (some ⟨b,0,none⟩),.agg #[.int .i64 h,.int .i64 s,.int .i64 r,.int .i64 v]] w (fun e' w'=>e' = .returned (.tuple #[.pointer none,.int .i64 1]) ∧ Hd W w' (RSto b L m::Rs)) from hh.mono fun e' w' h'=>by rw [if_neg (by rintro ⟨_,_,e⟩; cases e)]; exact h'
   have Gh:=hid g1
   have Gs:=hid g2
   have Gr:=hid g3
   clear g1 g2 g3
   go_enter Try.func35,Try.ntmps35
   have hk:=Hd.nthk 1 H.out rfl
   have c0:=(cell_of_heap hk 0).trans (show _ = some (.int .i64 h) from rfl)
   have c1:=(cell_of_heap hk 1).trans (show _ = some (.int .i64 s) from rfl)
   have c2:=(cell_of_heap hk 2).trans (show _ = some (.int .i64 r) from rfl)
   have c3:=(cell_of_heap hk 3).trans (show _ = some (.int .i64 v) from rfl)
   have cs:=(Array.getElem?_eq_some_iff.1 hk).1
   clear hk
   go_wp2_with fail
   refine (rthere19_c h H.out).mono ?_
   rw [Gh.out]
   rintro e w1 ⟨rfl,h1⟩
   clear H c0 c1 c2 c3 cs
   have H:=hid h1
   clear h1
   have hk:=Hd.nthk 1 H.out rfl
   have c0:=(cell_of_heap hk 0).trans (show _ = some (.int .i64 h) from rfl)
   have c1:=(cell_of_heap hk 1).trans (show _ = some (.int .i64 s) from rfl)
   have c2:=(cell_of_heap hk 2).trans (show _ = some (.int .i64 r) from rfl)
   have c3:=(cell_of_heap hk 3).trans (show _ = some (.int .i64 v) from rfl)
   have cs:=(Array.getElem?_eq_some_iff.1 hk).1
   clear hk
   go_wp2_with fail
   refine (rthere19_c s H.out).mono ?_
   rw [Gs.out]
   rintro e w2 ⟨rfl,h1⟩
   clear H c0 c1 c2 c3 cs
   have H:=hid h1
   clear h1
   have hk:=Hd.nthk 1 H.out rfl
   have c0:=(cell_of_heap hk 0).trans (show _ = some (.int .i64 h) from rfl)
   have c1:=(cell_of_heap hk 1).trans (show _ = some (.int .i64 s) from rfl)
   have c2:=(cell_of_heap hk 2).trans (show _ = some (.int .i64 r) from rfl)
   have c3:=(cell_of_heap hk 3).trans (show _ = some (.int .i64 v) from rfl)
   have cs:=(Array.getElem?_eq_some_iff.1 hk).1
   clear hk
   go_wp2_with fail
   refine (rthere19_c r H.out).mono ?_
   rw [Gr.out]
   rintro e w3 ⟨rfl,h1⟩
   clear H c0 c1 c2 c3 cs
   have H:=hid h1
   clear h1
   have hk:=Hd.nthk 1 H.out rfl
   have c0:=(cell_of_heap hk 0).trans (show _ = some (.int .i64 h) from rfl)
   have c1:=(cell_of_heap hk 1).trans (show _ = some (.int .i64 s) from rfl)
   have c2:=(cell_of_heap hk 2).trans (show _ = some (.int .i64 r) from rfl)
   have c3:=(cell_of_heap hk 3).trans (show _ = some (.int .i64 v) from rfl)
   have cs:=(Array.getElem?_eq_some_iff.1 hk).1
   clear hk
   go_wp2_with fail
   go_ret2
   exact ⟨rfl,H.out.un2⟩
 suffices hh:Calls Try.prog 35 #[.pointer (some ⟨b,0,none⟩),.agg #[.int .i64 h,.int .i64 s,.int .i64 r,.int .i64 v]] w (fun e' w'=>∃ p,e' = .returned (.tuple #[.pointer (some ⟨p,0,none⟩),.int .i64 0]) ∧ Hd W w' (RSto b L m::Blk p (rsO b (se0 h s r v) (.slice none 0 0))::Rs)) from hh.mono fun e' w' h'=>by rw [if_pos ⟨rfl,rfl,rfl⟩]; exact h'
 have Gh:=hid g1
 have Gs:=hid g2
 have Gr:=hid g3
 clear g1 g2 g3
 go_enter Try.func35,Try.ntmps35
 have hk:=Hd.nthk 1 H.out rfl
 have c0:=(cell_of_heap hk 0).trans (show _ = some (.int .i64 h) from rfl)
 have c1:=(cell_of_heap hk 1).trans (show _ = some (.int .i64 s) from rfl)
 have c2:=(cell_of_heap hk 2).trans (show _ = some (.int .i64 r) from rfl)
 have c3:=(cell_of_heap hk 3).trans (show _ = some (.int .i64 v) from rfl)
 have cs:=(Array.getElem?_eq_some_iff.1 hk).1
 clear hk
 go_wp2_with fail
 refine (rthere19_c h H.out).mono ?_
 rw [Gh.out]
 rintro e w1 ⟨rfl,h1⟩
 clear H c0 c1 c2 c3 cs
 have H:=hid h1
 clear h1
 have hk:=Hd.nthk 1 H.out rfl
 have c0:=(cell_of_heap hk 0).trans (show _ = some (.int .i64 h) from rfl)
 have c1:=(cell_of_heap hk 1).trans (show _ = some (.int .i64 s) from rfl)
 have c2:=(cell_of_heap hk 2).trans (show _ = some (.int .i64 r) from rfl)
 have c3:=(cell_of_heap hk 3).trans (show _ = some (.int .i64 v) from rfl)
 have cs:=(Array.getElem?_eq_some_iff.1 hk).1
 clear hk
 go_wp2_with fail
 refine (rthere19_c s H.out).mono ?_
 rw [Gs.out]
 rintro e w2 ⟨rfl,h1⟩
 clear H c0 c1 c2 c3 cs
 have H:=hid h1
 clear h1
 have hk:=Hd.nthk 1 H.out rfl
 have c0:=(cell_of_heap hk 0).trans (show _ = some (.int .i64 h) from rfl)
 have c1:=(cell_of_heap hk 1).trans (show _ = some (.int .i64 s) from rfl)
 have c2:=(cell_of_heap hk 2).trans (show _ = some (.int .i64 r) from rfl)
 have c3:=(cell_of_heap hk 3).trans (show _ = some (.int .i64 v) from rfl)
 have cs:=(Array.getElem?_eq_some_iff.1 hk).1
 clear hk
 go_wp2_with fail
 refine (rthere19_c r H.out).mono ?_
 rw [Gr.out]
 rintro e w3 ⟨rfl,h1⟩
 clear H c0 c1 c2 c3 cs
 have H:=hid h1
 clear h1
 have hk:=Hd.nthk 1 H.out rfl
 have c0:=(cell_of_heap hk 0).trans (show _ = some (.int .i64 h) from rfl)
 have c1:=(cell_of_heap hk 1).trans (show _ = some (.int .i64 s) from rfl)
 have c2:=(cell_of_heap hk 2).trans (show _ = some (.int .i64 r) from rfl)
 have c3:=(cell_of_heap hk 3).trans (show _ = some (.int .i64 v) from rfl)
 have cs:=(Array.getElem?_eq_some_iff.1 hk).1
 clear hk
 go_wp2_with fail
 have HB:=hid ((H.out.bxk w3.heap.size rfl (o:=.cells #[.pointer (some ⟨b,0,none⟩),.int .i64 h,.int .i64 s,.int .i64 r,.int .i64 v,.int .i64 s,.int .i64 0,.int .i64 0,.int .i64 r,.int .i64 0,.int .u64 0,.int .u64 0,.slice none 0 0] 94 (0,0))))
 go_ret2
 exact ⟨_,rfl,(HB.out.front 2 rfl).drop⟩

/-- AN APPEND of a row that lies somewhere. -/
theorem append_at {ops:Array Oper} {rest:List Oper} {o:Oper} {a:Act} {Q:Exit → Act → World → Prop} {T E n bytes c:Nat} {ad:Option Addr} {zs ys:List Int} {inf:TypeInfo} {g0 cap0:Nat}
 (hgd:o.guard = none) (ht:Try.prog.underlying T = some (.slice E)) (hi:Try.prog.info? E = some inf) (hz:inf.zero = some (.int .i64 0)) (hsize:inf.size = 1) (hby:inf.bytes = bytes) (hb8:bytes ≤ 8)
 (s x:Operand) (ho:o.op = .call { callee:=.builtin .append,args:=#[s,x],argTypes:=#[T,T] }) (h:Hd W w (RowR E 1 (.slice (some ⟨g0,0,none⟩) n cap0) n (nums .i64 zs)::Rs)) (hs:a.eval s = .slice (some ⟨g0,0,none⟩) n cap0) (hnc:n ≤ cap0) (hx:a.eval x = .slice ad ys.length c) (hys:IntsAt w ad ys) (hn:n + ys.length ≤ 100000)
 (hK:∀ g' cap w',Hd W w' (RowR E 1 (.slice (some ⟨g',0,none⟩) (n + ys.length) cap) (n + ys.length) (nums .i64 (zs ++ ys))::Rs) → wpList Try.prog ops Q rest (a.put o.dst (.slice (some ⟨g',0,none⟩) (n + ys.length) cap)) w') :
 wpList Try.prog ops Q (o::rest) a w:=by
 rcases hys with rfl | ⟨g1,o1,rfl,hc⟩
 · refine wpList_plain hgd fun K hK'=>?_
   have hrun:(Builtin.append_ #[T,T] o.type #[.slice (some ⟨g0,0,none⟩) n cap0,.slice ad 0 c]).run Try.prog w = .ok (.slice (some ⟨g0,0,none⟩) n cap0) w:=by
    cases ad with
    | none=>simp [Builtin.append_,run_underlying ht,sizeOf,typeInfo,hi,Builtin.lenOf,Builtin.firstCells,hnc,storeCells]
    | some a=>simp [Builtin.append_,run_underlying ht,sizeOf,typeInfo,hi,Builtin.lenOf,Builtin.firstCells,hnc,storeCells,loadCells,go_sem]
   simp only [List.length_nil] at hx
   unfold Oper.wp
   simp [execOp,ho,resolve,invoke,builtin,hs,hx,hrun,Result.andThen]
   exact hK' _ _ (by simpa using hK g0 cap0 w (by simpa using h))
 · by_cases h0:ys = []
   · subst h0
     refine wpList_plain hgd fun K hK'=>?_
     have hrun:(Builtin.append_ #[T,T] o.type #[.slice (some ⟨g0,0,none⟩) n cap0,.slice (some ⟨g1,o1,none⟩) 0 c]).run Try.prog w = .ok (.slice (some ⟨g0,0,none⟩) n cap0) w:=by
      simp [Builtin.append_,run_underlying ht,sizeOf,typeInfo,hi,Builtin.lenOf,Builtin.firstCells,hnc,storeCells,loadCells,go_sem]
     simp only [List.length_nil] at hx
     unfold Oper.wp
     simp [execOp,ho,resolve,invoke,builtin,hs,hx,hrun,Result.andThen]
     exact hK' _ _ (by simpa using hK g0 cap0 w (by simpa using h))
   · have hm:0 < ys.length:=List.length_pos_iff.2 h0
     refine wpList_append_lies _ hgd s x T ho 0 E inf (.int .i64 0) 1 bytes ht hi hz hsize hby rfl (by decide) _ n _ hs h.owns ⟨g1,o1,none⟩ ys.length c (nums .i64 ys) hx (by simp [nums]) (fun j u hj=>?_) (by intro u hu; simp only [nums,List.mem_map] at hu; obtain ⟨z,_,rfl⟩:=hu; rfl) hm (by simp only [maxLen]; omega) ?_ (Nat.zero_le _) _ rfl ?_
     · simp only [nums,List.getElem?_map,Option.map_eq_some_iff] at hj
       obtain ⟨z,hz1,rfl⟩:=hj
       have hjl:=(List.getElem?_eq_some_iff.1 hz1).1
       have:=hc j hjl
       rw [List.getD_eq_getElem?_getD,hz1] at this
       rw [show ((⟨g1,o1,none⟩:Addr).add j) = ⟨g1,o1 + j,none⟩ by simp [Addr.add_lit]]
       exact this
     · have:(n + ys.length) * bytes ≤ (n + ys.length) * 8:=Nat.mul_le_mul_left _ hb8
       omega
     · intro g2 cap w' ho' hg hgg _
       refine hK g2 cap w' ?_
       have:=h.grown ho' hg hgg
       rw [show nums .i64 (zs ++ ys) = nums .i64 zs ++ nums .i64 ys by simp [nums]]
       exact this

end
end Go.Proofs.Ytpcfmafokkffgaa
