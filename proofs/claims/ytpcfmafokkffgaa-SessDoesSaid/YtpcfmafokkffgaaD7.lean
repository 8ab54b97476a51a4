/-
  Walks and laws that the proof stands on, one behind another: Aead SessP SessA SessC SessB. For every input.
-/
import Derived.Test.YtpcfmafokkffgaaD3
import Derived.Test.YtpcfmafokkffgaaD5
import Derived.Test.YtpcfmafokkffgaaD6
namespace Go.Proofs.Ytpcfmafokkffgaa
open Go.RowKit

set_option maxRecDepth 100000 in
set_option maxHeartbeats 1000000 in
theorem seal_calls {W w:World} {Rs:List Res} {b:Nat} {L:List T} {m:Int} (k n c d:Int) (h:Hd W w (Sto b L m::Rs)) :
 Calls Try.prog 84 #[.pointer (some ⟨b,0,none⟩),.int .i64 k,.int .u64 n,.int .i64 c,.int .i64 d] w fun e w'=>e = .returned (.tuple #[.int .i64 (put m L (seaT k n c d)).1,.int .i64 (put m L (seaT k n c d)).2.1]) ∧ Hd W w' (Sto b (put m L (seaT k n c d)).2.2 m::Rs):=by
 obtain ⟨r1,r2,L2,hq⟩:∃ r1 r2 L2,put m L (seaT k n c d) = (r1,r2,L2):=⟨_,_,_,rfl⟩
 rw [hq]
 have Hq:=hid hq
 have H:=hid h
 clear hq h
 go_enter Try.func84,Try.ntmps84
 go_wp2_with fail
 refine (put_c 10 ⟨#[]⟩ n k c d Hq (by first | exact H.out | exact H.out.al | exact H.out.al.al | exact H.out.al.al.al | exact H.out.al.al.al.al)).mono ?_
 rintro e w1 ⟨rfl,h1⟩
 replace H:=hid h1
 clear h1
 go_wp2_with fail
 go_ret2
 exact ⟨rfl,H.out⟩

theorem seal_c {W w:World} {Rs:List Res} {b:Nat} {L:List T} {m:Int} (k n c d:Int) {r1 r2:Int} {L2:List T} (hq:Hid (put m L (seaT k n c d) = (r1,r2,L2))) (h:Hd W w (Sto b L m::Rs)) :
 Calls Try.prog 84 #[.pointer (some ⟨b,0,none⟩),.int .i64 k,.int .u64 n,.int .i64 c,.int .i64 d] w fun e w'=>e = .returned (.tuple #[.int .i64 r1,.int .i64 r2]) ∧ Hd W w' (Sto b L2 m::Rs):=by
 have:=seal_calls k n c d h
 rw [hq.out] at this
 exact this

theorem open5_eq {L:List T} {k n b s:Int} (g:Good L):open5 L k n b s =
 if getB L k = true ∧ getB L b = true ∧ getB L s = true then
  if (getT L s).k = 10 ∧ (getT L s).a = k ∧ (getT L s).n = n ∧ (getT L s).b = b then ((getT L s).c,0) else (0,9)
 else (0,1):=by
 unfold open5
 by_cases h:getT L s = seaT k n b (getT L s).c
 · rw [if_pos h,if_pos ((sea_iff g).1 h)]
 · rw [if_neg h,if_neg fun hh=>h ((sea_iff g).2 hh)]

theorem open5_ok {L:List T} {k n b s p:Int} (g:Good L) (h:open5 L k n b s = (p,0)):In L p:=by
 unfold open5 at h
 split at h
 · rename_i h1
   split at h
   · rename_i h2
     simp only [Prod.mk.injEq,and_true] at h
     by_cases hs:1 ≤ s ∧ s ≤ L.length
     · have ha:=at_getT hs.1 hs.2
       rw [h2] at ha
       have:=ha.part g (p:=p) (by rw [← h]; simp [seaT,T.parts,many])
       exact ⟨this.1,by have:=ha.hi; omega⟩
     · have:=(getT_out (L:=L) (x:=s) (by omega)).2
       rw [this] at h1
       exact Bool.noConfusion h1.2.2
   · simp at h
 · simp at h

set_option maxHeartbeats 1000000 in
theorem ais_c {W w:World} {Rs:List Res} {b:Nat} {L:List T} {m:Int} (x:Int) (h:Hd W w (Sto b L m::Rs)) :
 Calls Try.prog 83 #[.pointer (some ⟨b,0,none⟩),.int .i64 x] w fun e w'=>e = .returned (.bool (getB L x)) ∧ Hd W w' (Sto b L m::Rs):=by
 have H:=hid h
 clear h
 obtain ⟨k,s,n,a,b2,c,hq⟩:∃ k s n a b c,getT L x = ⟨k,s,n,a,b,c⟩:=⟨_,_,_,_,_,_,rfl⟩
 have Ht:=hid hq
 clear hq
 go_enter Try.func83,Try.ntmps83
 go_wp2_with fail
 refine (get_c x H.out).mono ?_
 rw [Ht.out]
 simp only [T.val]
 rintro e w1 ⟨rfl,h1⟩
 have H1:=hid h1
 clear h1 H
 go_wp2_with fail
 go_ret
 exact ⟨rfl,H1.out.al⟩

set_option maxRecDepth 100000 in
set_option maxHeartbeats 4000000 in
theorem aopen_calls {W w:World} {Rs:List Res} {b:Nat} {L:List T} {m:Int} (x n y z:Int) (h:Hd W w (Sto b L m::Rs)) :
 Calls Try.prog 90 #[.pointer (some ⟨b,0,none⟩),.int .i64 x,.int .u64 n,.int .i64 y,.int .i64 z] w fun e w'=>e = .returned (.tuple #[.int .i64 (open5 L x n y z).1,.int .i64 (open5 L x n y z).2]) ∧ Hd W w' (Sto b L m::Rs):=by
 obtain ⟨lb,db,mb,lc,dc,hs⟩:=h.sto
 have hgd:=hs.good
 have HG:=hid hgd
 clear hs hgd
 have H:=hid h
 clear h
 obtain ⟨i1,hq⟩:∃ i1,getB L x = i1:=⟨_,rfl⟩
 have Hi1:=hid hq
 clear hq
 obtain ⟨i2,hq⟩:∃ i2,getB L y = i2:=⟨_,rfl⟩
 have Hi2:=hid hq
 clear hq
 obtain ⟨i3,hq⟩:∃ i3,getB L z = i3:=⟨_,rfl⟩
 have Hi3:=hid hq
 clear hq
 obtain ⟨tk,ts,tn,ta,tb,tc,hq⟩:∃ tk ts tn ta tb tc,getT L z = ⟨tk,ts,tn,ta,tb,tc⟩:=⟨_,_,_,_,_,_,rfl⟩
 have Ht:=hid hq
 clear hq
 obtain ⟨R,hR⟩:∃ R,open5 L x n y z = R:=⟨_,rfl⟩
 rw [hR]
 have HR:=hid hR
 clear hR
 rcases i1 with _ | _
 · skip
   go_enter Try.func90,Try.ntmps90
   go_wp2_with fail
   refine (ais_c x (by first | exact H.out | exact H.out.al | exact H.out.al.al | exact H.out.al.al.al | exact H.out.al.al.al.al)).mono ?_
   rw [Hi1.out]
   rintro e w1 ⟨rfl,h1⟩
   replace H:=hid h1
   clear h1
   go_wp2_with fail
   go_ret2
   have hR:=HR.out
   rw [open5_eq HG.out] at hR
   simp [Hi1.out] at hR
   subst hR
   exact ⟨rfl,(by first | exact H.out | exact H.out.al | exact H.out.al.al | exact H.out.al.al.al | exact H.out.al.al.al.al)⟩
 rcases i2 with _ | _
 · skip
   go_enter Try.func90,Try.ntmps90
   go_wp2_with fail
   refine (ais_c x (by first | exact H.out | exact H.out.al | exact H.out.al.al | exact H.out.al.al.al | exact H.out.al.al.al.al)).mono ?_
   rw [Hi1.out]
   rintro e w2 ⟨rfl,h1⟩
   replace H:=hid h1
   clear h1
   go_wp2_with fail
   refine (ais_c y (by first | exact H.out | exact H.out.al | exact H.out.al.al | exact H.out.al.al.al | exact H.out.al.al.al.al)).mono ?_
   rw [Hi2.out]
   rintro e w3 ⟨rfl,h1⟩
   replace H:=hid h1
   clear h1
   go_wp2_with fail
   go_ret2
   have hR:=HR.out
   rw [open5_eq HG.out] at hR
   simp [Hi2.out] at hR
   subst hR
   exact ⟨rfl,(by first | exact H.out | exact H.out.al | exact H.out.al.al | exact H.out.al.al.al | exact H.out.al.al.al.al)⟩
 rcases i3 with _ | _
 · skip
   go_enter Try.func90,Try.ntmps90
   go_wp2_with fail
   refine (ais_c x (by first | exact H.out | exact H.out.al | exact H.out.al.al | exact H.out.al.al.al | exact H.out.al.al.al.al)).mono ?_
   rw [Hi1.out]
   rintro e w4 ⟨rfl,h1⟩
   replace H:=hid h1
   clear h1
   go_wp2_with fail
   refine (ais_c y (by first | exact H.out | exact H.out.al | exact H.out.al.al | exact H.out.al.al.al | exact H.out.al.al.al.al)).mono ?_
   rw [Hi2.out]
   rintro e w5 ⟨rfl,h1⟩
   replace H:=hid h1
   clear h1
   go_wp2_with fail
   refine (ais_c z (by first | exact H.out | exact H.out.al | exact H.out.al.al | exact H.out.al.al.al | exact H.out.al.al.al.al)).mono ?_
   rw [Hi3.out]
   rintro e w6 ⟨rfl,h1⟩
   replace H:=hid h1
   clear h1
   go_wp2_with fail
   go_ret2
   have hR:=HR.out
   rw [open5_eq HG.out] at hR
   simp [Hi3.out] at hR
   subst hR
   exact ⟨rfl,(by first | exact H.out | exact H.out.al | exact H.out.al.al | exact H.out.al.al.al | exact H.out.al.al.al.al)⟩
 by_cases hk:tk = 10
 case neg =>
  have dK0:(tk != 10) = true:=by simp [hk]
  have K:=hid hk
  clear hk
  go_enter Try.func90,Try.ntmps90
  go_wp2_with fail
  refine (ais_c x (by first | exact H.out | exact H.out.al | exact H.out.al.al | exact H.out.al.al.al | exact H.out.al.al.al.al)).mono ?_
  rw [Hi1.out]
  rintro e w7 ⟨rfl,h1⟩
  replace H:=hid h1
  clear h1
  go_wp2_with fail
  refine (ais_c y (by first | exact H.out | exact H.out.al | exact H.out.al.al | exact H.out.al.al.al | exact H.out.al.al.al.al)).mono ?_
  rw [Hi2.out]
  rintro e w8 ⟨rfl,h1⟩
  replace H:=hid h1
  clear h1
  go_wp2_with fail
  refine (ais_c z (by first | exact H.out | exact H.out.al | exact H.out.al.al | exact H.out.al.al.al | exact H.out.al.al.al.al)).mono ?_
  rw [Hi3.out]
  rintro e w9 ⟨rfl,h1⟩
  replace H:=hid h1
  clear h1
  go_wp2_with fail
  refine (get_c z (by first | exact H.out | exact H.out.al | exact H.out.al.al | exact H.out.al.al.al | exact H.out.al.al.al.al)).mono ?_
  rw [Ht.out,Hi3.out]
  simp only [T.val]
  rintro e w10 ⟨rfl,h1⟩
  replace H:=hid h1
  clear h1
  go_wp2_with fail
  go_ret2
  have hR:=HR.out
  rw [open5_eq HG.out] at hR
  simp [Hi1.out,Hi2.out,Hi3.out,Ht.out,K.out] at hR
  subst hR
  exact ⟨rfl,(by first | exact H.out | exact H.out.al | exact H.out.al.al | exact H.out.al.al.al | exact H.out.al.al.al.al)⟩
 have dK0:(tk != 10) = false:=by simp [hk]
 have K:=hid hk
 clear hk
 by_cases hk:ta = x
 case neg =>
  have dA0:(ta != x) = true:=by simp [hk]
  have A:=hid hk
  clear hk
  go_enter Try.func90,Try.ntmps90
  go_wp2_with fail
  refine (ais_c x (by first | exact H.out | exact H.out.al | exact H.out.al.al | exact H.out.al.al.al | exact H.out.al.al.al.al)).mono ?_
  rw [Hi1.out]
  rintro e w11 ⟨rfl,h1⟩
  replace H:=hid h1
  clear h1
  go_wp2_with fail
  refine (ais_c y (by first | exact H.out | exact H.out.al | exact H.out.al.al | exact H.out.al.al.al | exact H.out.al.al.al.al)).mono ?_
  rw [Hi2.out]
  rintro e w12 ⟨rfl,h1⟩
  replace H:=hid h1
  clear h1
  go_wp2_with fail
  refine (ais_c z (by first | exact H.out | exact H.out.al | exact H.out.al.al | exact H.out.al.al.al | exact H.out.al.al.al.al)).mono ?_
  rw [Hi3.out]
  rintro e w13 ⟨rfl,h1⟩
  replace H:=hid h1
  clear h1
  go_wp2_with fail
  refine (get_c z (by first | exact H.out | exact H.out.al | exact H.out.al.al | exact H.out.al.al.al | exact H.out.al.al.al.al)).mono ?_
  rw [Ht.out,Hi3.out]
  simp only [T.val]
  rintro e w14 ⟨rfl,h1⟩
  replace H:=hid h1
  clear h1
  go_wp2_with fail
  go_ret2
  have hR:=HR.out
  rw [open5_eq HG.out] at hR
  simp [Hi1.out,Hi2.out,Hi3.out,Ht.out,K.out,A.out] at hR
  subst hR
  exact ⟨rfl,(by first | exact H.out | exact H.out.al | exact H.out.al.al | exact H.out.al.al.al | exact H.out.al.al.al.al)⟩
 have dA0:(ta != x) = false:=by simp [hk]
 have A:=hid hk
 clear hk
 by_cases hk:tn = n
 case neg =>
  have dM0:(tn != n) = true:=by simp [hk]
  have M:=hid hk
  clear hk
  go_enter Try.func90,Try.ntmps90
  go_wp2_with fail
  refine (ais_c x (by first | exact H.out | exact H.out.al | exact H.out.al.al | exact H.out.al.al.al | exact H.out.al.al.al.al)).mono ?_
  rw [Hi1.out]
  rintro e w15 ⟨rfl,h1⟩
  replace H:=hid h1
  clear h1
  go_wp2_with fail
  refine (ais_c y (by first | exact H.out | exact H.out.al | exact H.out.al.al | exact H.out.al.al.al | exact H.out.al.al.al.al)).mono ?_
  rw [Hi2.out]
  rintro e w16 ⟨rfl,h1⟩
  replace H:=hid h1
  clear h1
  go_wp2_with fail
  refine (ais_c z (by first | exact H.out | exact H.out.al | exact H.out.al.al | exact H.out.al.al.al | exact H.out.al.al.al.al)).mono ?_
  rw [Hi3.out]
  rintro e w17 ⟨rfl,h1⟩
  replace H:=hid h1
  clear h1
  go_wp2_with fail
  refine (get_c z (by first | exact H.out | exact H.out.al | exact H.out.al.al | exact H.out.al.al.al | exact H.out.al.al.al.al)).mono ?_
  rw [Ht.out,Hi3.out]
  simp only [T.val]
  rintro e w18 ⟨rfl,h1⟩
  replace H:=hid h1
  clear h1
  go_wp2_with fail
  go_ret2
  have hR:=HR.out
  rw [open5_eq HG.out] at hR
  simp [Hi1.out,Hi2.out,Hi3.out,Ht.out,K.out,A.out,M.out] at hR
  subst hR
  exact ⟨rfl,(by first | exact H.out | exact H.out.al | exact H.out.al.al | exact H.out.al.al.al | exact H.out.al.al.al.al)⟩
 have dM0:(tn != n) = false:=by simp [hk]
 have M:=hid hk
 clear hk
 by_cases hk:tb = y
 case neg =>
  have dB0:(tb != y) = true:=by simp [hk]
  have B:=hid hk
  clear hk
  go_enter Try.func90,Try.ntmps90
  go_wp2_with fail
  refine (ais_c x (by first | exact H.out | exact H.out.al | exact H.out.al.al | exact H.out.al.al.al | exact H.out.al.al.al.al)).mono ?_
  rw [Hi1.out]
  rintro e w19 ⟨rfl,h1⟩
  replace H:=hid h1
  clear h1
  go_wp2_with fail
  refine (ais_c y (by first | exact H.out | exact H.out.al | exact H.out.al.al | exact H.out.al.al.al | exact H.out.al.al.al.al)).mono ?_
  rw [Hi2.out]
  rintro e w20 ⟨rfl,h1⟩
  replace H:=hid h1
  clear h1
  go_wp2_with fail
  refine (ais_c z (by first | exact H.out | exact H.out.al | exact H.out.al.al | exact H.out.al.al.al | exact H.out.al.al.al.al)).mono ?_
  rw [Hi3.out]
  rintro e w21 ⟨rfl,h1⟩
  replace H:=hid h1
  clear h1
  go_wp2_with fail
  refine (get_c z (by first | exact H.out | exact H.out.al | exact H.out.al.al | exact H.out.al.al.al | exact H.out.al.al.al.al)).mono ?_
  rw [Ht.out,Hi3.out]
  simp only [T.val]
  rintro e w22 ⟨rfl,h1⟩
  replace H:=hid h1
  clear h1
  go_wp2_with fail
  go_ret2
  have hR:=HR.out
  rw [open5_eq HG.out] at hR
  simp [Hi1.out,Hi2.out,Hi3.out,Ht.out,K.out,A.out,M.out,B.out] at hR
  subst hR
  exact ⟨rfl,(by first | exact H.out | exact H.out.al | exact H.out.al.al | exact H.out.al.al.al | exact H.out.al.al.al.al)⟩
 have dB0:(tb != y) = false:=by simp [hk]
 have B:=hid hk
 clear hk
 go_enter Try.func90,Try.ntmps90
 go_wp2_with fail
 refine (ais_c x (by first | exact H.out | exact H.out.al | exact H.out.al.al | exact H.out.al.al.al | exact H.out.al.al.al.al)).mono ?_
 rw [Hi1.out]
 rintro e w23 ⟨rfl,h1⟩
 replace H:=hid h1
 clear h1
 go_wp2_with fail
 refine (ais_c y (by first | exact H.out | exact H.out.al | exact H.out.al.al | exact H.out.al.al.al | exact H.out.al.al.al.al)).mono ?_
 rw [Hi2.out]
 rintro e w24 ⟨rfl,h1⟩
 replace H:=hid h1
 clear h1
 go_wp2_with fail
 refine (ais_c z (by first | exact H.out | exact H.out.al | exact H.out.al.al | exact H.out.al.al.al | exact H.out.al.al.al.al)).mono ?_
 rw [Hi3.out]
 rintro e w25 ⟨rfl,h1⟩
 replace H:=hid h1
 clear h1
 go_wp2_with fail
 refine (get_c z (by first | exact H.out | exact H.out.al | exact H.out.al.al | exact H.out.al.al.al | exact H.out.al.al.al.al)).mono ?_
 rw [Ht.out,Hi3.out]
 simp only [T.val]
 rintro e w26 ⟨rfl,h1⟩
 replace H:=hid h1
 clear h1
 go_wp2_with fail
 go_ret2
 have hR:=HR.out
 rw [open5_eq HG.out] at hR
 simp [Hi1.out,Hi2.out,Hi3.out,Ht.out,K.out,A.out,M.out,B.out] at hR
 subst hR
 exact ⟨rfl,(by first | exact H.out | exact H.out.al | exact H.out.al.al | exact H.out.al.al.al | exact H.out.al.al.al.al)⟩

theorem aopen_c {W w:World} {Rs:List Res} {b:Nat} {L:List T} {m:Int} (x n y z:Int) {p e1:Int} (hq:Hid (open5 L x n y z = (p,e1))) (h:Hd W w (Sto b L m::Rs)) :
 Calls Try.prog 90 #[.pointer (some ⟨b,0,none⟩),.int .i64 x,.int .u64 n,.int .i64 y,.int .i64 z] w fun e w'=>e = .returned (.tuple #[.int .i64 p,.int .i64 e1]) ∧ Hd W w' (Sto b L m::Rs):=by
 have:=aopen_calls x n y z h
 rw [hq.out] at this
 exact this

set_option maxRecDepth 100000 in
set_option maxHeartbeats 4000000 in
theorem text_calls {W w:World} {Rs:List Res} {b:Nat} {L:List T} {m:Int} (x n y:Int) (s:ByteArray) (_hsz:s.size ≤ maxLen) (h:Hd W w (Sto b L m::Rs)) :
 Calls Try.prog 64 #[.pointer (some ⟨b,0,none⟩),.int .i64 x,.int .u64 n,.int .i64 y,.string s] w fun e w'=>e = .returned (.tuple #[.int .i64 (text5 m L x n y s).1,.int .i64 (text5 m L x n y s).2.1]) ∧ Hd W w' (Sto b (text5 m L x n y s).2.2 m::Rs):=by
 have H:=hid h
 clear h
 obtain ⟨i1,hq⟩:∃ i1,getB L x = i1:=⟨_,rfl⟩
 have Hi1:=hid hq
 clear hq
 obtain ⟨i2,hq⟩:∃ i2,getB L y = i2:=⟨_,rfl⟩
 have Hi2:=hid hq
 clear hq
 obtain ⟨R,hR⟩:∃ R,text5 m L x n y s = R:=⟨_,rfl⟩
 rw [hR]
 have HR:=hid hR
 clear hR
 rcases i1 with _ | _
 · skip
   go_enter Try.func64,Try.ntmps64
   go_wp2_with fail
   refine (ais_c x (by first | exact H.out | exact H.out.al | exact H.out.al.al | exact H.out.al.al.al | exact H.out.al.al.al.al)).mono ?_
   rw [Hi1.out]
   rintro e w1 ⟨rfl,h1⟩
   replace H:=hid h1
   clear h1
   go_wp2_with fail
   go_ret2
   have hR:=HR.out
   simp [text5,Hi1.out] at hR
   subst hR
   exact ⟨rfl,(by first | exact H.out | exact H.out.al | exact H.out.al.al | exact H.out.al.al.al | exact H.out.al.al.al.al)⟩
 rcases i2 with _ | _
 · skip
   go_enter Try.func64,Try.ntmps64
   go_wp2_with fail
   refine (ais_c x (by first | exact H.out | exact H.out.al | exact H.out.al.al | exact H.out.al.al.al | exact H.out.al.al.al.al)).mono ?_
   rw [Hi1.out]
   rintro e w2 ⟨rfl,h1⟩
   replace H:=hid h1
   clear h1
   go_wp2_with fail
   refine (ais_c y (by first | exact H.out | exact H.out.al | exact H.out.al.al | exact H.out.al.al.al | exact H.out.al.al.al.al)).mono ?_
   rw [Hi2.out]
   rintro e w3 ⟨rfl,h1⟩
   replace H:=hid h1
   clear h1
   go_wp2_with fail
   go_ret2
   have hR:=HR.out
   simp [text5,Hi2.out] at hR
   subst hR
   exact ⟨rfl,(by first | exact H.out | exact H.out.al | exact H.out.al.al | exact H.out.al.al.al | exact H.out.al.al.al.al)⟩
 go_enter Try.func64,Try.ntmps64
 go_wp2_with fail
 refine (ais_c x (by first | exact H.out | exact H.out.al | exact H.out.al.al | exact H.out.al.al.al | exact H.out.al.al.al.al)).mono ?_
 rw [Hi1.out]
 rintro e w4 ⟨rfl,h1⟩
 replace H:=hid h1
 clear h1
 go_wp2_with fail
 refine (ais_c y (by first | exact H.out | exact H.out.al | exact H.out.al.al | exact H.out.al.al.al | exact H.out.al.al.al.al)).mono ?_
 rw [Hi2.out]
 rintro e w5 ⟨rfl,h1⟩
 replace H:=hid h1
 clear h1
 obtain ⟨r1,r2,L2,hq⟩:∃ r1 r2 L2,put m L (txtT s) = (r1,r2,L2):=⟨_,_,_,rfl⟩
 have Hq1:=hid hq
 clear hq
 go_wp2_with fail
 refine (put_c 1 s 0 0 0 0 Hq1 (by first | exact H.out | exact H.out.al | exact H.out.al.al | exact H.out.al.al.al | exact H.out.al.al.al.al)).mono ?_
 rintro e w6 ⟨rfl,h1⟩
 replace H:=hid h1
 clear h1
 by_cases hk:r2 = 0
 case neg =>
  have dE10:(r2 != 0) = true:=by simp [hk]
  have E1:=hid hk
  clear hk
  go_wp2_with fail
  go_ret2
  have hR:=HR.out
  simp [text5,Hi1.out,Hi2.out,Hq1.out,E1.out] at hR
  subst hR
  exact ⟨rfl,(by first | exact H.out | exact H.out.al | exact H.out.al.al | exact H.out.al.al.al | exact H.out.al.al.al.al)⟩
 have dE10:(r2 != 0) = false:=by simp [hk]
 have E1:=hid hk
 clear hk
 obtain ⟨s1,s2,L3,hq⟩:∃ s1 s2 L3,put m L2 (seaT x n y r1) = (s1,s2,L3):=⟨_,_,_,rfl⟩
 have Hq2:=hid hq
 clear hq
 go_wp2_with fail
 refine (seal_c x n y r1 Hq2 (by first | exact H.out | exact H.out.al | exact H.out.al.al | exact H.out.al.al.al | exact H.out.al.al.al.al)).mono ?_
 rintro e w7 ⟨rfl,h1⟩
 replace H:=hid h1
 clear h1
 go_wp2_with fail
 go_ret2
 have hR:=HR.out
 simp [text5,Hi1.out,Hi2.out,Hq1.out,E1.out,Hq2.out] at hR
 subst hR
 exact ⟨rfl,(by first | exact H.out | exact H.out.al | exact H.out.al.al | exact H.out.al.al.al | exact H.out.al.al.al.al)⟩

set_option maxRecDepth 100000 in
set_option maxHeartbeats 4000000 in
theorem read_calls {W w:World} {Rs:List Res} {b:Nat} {L:List T} {m:Int} (x n y z:Int) (h:Hd W w (Sto b L m::Rs)) :
 Calls Try.prog 69 #[.pointer (some ⟨b,0,none⟩),.int .i64 x,.int .u64 n,.int .i64 y,.int .i64 z] w fun e w'=>e = .returned (.tuple #[.string (read5 L x n y z).1,.int .i64 (read5 L x n y z).2]) ∧ Hd W w' (Sto b L m::Rs):=by
 have H:=hid h
 clear h
 obtain ⟨p,e1,hq⟩:∃ p e1,open5 L x n y z = (p,e1):=⟨_,_,rfl⟩
 have Hq1:=hid hq
 clear hq
 obtain ⟨R,hR⟩:∃ R,read5 L x n y z = R:=⟨_,rfl⟩
 rw [hR]
 have HR:=hid hR
 clear hR
 by_cases hk:e1 = 0
 case neg =>
  have dE10:(e1 != 0) = true:=by simp [hk]
  have E1:=hid hk
  clear hk
  go_enter Try.func69,Try.ntmps69
  go_wp2_with fail
  refine (aopen_c x n y z Hq1 (by first | exact H.out | exact H.out.al | exact H.out.al.al | exact H.out.al.al.al | exact H.out.al.al.al.al)).mono ?_
  rintro e w1 ⟨rfl,h1⟩
  replace H:=hid h1
  clear h1
  go_wp2_with fail
  go_ret2
  have hR:=HR.out
  simp [read5,Hq1.out,E1.out] at hR
  subst hR
  exact ⟨rfl,(by first | exact H.out | exact H.out.al | exact H.out.al.al | exact H.out.al.al.al | exact H.out.al.al.al.al)⟩
 have dE10:(e1 != 0) = false:=by simp [hk]
 have E1:=hid hk
 clear hk
 obtain ⟨k,s9,n9,a,b2,c,hq⟩:∃ k s9 n9 a b2 c,getT L p = ⟨k,s9,n9,a,b2,c⟩:=⟨_,_,_,_,_,_,rfl⟩
 have Ht:=hid hq
 clear hq
 by_cases hk:k = 1
 case neg =>
  have dK0:(k != 1) = true:=by simp [hk]
  have K:=hid hk
  clear hk
  go_enter Try.func69,Try.ntmps69
  go_wp2_with fail
  refine (aopen_c x n y z Hq1 (by first | exact H.out | exact H.out.al | exact H.out.al.al | exact H.out.al.al.al | exact H.out.al.al.al.al)).mono ?_
  rintro e w2 ⟨rfl,h1⟩
  replace H:=hid h1
  clear h1
  obtain ⟨is,hi⟩:∃ is,getB L p = is:=⟨_,rfl⟩
  have Hi:=hid hi
  clear hi
  go_wp2_with fail
  refine (get_c p (by first | exact H.out | exact H.out.al | exact H.out.al.al | exact H.out.al.al.al | exact H.out.al.al.al.al)).mono ?_
  rw [Ht.out,Hi.out]
  simp only [T.val]
  rintro e w3 ⟨rfl,h1⟩
  replace H:=hid h1
  clear h1
  go_wp2_with fail
  go_ret2
  have hR:=HR.out
  simp [read5,Hq1.out,E1.out,Ht.out,K.out] at hR
  subst hR
  exact ⟨rfl,(by first | exact H.out | exact H.out.al | exact H.out.al.al | exact H.out.al.al.al | exact H.out.al.al.al.al)⟩
 have dK0:(k != 1) = false:=by simp [hk]
 have K:=hid hk
 clear hk
 go_enter Try.func69,Try.ntmps69
 go_wp2_with fail
 refine (aopen_c x n y z Hq1 (by first | exact H.out | exact H.out.al | exact H.out.al.al | exact H.out.al.al.al | exact H.out.al.al.al.al)).mono ?_
 rintro e w4 ⟨rfl,h1⟩
 replace H:=hid h1
 clear h1
 obtain ⟨is,hi⟩:∃ is,getB L p = is:=⟨_,rfl⟩
 have Hi:=hid hi
 clear hi
 go_wp2_with fail
 refine (get_c p (by first | exact H.out | exact H.out.al | exact H.out.al.al | exact H.out.al.al.al | exact H.out.al.al.al.al)).mono ?_
 rw [Ht.out,Hi.out]
 simp only [T.val]
 rintro e w5 ⟨rfl,h1⟩
 replace H:=hid h1
 clear h1
 go_wp2_with fail
 go_ret2
 have hR:=HR.out
 simp [read5,Hq1.out,E1.out,Ht.out,K.out] at hR
 subst hR
 exact ⟨rfl,(by first | exact H.out | exact H.out.al | exact H.out.al.al | exact H.out.al.al.al | exact H.out.al.al.al.al)⟩

end Go.Proofs.Ytpcfmafokkffgaa
namespace Go.Proofs.Ytpcfmafokkffgaa

/-- What it receives with. -/
structure Rc where
 ik:Int
 ie:Int
 nx:Int
 bt:Int
 es:List En

structure RcOk (y:Rc):Prop where
 w:WIn y.nx y.bt
 ws:∀ e ∈ y.es,WIn e.nx e.bt
 rises:Rises y.es
 len:y.es.length ≤ 4
 lo:0 ≤ y.ie
 hi:y.ie ≤ 1000

def now19 (m:Int) (L:List T) (y:Rc) (n:Int):Rc × Int × Int × List T :=
 if (wTake y.nx y.bt n).2 = 0 then
  (⟨y.ik,y.ie,(wTake y.nx y.bt n).1.1,(wTake y.nx y.bt n).1.2,y.es⟩,(put m L (keyT y.ik 1)).1,(put m L (keyT y.ik 1)).2.1,(put m L (keyT y.ik 1)).2.2)
 else (y,0,(wTake y.nx y.bt n).2,L)

def puts19:List En → Int → Int → Int → List Int → List En
 | es,_,_,_,[]=>es
 | es,e,x,y,k::ks=>puts19 (kPut es ⟨e,k,x,y⟩).1 (e + 1) 0 0 ks

def later19 (m:Int) (L:List T) (y:Rc) (e n:Int):Rc × Int × Int × List T :=
 if (to15 m L y.ik y.ie e).2.2.1 = 0 then
  now19 m (to15 m L y.ik y.ie e).2.2.2 ⟨(to15 m L y.ik y.ie e).1.1,(to15 m L y.ik y.ie e).1.2,0,0,puts19 y.es y.ie y.nx y.bt (to15 m L y.ik y.ie e).2.1⟩ n
 else (y,0,(to15 m L y.ik y.ie e).2.2.1,(to15 m L y.ik y.ie e).2.2.2)

def ago19 (y:Rc) (e n:Int):Rc × Int × Int :=
 if (kGet y.es e).2 = true then
  if (wTake (kGet y.es e).1.nx (kGet y.es e).1.bt n).2 = 0 then
   (⟨y.ik,y.ie,y.nx,y.bt,(kPut y.es ⟨(kGet y.es e).1.ep,(kGet y.es e).1.key,(wTake (kGet y.es e).1.nx (kGet y.es e).1.bt n).1.1,(wTake (kGet y.es e).1.nx (kGet y.es e).1.bt n).1.2⟩).1⟩,(kGet y.es e).1.key,0)
  else (y,0,(wTake (kGet y.es e).1.nx (kGet y.es e).1.bt n).2)
 else (y,0,12)

/-- One side of a session. -/
structure Se where
 ok:Int
 oe:Int
 sent:Int
 rc:Rc
 h:Int
 s:Int
 r:Int
 v:Int

structure SeOk (x:Se):Prop where
 rc:RcOk x.rc
 oe0:0 ≤ x.oe
 oe1:x.oe ≤ 1000
 s0:0 ≤ x.sent
 s1:x.sent ≤ 256

def step19 (m:Int) (L:List T) (x:Se):Int × Se × List T :=
 if (next15 m L x.ok x.oe).2.1 = 0 then (0,{ x with ok:=(next15 m L x.ok x.oe).1.1,oe:=(next15 m L x.ok x.oe).1.2,sent:=0 },(next15 m L x.ok x.oe).2.2)
 else ((next15 m L x.ok x.oe).2.1,x,(next15 m L x.ok x.oe).2.2)

/-- What is sealed with a chain, in its epoch, as the text of a number. -/
def sealW (m:Int) (L:List T) (k n h:Int) (s:ByteArray):Int × Int × List T :=
 if (put m L (keyT k 1)).2.1 = 0 then text5 m (put m L (keyT k 1)).2.2 (put m L (keyT k 1)).1 n h s else (0,(put m L (keyT k 1)).2.1,(put m L (keyT k 1)).2.2)

def seal19 (m:Int) (L:List T) (x:Se) (s:ByteArray):(Int × Int × Int × Int) × Se × List T :=
 if 1000 < (s.size:Int) then ((0,0,0,1),x,L)
 else if 256 ≤ x.sent then
  if (next15 m L x.ok x.oe).2.1 = 0 then
   if (sealW m (next15 m L x.ok x.oe).2.2 (next15 m L x.ok x.oe).1.1 0 x.h s).2.1 = 0 then
    (((next15 m L x.ok x.oe).1.2,0,(sealW m (next15 m L x.ok x.oe).2.2 (next15 m L x.ok x.oe).1.1 0 x.h s).1,0),{ x with ok:=(next15 m L x.ok x.oe).1.1,oe:=(next15 m L x.ok x.oe).1.2,sent:=1 },(sealW m (next15 m L x.ok x.oe).2.2 (next15 m L x.ok x.oe).1.1 0 x.h s).2.2)
   else ((0,0,0,(sealW m (next15 m L x.ok x.oe).2.2 (next15 m L x.ok x.oe).1.1 0 x.h s).2.1),x,(sealW m (next15 m L x.ok x.oe).2.2 (next15 m L x.ok x.oe).1.1 0 x.h s).2.2)
  else ((0,0,0,(next15 m L x.ok x.oe).2.1),x,(next15 m L x.ok x.oe).2.2)
 else if (sealW m L x.ok x.sent x.h s).2.1 = 0 then ((x.oe,x.sent,(sealW m L x.ok x.sent x.h s).1,0),{ x with sent:=x.sent + 1 },(sealW m L x.ok x.sent x.h s).2.2)
 else ((0,0,0,(sealW m L x.ok x.sent x.h s).2.1),x,(sealW m L x.ok x.sent x.h s).2.2)

/-- What a side would receive with, and the key. -/
def recv19 (m:Int) (L:List T) (y:Rc) (e n:Int):Rc × Int × Int × List T :=
 if e = y.ie then now19 m L y n else if y.ie < e then later19 m L y e n else ((ago19 y e n).1,(ago19 y e n).2.1,(ago19 y e n).2.2,L)

def open19 (m:Int) (L:List T) (x:Se) (e n c:Int):(ByteArray × Int) × Se × List T :=
 if getB L c = true ∧ 0 ≤ e ∧ 0 ≤ n ∧ n < 256 then
  if (recv19 m L x.rc e n).2.2.1 = 0 then
   if (read5 (recv19 m L x.rc e n).2.2.2 (recv19 m L x.rc e n).2.1 n x.h c).2 = 0 then ((((read5 (recv19 m L x.rc e n).2.2.2 (recv19 m L x.rc e n).2.1 n x.h c).1),0),{ x with rc:=(recv19 m L x.rc e n).1 },(recv19 m L x.rc e n).2.2.2)
   else ((⟨#[]⟩,(read5 (recv19 m L x.rc e n).2.2.2 (recv19 m L x.rc e n).2.1 n x.h c).2),x,(recv19 m L x.rc e n).2.2.2)
  else ((⟨#[]⟩,(recv19 m L x.rc e n).2.2.1),x,(recv19 m L x.rc e n).2.2.2)
 else ((⟨#[]⟩,1),x,L)

theorem wIn_zero:WIn 0 0:=⟨by decide,by decide,by decide,by decide,fun _=>rfl⟩

theorem now19_ok {m:Int} {L:List T} {y:Rc} {n:Int} (h:RcOk y) (hn:0 ≤ n) (hn':n ≤ 255):RcOk (now19 m L y n).1:=by
 unfold now19
 split
 · exact ⟨wTake_in h.w hn hn',h.ws,h.rises,h.len,h.lo,h.hi⟩
 · exact h
theorem mem_kPut {es:List En} {e x:En} (h:Rises es) (h4:es.length ≤ 4) (hx:x ∈ (kPut es e).1):x = e ∨ x ∈ es:=by
 rw [kPut_eq h h4] at hx
 unfold rPut at hx
 have key:∀ z ∈ ins es e,z = e ∨ z ∈ es:=fun z hz=>(mem_ins.1 hz).imp id fun h=>h.1
 split at hx
 · exact key x hx
 · exact key x (List.mem_of_mem_drop hx)
theorem puts19_ok:∀ (ks:List Int) {es:List En} {e x y:Int},WIn x y → Rises es → es.length ≤ 4 → (∀ z ∈ es,WIn z.nx z.bt) → Rises (puts19 es e x y ks) ∧ (puts19 es e x y ks).length ≤ 4 ∧ ∀ z ∈ puts19 es e x y ks,WIn z.nx z.bt
 | [],_,_,_,_,_,hr,h4,hw=>⟨hr,h4,hw⟩
 | k::ks,es,e,x,y,hxy,hr,h4,hw=>puts19_ok ks wIn_zero (kPut_rises hr h4 _) (kPut_length hr h4 _) fun z hz=>by
  rcases mem_kPut hr h4 hz with rfl | hz
  · exact hxy
  · exact hw z hz
theorem to15_epoch {m:Int} {L:List T} {k e x:Int} {q:(Int × Int) × List Int × Int × List T} (hq:to15 m L k e x = q) (h0:q.2.2.1 = 0) (he:0 ≤ e) (he':e ≤ 1000):q.1.2 = x ∧ 0 ≤ x ∧ x ≤ 1000 ∧ q.2.1.length = (x - e).toNat ∧ e ≤ x ∧ x ≤ e + 4:=by
 have key:∀ (n:Nat) (L:List T) (k e:Int),(steps15 m n L k e).2.2.1 = 0 → e ≤ 1000 → (steps15 m n L k e).2.1.2 = e + n ∧ (steps15 m n L k e).1.length = n ∧ e + n ≤ 1000:=by
  intro n
  induction n with
  | zero=>intro L k e _ he; simp [steps15]; exact he
  | succ n ih =>
   intro L k e h1 he
   rw [steps15_succ] at h1 ⊢
   split at h1
   · rename_i h2
     split at h1
     · rename_i h3
       rw [if_pos h2,if_pos h3]
       have hn:next15 m (put m L (keyT k 1)).2.2 k e = (((next15 m (put m L (keyT k 1)).2.2 k e).1.1,(next15 m (put m L (keyT k 1)).2.2 k e).1.2),0,(next15 m (put m L (keyT k 1)).2.2 k e).2.2):=by rw [← h3]
       obtain ⟨d1,d2,d3⟩:=next15_epoch hn
       dsimp only at h1 ⊢
       rw [d1] at h1 ⊢
       obtain ⟨i1,i2,i3⟩:=ih _ _ _ h1 (by omega)
       refine ⟨by rw [i1]; omega,by simp [i2],by omega⟩
     · rename_i h3
       exact absurd h1 h3
   · rename_i h2
     exact absurd h1 h2
 unfold to15 at hq
 split at hq
 · subst hq; simp at h0
 · split at hq
   · subst hq; simp at h0
   · split at hq
     · rename_i h1 h2 h3
       subst hq
       obtain ⟨i1,i2,i3⟩:=key _ _ _ _ h3 he'
       dsimp only
       refine ⟨by rw [i1]; omega,by omega,by omega,i2,by omega,by omega⟩
     · rename_i h3
       subst hq
       exact absurd h0 h3
theorem later19_ok {m:Int} {L:List T} {y:Rc} {e n:Int} (h:RcOk y) (hn:0 ≤ n) (hn':n ≤ 255):RcOk (later19 m L y e n).1:=by
 unfold later19
 split
 · rename_i h0
   obtain ⟨k1,k2,k3,_⟩:=to15_epoch rfl h0 h.lo h.hi
   obtain ⟨p1,p2,p3⟩:=puts19_ok (to15 m L y.ik y.ie e).2.1 (e:=y.ie) h.w h.rises h.len h.ws
   exact now19_ok ⟨wIn_zero,p3,p1,p2,by rw [k1]; exact k2,by rw [k1]; exact k3⟩ hn hn'
 · exact h
theorem kGet_mem {es:List En} {n:Int} (h:(kGet es n).2 = true):(kGet es n).1 ∈ es ∧ (kGet es n).1.ep = n:=by
 unfold kGet at h ⊢
 split at h
 · rename_i hi
   rw [if_pos hi]
   obtain ⟨e,he,hn⟩:=isAt_some hi
   dsimp only
   rw [List.getD_eq_getElem?_getD,he]
   exact ⟨List.mem_of_getElem? he,hn⟩
 · simp at h
theorem ago19_ok {y:Rc} {e n:Int} (h:RcOk y) (hn:0 ≤ n) (hn':n ≤ 255):RcOk (ago19 y e n).1:=by
 unfold ago19
 split
 · rename_i hg
   split
   · refine ⟨h.w,fun z hz=>?_,kPut_rises h.rises h.len _,kPut_length h.rises h.len _,h.lo,h.hi⟩
     rcases mem_kPut h.rises h.len hz with rfl | hz
     · exact wTake_in (h.ws _ (kGet_mem hg).1) hn hn'
     · exact h.ws z hz
   · exact h
 · exact h
theorem recv19_ok {m:Int} {L:List T} {y:Rc} {e n:Int} (h:RcOk y) (hn:0 ≤ n) (hn':n ≤ 255):RcOk (recv19 m L y e n).1:=by
 unfold recv19
 split
 · exact now19_ok h hn hn'
 · split
   · exact later19_ok h hn hn'
   · exact ago19_ok h hn hn'
theorem open19_ok {m:Int} {L:List T} {x:Se} {e n c:Int} (h:SeOk x):SeOk (open19 m L x e n c).2.1:=by
 unfold open19
 split
 · rename_i hc
   split
   · split
     · exact ⟨recv19_ok h.rc hc.2.2.1 (by omega),h.oe0,h.oe1,h.s0,h.s1⟩
     · exact h
   · exact h
 · exact h
theorem step19_ok {m:Int} {L:List T} {x:Se} (h:SeOk x):SeOk (step19 m L x).2.1:=by
 unfold step19
 split
 · rename_i h0
   have hn:next15 m L x.ok x.oe = (((next15 m L x.ok x.oe).1.1,(next15 m L x.ok x.oe).1.2),0,(next15 m L x.ok x.oe).2.2):=by rw [← h0]
   obtain ⟨d1,d2,d3⟩:=next15_epoch hn
   exact ⟨h.rc,by dsimp only; omega,by dsimp only; omega,by dsimp only; omega,by dsimp only; omega⟩
 · exact h
theorem seal19_ok {m:Int} {L:List T} {x:Se} {s:ByteArray} (h:SeOk x):SeOk (seal19 m L x s).2.1:=by
 unfold seal19
 split
 · exact h
 · split
   · split
     · split
       · rename_i h0 _
         have hn:next15 m L x.ok x.oe = (((next15 m L x.ok x.oe).1.1,(next15 m L x.ok x.oe).1.2),0,(next15 m L x.ok x.oe).2.2):=by rw [← h0]
         obtain ⟨d1,d2,d3⟩:=next15_epoch hn
         exact ⟨h.rc,by dsimp only; omega,by dsimp only; omega,by dsimp only; omega,by dsimp only; omega⟩
       · exact h
     · exact h
   · split
     · exact ⟨h.rc,h.oe0,h.oe1,by have:=h.s0; dsimp only; omega,by dsimp only; omega⟩
     · exact h
end Go.Proofs.Ytpcfmafokkffgaa
namespace Go.Proofs.Ytpcfmafokkffgaa
open Go.RowKit

section
variable {W w:World} {Rs:List Res} {b:Nat} {L L2:List T} {m r2:Int}
set_option maxRecDepth 100000 in
set_option maxHeartbeats 4000000 in
theorem snext_calls (k e s:Int) {dk de:Int} (hq:next15 m L k e = ((dk,de),r2,L2)) (h:Hd W w (Sto b L m::Rs)) :
 Calls Try.prog 63 #[.agg #[.int .i64 k,.int .i64 e,.int .i64 s],.pointer (some ⟨b,0,none⟩)] w fun e' w'=>e' = .returned (.tuple #[.agg #[.int .i64 dk,.int .i64 de,.int .i64 0],.int .i64 r2]) ∧ Hd W w' (Sto b L2 m::Rs):=by
 have HQ:=hid hq
 have H:=hid (((h.boxk (o:=.cells #[.int .i64 k,.int .i64 e,.int .i64 s] 140 (0,0)) w.heap.size rfl).boxk (o:=.cells #[.int .i64 0,.int .i64 0,.int .i64 0] 140 (0,0)) (w.heap.size + 1) (by simp)).front 2 rfl)
 obtain ⟨wo,hwo⟩:∃ wo,(w.alloc (.cells #[.int .i64 k,.int .i64 e,.int .i64 s] 140 (0,0))).alloc (.cells #[.int .i64 0,.int .i64 0,.int .i64 0] 140 (0,0)) = wo:=⟨_,rfl⟩
 rw [hwo] at H
 clear h hq
 have hk:=Hd.nthk 2 H.out rfl
 have c0:=(cell_of_heap hk 0).trans (show _ = some (.int .i64 k) from rfl)
 have c1:=(cell_of_heap hk 1).trans (show _ = some (.int .i64 e) from rfl)
 have c2:=(cell_of_heap hk 2).trans (show _ = some (.int .i64 s) from rfl)
 have cs:=(Array.getElem?_eq_some_iff.1 hk).1
 clear hk
 go_enter Try.func63,Try.ntmps63
 go_wp2_with fail
 refine (next15_calls k e HQ.out H.out).mono ?_
 rintro e2 w1 ⟨rfl,h1⟩
 clear H c0 c1 c2 cs hwo HQ
 have H:=hid h1
 clear h1
 have hk:=Hd.nthk 1 H.out rfl
 obtain ⟨q0,q1,q2⟩:=cells3 hk
 have qs:=(Array.getElem?_eq_some_iff.1 hk).1
 have qf:=frozen_of_heap hk
 clear hk
 go_wp2_with fail
 refine bodyPost_ret (v:=.tuple #[.agg #[.int .i64 dk,.int .i64 de,.int .i64 0],.int .i64 r2]) (by simp [results,Try.results63,go_sem,q0,q1,q2,qs]) rfl ⟨rfl,?_⟩
 first
  | exact (((((((H.out.front 2 rfl).front 1 rfl).front 2 rfl).set 0 (.int .i64 dk)).set 1 (.int .i64 de)).set 2 (.int .i64 0)).drop.un2).al
  | exact ((((((H.out.al.front 2 rfl).front 1 rfl).front 2 rfl).set 0 (.int .i64 dk)).set 1 (.int .i64 de)).set 2 (.int .i64 0)).drop.un2

set_option maxRecDepth 100000 in
set_option maxHeartbeats 4000000 in
theorem now19_calls {y y':Rc} {n key er:Int} {ad:Option Addr} {len cap:Nat} (hy:WIn y.nx y.bt) (h0n:0 ≤ n) (h1n:n ≤ 255) (hq:now19 m L y n = (y',key,er,L2)) (h:Hd W w (Sto b L m::Rs)) :
 Calls Try.prog 66 #[.agg #[.int .i64 y.ik,.int .i64 y.ie,.int .u64 y.nx,.int .u64 y.bt,.slice ad len cap],.pointer (some ⟨b,0,none⟩),.int .i64 n] w fun e' w'=>e' = .returned (.tuple #[.agg #[.int .i64 y'.ik,.int .i64 y'.ie,.int .u64 y'.nx,.int .u64 y'.bt,.slice ad len cap],.int .i64 key,.int .i64 er]) ∧ Hd W w' (Sto b L2 m::Rs):=by
 obtain ⟨ik,ie,nx,bt,es⟩:=y
 dsimp only at hy hq ⊢
 unfold now19 at hq
 dsimp only at hq
 obtain ⟨⟨⟨t1,t2⟩,t3⟩,ht⟩:∃ t,wTake nx bt n = t:=⟨_,rfl⟩
 rw [ht] at hq
 dsimp only at hq
 have HT:=hid ht
 have HY:=hid hy
 have z1:IntKind.u64.wrap n = n:=IntWalk.u64_in _ (by omega)
 have H:=hid (((h.boxk (o:=.cells #[.int .i64 ik,.int .i64 ie,.int .u64 nx,.int .u64 bt,.slice ad len cap] 146 (0,0)) w.heap.size rfl).boxk (o:=.cells #[.int .i64 0,.int .i64 0,.int .u64 0,.int .u64 0,.slice none 0 0] 146 (0,0)) (w.heap.size + 1) (by simp)).front 2 rfl)
 obtain ⟨wo,hwo⟩:∃ wo,(w.alloc (.cells #[.int .i64 ik,.int .i64 ie,.int .u64 nx,.int .u64 bt,.slice ad len cap] 146 (0,0))).alloc (.cells #[.int .i64 0,.int .i64 0,.int .u64 0,.int .u64 0,.slice none 0 0] 146 (0,0)) = wo:=⟨_,rfl⟩
 rw [hwo] at H
 clear h ht hy
 by_cases h3:t3 = 0
 · subst h3
   rw [if_pos rfl] at hq
   obtain ⟨p1,p2,L3,hp⟩:∃ p1 p2 L3,put m L (keyT ik 1) = (p1,p2,L3):=⟨_,_,_,rfl⟩
   rw [hp] at hq
   simp only [Prod.mk.injEq] at hq
   obtain ⟨rfl,rfl,rfl,rfl⟩:=hq
   have HP:=hid hp
   clear hp
   have hk:=Hd.nthk 2 H.out rfl
   have c0:=(cell_of_heap hk 0).trans (show _ = some (.int .i64 ik) from rfl)
   have c1:=(cell_of_heap hk 1).trans (show _ = some (.int .i64 ie) from rfl)
   have c2:=(cell_of_heap hk 2).trans (show _ = some (.int .u64 nx) from rfl)
   have c3:=(cell_of_heap hk 3).trans (show _ = some (.int .u64 bt) from rfl)
   have c4:=(cell_of_heap hk 4).trans (show _ = some (.slice ad len cap) from rfl)
   have cs:=(Array.getElem?_eq_some_iff.1 hk).1
   clear hk
   go_enter Try.func66,Try.ntmps66
   go_wp2_with fail
   refine (take14_calls HY.out h0n h1n HT.out _).mono ?_
   rintro e2 w1 ⟨rfl,h1⟩
   replace H:=hid (H.out.still h1)
   clear c0 c1 c2 c3 c4 cs hwo h1 HT HY z1
   have hk:=Hd.nthk 2 H.out rfl
   have c0:=(cell_of_heap hk 0).trans (show _ = some (.int .i64 ik) from rfl)
   have c1:=(cell_of_heap hk 1).trans (show _ = some (.int .i64 ie) from rfl)
   have c2:=(cell_of_heap hk 2).trans (show _ = some (.int .u64 nx) from rfl)
   have c3:=(cell_of_heap hk 3).trans (show _ = some (.int .u64 bt) from rfl)
   have c4:=(cell_of_heap hk 4).trans (show _ = some (.slice ad len cap) from rfl)
   have cs:=(Array.getElem?_eq_some_iff.1 hk).1
   have cf:=frozen_of_heap hk
   clear hk
   have hk:=Hd.nthk 1 H.out rfl
   obtain ⟨q0,q1,q2,q3,q4⟩:=cells5 hk
   have qs:=(Array.getElem?_eq_some_iff.1 hk).1
   have qf:=frozen_of_heap hk
   clear hk
   have hne:=blks_ne H.out.drop
   have hne2:¬ w.heap.size = w.heap.size + 1:=by omega
   go_wp2_with fail
   have HB:=hid (((((H.out.front 1 rfl).front 1 rfl).front 2 rfl).set 2 (.int .u64 t1)).set 3 (.int .u64 t2))
   clear H c0 c1 c2 c3 c4 cs cf q0 q1 q2 q3 q4 qs qf
   have H:=hid (Hd.al (o:=.cells #[.int .u64 t1,.int .u64 t2] 141 (0,0)) (((HB.out.front 2 rfl).front 2 rfl)))
   clear HB
   refine (seal15_calls ik ie HP.out H.out).mono ?_
   rintro e2 w2 ⟨rfl,h1⟩
   clear H HP
   have H:=hid h1
   clear h1
   have hk:=Hd.nthk 2 H.out rfl
   have c0:=(cell_of_heap hk 0).trans (show _ = some (.int .i64 ik) from rfl)
   have c1:=(cell_of_heap hk 1).trans (show _ = some (.int .i64 ie) from rfl)
   have c2:=(cell_of_heap hk 2).trans (show _ = some (.int .u64 t1) from rfl)
   have c3:=(cell_of_heap hk 3).trans (show _ = some (.int .u64 t2) from rfl)
   have c4:=(cell_of_heap hk 4).trans (show _ = some (.slice ad len cap) from rfl)
   have cs:=(Array.getElem?_eq_some_iff.1 hk).1
   have cf:=frozen_of_heap hk
   clear hk
   have hk:=Hd.nthk 1 H.out rfl
   obtain ⟨q0,q1,q2,q3,q4⟩:=cells5 hk
   have qs:=(Array.getElem?_eq_some_iff.1 hk).1
   have qf:=frozen_of_heap hk
   clear hk
   go_wp2_with fail
   refine bodyPost_ret (v:=.tuple #[.agg #[.int .i64 ik,.int .i64 ie,.int .u64 t1,.int .u64 t2,.slice ad len cap],.int .i64 p1,.int .i64 p2]) (by simp [results,Try.results66,go_sem,q0,q1,q2,q3,q4]) rfl ⟨rfl,?_⟩
   exact (((((((((H.out.front 2 rfl).front 1 rfl).front 2 rfl).set 0 (.int .i64 ik)).set 1 (.int .i64 ie)).set 2 (.int .u64 t1)).set 3 (.int .u64 t2)).set 4 (.slice ad len cap))).drop.un2
 · rw [if_neg h3] at hq
   simp only [Prod.mk.injEq] at hq
   obtain ⟨rfl,rfl,rfl,rfl⟩:=hq
   have g1:(t3 != 0) = true:=by rw [bne_iff_ne]; exact h3
   have g2:decide (t3 = 0) = false:=by simpa using h3
   clear h3
   have hk:=Hd.nthk 2 H.out rfl
   have c0:=(cell_of_heap hk 0).trans (show _ = some (.int .i64 ik) from rfl)
   have c1:=(cell_of_heap hk 1).trans (show _ = some (.int .i64 ie) from rfl)
   have c2:=(cell_of_heap hk 2).trans (show _ = some (.int .u64 nx) from rfl)
   have c3:=(cell_of_heap hk 3).trans (show _ = some (.int .u64 bt) from rfl)
   have c4:=(cell_of_heap hk 4).trans (show _ = some (.slice ad len cap) from rfl)
   have cs:=(Array.getElem?_eq_some_iff.1 hk).1
   clear hk
   go_enter Try.func66,Try.ntmps66
   go_wp2_with fail
   refine (take14_calls HY.out h0n h1n HT.out _).mono ?_
   rintro e2 w1 ⟨rfl,h1⟩
   replace H:=hid (H.out.still h1)
   clear c0 c1 c2 c3 c4 cs hwo h1 HT HY z1
   have hk:=Hd.nthk 2 H.out rfl
   have c0:=(cell_of_heap hk 0).trans (show _ = some (.int .i64 ik) from rfl)
   have c1:=(cell_of_heap hk 1).trans (show _ = some (.int .i64 ie) from rfl)
   have c2:=(cell_of_heap hk 2).trans (show _ = some (.int .u64 nx) from rfl)
   have c3:=(cell_of_heap hk 3).trans (show _ = some (.int .u64 bt) from rfl)
   have c4:=(cell_of_heap hk 4).trans (show _ = some (.slice ad len cap) from rfl)
   have cs:=(Array.getElem?_eq_some_iff.1 hk).1
   have cf:=frozen_of_heap hk
   clear hk
   have hk:=Hd.nthk 1 H.out rfl
   obtain ⟨q0,q1,q2,q3,q4⟩:=cells5 hk
   have qs:=(Array.getElem?_eq_some_iff.1 hk).1
   have qf:=frozen_of_heap hk
   clear hk
   go_wp2_with fail
   refine bodyPost_ret (v:=.tuple #[.agg #[.int .i64 ik,.int .i64 ie,.int .u64 nx,.int .u64 bt,.slice ad len cap],.int .i64 0,.int .i64 t3]) (by simp [results,Try.results66,go_sem,q0,q1,q2,q3,q4,qs]) rfl ⟨rfl,?_⟩
   first
    | exact (((((((((H.out.front 2 rfl).front 1 rfl).front 2 rfl).set 0 (.int .i64 ik)).set 1 (.int .i64 ie)).set 2 (.int .u64 nx)).set 3 (.int .u64 bt)).set 4 (.slice ad len cap))).drop.un2.al
    | exact (((((((((H.out.al.front 2 rfl).front 1 rfl).front 2 rfl).set 0 (.int .i64 ik)).set 1 (.int .i64 ie)).set 2 (.int .u64 nx)).set 3 (.int .u64 bt)).set 4 (.slice ad len cap))).drop.un2
end
end Go.Proofs.Ytpcfmafokkffgaa
namespace Go.Proofs.Ytpcfmafokkffgaa
open Go.RowKit

section
variable {W w:World} {Rs:List Res} {b:Nat} {L L2:List T} {m:Int}
theorem Hd.keep2 {A B C D:Res} (h:Hd W w (A::B::C::D::Rs)):Hd W w (A::B::Rs):=((((h.front 2 rfl).drop).front 2 rfl).drop)
theorem Hd.keep3 {A B C D E F G:Res} (h:Hd W w (A::B::C::D::E::F::G::Rs)):Hd W w (A::B::C::Rs):=(((((((h.front 3 rfl).drop).front 3 rfl).drop).front 3 rfl).drop).front 3 rfl).drop
set_option maxRecDepth 100000 in
set_option maxHeartbeats 8000000 in
theorem later19_calls {y y':Rc} {e n key er:Int} {ad:Option Addr} {cap:Nat} (hy:RcOk y) (hlt0:y.ie < e) (be : -9223372036854775808 ≤ e) (be':e ≤ 9223372036854775807) (h0n:0 ≤ n) (h1n:n ≤ 255) (hq:later19 m L y e n = (y',key,er,L2)) (h:Hd W w (Sto b L m::CaR (.slice ad y.es.length cap) y.es::Rs)) :
 Calls Try.prog 67 #[.agg #[.int .i64 y.ik,.int .i64 y.ie,.int .u64 y.nx,.int .u64 y.bt,.slice ad y.es.length cap],.pointer (some ⟨b,0,none⟩),.int .i64 e,.int .i64 n] w fun e' w'=>∃ ad' cap',e' = .returned (.tuple #[.agg #[.int .i64 y'.ik,.int .i64 y'.ie,.int .u64 y'.nx,.int .u64 y'.bt,.slice ad' y'.es.length cap'],.int .i64 key,.int .i64 er]) ∧ ((to15 m L y.ik y.ie e).2.2.1 = 0 → Hd W w' (Sto b L2 m::CaR (.slice ad' y'.es.length cap') y'.es::CaR (.slice ad y.es.length cap) y.es::Rs)) ∧ ((to15 m L y.ik y.ie e).2.2.1 ≠ 0 → ad' = ad ∧ cap' = cap ∧ y' = y ∧ er ≠ 0 ∧ Hd W w' (Sto b L2 m::CaR (.slice ad y.es.length cap) y.es::Rs)):=by
 obtain ⟨ik,ie,nx,bt,es⟩:=y
 have HO:=hid hy
 have hws:=hid hy.ws
 have hrs:=hid hy.rises
 have hl4:es.length ≤ 4:=hy.len
 have HE:=hid hy.lo
 have HE':=hid hy.hi
 dsimp only at hws hrs hq h HE HE' hlt0 ⊢
 unfold later19 at hq
 dsimp only at hq
 obtain ⟨⟨⟨tk,te⟩,ks,t3,L3⟩,ht⟩:∃ t,to15 m L ik ie e = t:=⟨_,rfl⟩
 rw [ht] at hq ⊢
 dsimp only at hq ⊢
 have HT:=hid ht
 have H:=hid (((h.boxk (o:=.cells #[.int .i64 ik,.int .i64 ie,.int .u64 nx,.int .u64 bt,.slice ad es.length cap] 146 (0,0)) w.heap.size rfl).boxk (o:=.cells #[.int .i64 0,.int .i64 0,.int .u64 0,.int .u64 0,.slice none 0 0] 146 (0,0)) (w.heap.size + 1) (by simp)).front 2 rfl)
 obtain ⟨wo,hwo⟩:∃ wo,(w.alloc (.cells #[.int .i64 ik,.int .i64 ie,.int .u64 nx,.int .u64 bt,.slice ad es.length cap] 146 (0,0))).alloc (.cells #[.int .i64 0,.int .i64 0,.int .u64 0,.int .u64 0,.slice none 0 0] 146 (0,0)) = wo:=⟨_,rfl⟩
 rw [hwo] at H
 clear h hy
 by_cases h3:t3 = 0
 · subst h3
   rw [if_pos rfl] at hq
   obtain ⟨te1,te2,te3,hkl,te5,te6⟩:=to15_epoch (q:=((tk,te),ks,0,L3)) ht rfl HE.out HE'.out
   dsimp only at te1 hkl
   have hkl4:ks.length ≤ 4:=by omega
   obtain ⟨R,hR⟩:∃ R,puts19 es ie nx bt ks = R:=⟨_,rfl⟩
   rw [hR] at hq
   obtain ⟨hr1,hr2,hr3⟩:=puts19_ok ks (e:=ie) HO.out.w HO.out.rises HO.out.len HO.out.ws
   have HQ:=hid hq
   have HR:=hid hR
   clear hq hR ht hr1 hr2 hr3 te1
   have hk:=Hd.nthk 2 H.out rfl
   have c0:=(cell_of_heap hk 0).trans (show _ = some (.int .i64 ik) from rfl)
   have c1:=(cell_of_heap hk 1).trans (show _ = some (.int .i64 ie) from rfl)
   have c2:=(cell_of_heap hk 2).trans (show _ = some (.int .u64 nx) from rfl)
   have c3:=(cell_of_heap hk 3).trans (show _ = some (.int .u64 bt) from rfl)
   have c4:=(cell_of_heap hk 4).trans (show _ = some (.slice ad es.length cap) from rfl)
   have cs:=(Array.getElem?_eq_some_iff.1 hk).1
   clear hk
   go_enter Try.func67,Try.ntmps67
   go_wp2_with fail
   refine (to_calls ik ie e be be' (by have:=HE.out; omega) (by have:=HE'.out; omega) H.out HT.out).mono ?_
   rintro e2 w1 ⟨v12,rfl,h1⟩
   clear H c0 c1 c2 c3 c4 cs hwo HT
   obtain ⟨a12,c12,rfl,ia⟩:=row_ints h1
   have H:=hid (((((h1.front 3 rfl).front 3 rfl).front 2 rfl).front 4 rfl).front 4 rfl)
   clear h1 ia
   have hk:=Hd.nthk 4 H.out rfl
   have c0:=(cell_of_heap hk 0).trans (show _ = some (.int .i64 ik) from rfl)
   have c1:=(cell_of_heap hk 1).trans (show _ = some (.int .i64 ie) from rfl)
   have c2:=(cell_of_heap hk 2).trans (show _ = some (.int .u64 nx) from rfl)
   have c3:=(cell_of_heap hk 3).trans (show _ = some (.int .u64 bt) from rfl)
   have c4:=(cell_of_heap hk 4).trans (show _ = some (.slice ad es.length cap) from rfl)
   have cs:=(Array.getElem?_eq_some_iff.1 hk).1
   clear hk
   obtain ⟨N,hN⟩:∃ N,ks.length = N:=⟨_,rfl⟩
   rw [hN] at H hkl4 hkl ⊢
   have HN:=hid hN
   have HNP:Hid (0 < N):=hid (by omega)
   clear hN hkl
   go_wp2_with fail
   have HB:=hid ((H.out.bxk w1.heap.size rfl (o:=.cells #[.int .i64 tk,.int .i64 te] 32 (0,0))).bxk (w1.heap.size + 1) (by simp) (o:=.cells #[.int .u64 nx,.int .u64 bt] 141 (0,0)))
   clear H c0 c1 c2 c3 c4 cs
   go_loopw [34] (fun q wr=>∃ i:Nat,i ≤ N ∧ q = .int .i64 i ∧ ∃ (adi:Option Addr) (capi:Nat) (esi:List En) (wx wy:Int),Hid (puts19 esi (ie + i) wx wy (ks.drop i) = R) ∧ Hid (Rises esi ∧ esi.length ≤ 4) ∧ Hid ((i = 0 ∧ adi = ad ∧ capi = cap ∧ esi = es ∧ Hd W wr (Sto b L3 m::CaR (.slice ad es.length cap) es::RowR 3 1 (.slice a12 N c12) N (nums .i64 ks)::Blk w1.heap.size (.cells #[.int .i64 tk,.int .i64 te] 32 (0,0))::Blk (w1.heap.size + 1) (.cells #[.int .u64 wx,.int .u64 wy] 141 (0,0))::Blk (w.heap.size + 1) (.cells #[.int .i64 0,.int .i64 0,.int .u64 0,.int .u64 0,.slice none 0 0] 146 (0,0))::Blk w.heap.size (.cells #[.int .i64 ik,.int .i64 ie,.int .u64 nx,.int .u64 bt,.slice adi esi.length capi] 146 (0,0))::Rs)) ∨ (0 < i ∧ Hd W wr (CaR (.slice adi esi.length capi) esi::Sto b L3 m::CaR (.slice ad es.length cap) es::RowR 3 1 (.slice a12 N c12) N (nums .i64 ks)::Blk w1.heap.size (.cells #[.int .i64 tk,.int .i64 te] 32 (0,0))::Blk (w1.heap.size + 1) (.cells #[.int .u64 wx,.int .u64 wy] 141 (0,0))::Blk (w.heap.size + 1) (.cells #[.int .i64 0,.int .i64 0,.int .u64 0,.int .u64 0,.slice none 0 0] 146 (0,0))::Blk w.heap.size (.cells #[.int .i64 ik,.int .i64 ie,.int .u64 nx,.int .u64 bt,.slice adi esi.length capi] 146 (0,0))::Rs)))) (fun q _=>N - (intOf q).toNat)
   case atStart=>exact ⟨0,Nat.zero_le _,rfl,ad,cap,es,nx,bt,hid (by simpa using HR.out),hid ⟨hrs.out,hl4⟩,hid (.inl ⟨rfl,rfl,rfl,rfl,(((((((HB.out.front 6 rfl).front 6 rfl).front 3 rfl).front 4 rfl).front 6 rfl).front 6 rfl).front 6 rfl)⟩)⟩
   case round =>
    clear HB
    obtain ⟨i,hi,rfl,adi,capi,esi,wx,wy,HPu,HRi,HD⟩:=hrel
    obtain ⟨wl,hwl⟩:∃ wl:World,wl = wr:=⟨_,rfl⟩
    rw [← hwl] at HD ⊢
    clear hwl wr
    by_cases hlt:i < N
    · have hd1:decide ((i:Int) < (N:Int)) = true:=by simpa using hlt
      have HC:Hid (CaAt wl (.slice adi esi.length capi) esi):=hid (by
       rcases HD.out with ⟨_,rfl,rfl,rfl,hd⟩ | ⟨_,hd⟩
       · exact (hd.front 1 rfl).ca
       · exact hd.ca)
      have H:Hid (Hd W wl (Sto b L3 m::CaR (.slice ad es.length cap) es::RowR 3 1 (.slice a12 N c12) N (nums .i64 ks)::Blk w1.heap.size (.cells #[.int .i64 tk,.int .i64 te] 32 (0,0))::Blk (w1.heap.size + 1) (.cells #[.int .u64 wx,.int .u64 wy] 141 (0,0))::Blk (w.heap.size + 1) (.cells #[.int .i64 0,.int .i64 0,.int .u64 0,.int .u64 0,.slice none 0 0] 146 (0,0))::Blk w.heap.size (.cells #[.int .i64 ik,.int .i64 ie,.int .u64 nx,.int .u64 bt,.slice adi esi.length capi] 146 (0,0))::Rs)):=hid (by
       rcases HD.out with ⟨_,_,_,_,hd⟩ | ⟨_,hd⟩
       · exact hd
       · exact hd.drop)
      clear HD
      have hi0:(0:Int) ≤ (i:Int):=by omega
      have hi1:(i:Int) < (N:Int):=by omega
      have hil:i < ks.length:=by rw [HN.out]; exact hlt
      obtain ⟨_,_,ea,la,_,ia⟩:=(H.out.front 2 rfl).row_is
      simp only [Value.slice.injEq,true_and] at ea
      obtain ⟨rfl,rfl⟩:=ea
      obtain ⟨g1,o1,rfl,hc1⟩:=ia.resolve_left fun e=>by rw [e] at hil; simp at hil
      have d1:=hc1 i hil
      have d1s:=World.block_lt_of_cell? _ _ d1
      obtain ⟨k,hk⟩:∃ k,ks.getD i 0 = k:=⟨_,rfl⟩
      rw [hk] at d1
      have hdr:ks.drop i = k::ks.drop (i + 1):=by
       rw [List.drop_eq_getElem_cons hil,← hk]
       simp [List.getD,List.getElem?_eq_getElem hil]
      have hpu:=HPu.out
      rw [hdr] at hpu
      obtain ⟨⟨es2,⟨pa,pk,px,py⟩,pb⟩,hp⟩:∃ t,kPut esi ⟨ie + i,k,wx,wy⟩ = t:=⟨_,rfl⟩
      unfold puts19 at hpu
      rw [hp] at hpu
      have HP:=hid hp
      have HP2:Hid (puts19 es2 (ie + ((i + 1:Nat):Int)) 0 0 (ks.drop (i + 1)) = R):=hid (by rw [← hpu]; congr 1; omega)
      have HR2:Hid (Rises es2 ∧ es2.length ≤ 4):=hid (by
       have r1:=kPut_rises HRi.out.1 HRi.out.2 ⟨ie + i,k,wx,wy⟩
       have r2:=kPut_length HRi.out.1 HRi.out.2 ⟨ie + i,k,wx,wy⟩
       rw [hp] at r1 r2
       exact ⟨r1,r2⟩)
      have z1:IntKind.i64.wrap (ie + (i:Int)) = ie + i:=IntWalk.i64_in _ (by have:=HE.out; have:=HE'.out; omega)
      have HLT:=hid hlt
      clear hc1 ia la hil hk hdr hpu hp hlt
      have hk:=Hd.nthk 6 H.out rfl
      have c0:=(cell_of_heap hk 0).trans (show _ = some (.int .i64 ik) from rfl)
      have c1:=(cell_of_heap hk 1).trans (show _ = some (.int .i64 ie) from rfl)
      have c2:=(cell_of_heap hk 2).trans (show _ = some (.int .u64 nx) from rfl)
      have c3:=(cell_of_heap hk 3).trans (show _ = some (.int .u64 bt) from rfl)
      have c4:=(cell_of_heap hk 4).trans (show _ = some (.slice adi esi.length capi) from rfl)
      have cs:=(Array.getElem?_eq_some_iff.1 hk).1
      have cf:=frozen_of_heap hk
      clear hk
      have hk:=Hd.nthk 4 H.out rfl
      have g0:=(cell_of_heap hk 0).trans (show _ = some (.int .u64 wx) from rfl)
      have g1:=(cell_of_heap hk 1).trans (show _ = some (.int .u64 wy) from rfl)
      have gs:=(Array.getElem?_eq_some_iff.1 hk).1
      have gf:=frozen_of_heap hk
      clear hk
      have hne:=blks_ne ((((((((H.out.front 5 rfl).front 4 rfl).front 4 rfl).front 4 rfl).front 4 rfl).front 5 rfl).front 6 rfl))
      have hne2:¬ w1.heap.size + 1 = w.heap.size:=fun e=>hne e.symm
      go_wp2_with fail
      refine (put16_is (ie + i) k wx wy HP.out HRi.out.1 (by have:=HRi.out.2; omega) HC.out H.out).mono ?_
      rintro e2 w2 ⟨ad2,cap2,rfl,h1⟩
      clear H HP HRi HC c0 c1 c2 c3 c4 cs cf g0 g1 gs gf d1 d1s z1
      have H:=hid h1
      clear h1
      have hk:=Hd.nthk 7 H.out rfl
      have c0:=(cell_of_heap hk 0).trans (show _ = some (.int .i64 ik) from rfl)
      have c1:=(cell_of_heap hk 1).trans (show _ = some (.int .i64 ie) from rfl)
      have c2:=(cell_of_heap hk 2).trans (show _ = some (.int .u64 nx) from rfl)
      have c3:=(cell_of_heap hk 3).trans (show _ = some (.int .u64 bt) from rfl)
      have c4:=(cell_of_heap hk 4).trans (show _ = some (.slice adi esi.length capi) from rfl)
      have cs:=(Array.getElem?_eq_some_iff.1 hk).1
      have cf:=frozen_of_heap hk
      clear hk
      have hk:=Hd.nthk 5 H.out rfl
      have g0:=(cell_of_heap hk 0).trans (show _ = some (.int .u64 wx) from rfl)
      have g1:=(cell_of_heap hk 1).trans (show _ = some (.int .u64 wy) from rfl)
      have gs:=(Array.getElem?_eq_some_iff.1 hk).1
      have gf:=frozen_of_heap hk
      clear hk
      go_wp2_with fail
      go_roundw
      case rel =>
       refine ⟨i + 1,(by have:=HLT.out; omega),by go_num,ad2,cap2,es2,0,0,HP2,HR2,hid (.inr ⟨by omega,?_⟩)⟩
       have h8:=(((((((((H.out.front 6 rfl).front 5 rfl).front 5 rfl).front 5 rfl).front 5 rfl).front 5 rfl).front 6 rfl).front 7 rfl).set 4 (.slice ad2 es2.length cap2))
       have h9:=((((((((((h8.front 7 rfl).front 7 rfl).front 7 rfl).front 7 rfl).front 7 rfl).front 7 rfl).front 6 rfl).front 7 rfl).set 0 (.int .u64 0)).set 1 (.int .u64 0))
       exact ((((((((h9.front 1 rfl).front 7 rfl).front 2 rfl).front 7 rfl).front 7 rfl).front 7 rfl).front 7 rfl).front 7 rfl)
      case measure=>have:=HLT.out; simp [intOf]; omega
    · obtain rfl:i = N:=by omega
      have hd1:decide ((i:Int) < (i:Int)) = false:=by simp
      have hR2:esi = R:=by
       have:=HPu.out
       rw [← HN.out,List.drop_length] at this
       simpa [puts19] using this
      subst hR2
      have H:Hid (Hd W wl (Sto b L3 m::CaR (.slice adi esi.length capi) esi::CaR (.slice ad es.length cap) es::RowR 3 1 (.slice a12 i c12) i (nums .i64 ks)::Blk w1.heap.size (.cells #[.int .i64 tk,.int .i64 te] 32 (0,0))::Blk (w1.heap.size + 1) (.cells #[.int .u64 wx,.int .u64 wy] 141 (0,0))::Blk (w.heap.size + 1) (.cells #[.int .i64 0,.int .i64 0,.int .u64 0,.int .u64 0,.slice none 0 0] 146 (0,0))::Blk w.heap.size (.cells #[.int .i64 ik,.int .i64 ie,.int .u64 nx,.int .u64 bt,.slice adi esi.length capi] 146 (0,0))::Rs)):=hid (by
       rcases HD.out with ⟨h0,_⟩ | ⟨_,hd⟩
       · have:=HNP.out; omega
       · exact hd.front 1 rfl)
      clear HPu hlt hi HD
      have hk:=Hd.nthk 7 H.out rfl
      have c0:=(cell_of_heap hk 0).trans (show _ = some (.int .i64 ik) from rfl)
      have c1:=(cell_of_heap hk 1).trans (show _ = some (.int .i64 ie) from rfl)
      have c2:=(cell_of_heap hk 2).trans (show _ = some (.int .u64 nx) from rfl)
      have c3:=(cell_of_heap hk 3).trans (show _ = some (.int .u64 bt) from rfl)
      have c4:=(cell_of_heap hk 4).trans (show _ = some (.slice adi esi.length capi) from rfl)
      have cs:=(Array.getElem?_eq_some_iff.1 hk).1
      clear hk
      have hk:=Hd.nthk 4 H.out rfl
      have g0:=(cell_of_heap hk 0).trans (show _ = some (.int .i64 tk) from rfl)
      have g1:=(cell_of_heap hk 1).trans (show _ = some (.int .i64 te) from rfl)
      have gs:=(Array.getElem?_eq_some_iff.1 hk).1
      clear hk
      go_wp2_with fail
      refine (now19_calls wIn_zero h0n h1n HQ.out H.out).mono ?_
      rintro e2 w2 ⟨rfl,h1⟩
      clear H c0 c1 c2 c3 c4 cs g0 g1 gs
      have H:=hid h1
      clear h1
      have hes:y'.es = esi:=by
       have:=HQ.out
       unfold now19 at this
       split at this <;> (simp only [Prod.mk.injEq] at this; obtain ⟨rfl,_⟩:=this; rfl)
      obtain ⟨ik',ie',nx',bt',es'⟩:=y'
      dsimp only at hes ⊢
      subst hes
      have hk:=Hd.nthk 6 H.out rfl
      obtain ⟨q0,q1,q2,q3,q4⟩:=cells5 hk
      have qs:=(Array.getElem?_eq_some_iff.1 hk).1
      have qf:=frozen_of_heap hk
      clear hk
      go_wp2_with fail
      refine bodyPost_ret (v:=.tuple #[.agg #[.int .i64 ik',.int .i64 ie',.int .u64 nx',.int .u64 bt',.slice adi es'.length capi],.int .i64 key,.int .i64 er]) (by simp [results,Try.results67,go_sem,q0,q1,q2,q3,q4]) rfl ⟨adi,capi,rfl,?_⟩
      have hd9:=((((((((((((((H.out.front 7 rfl).front 6 rfl).front 6 rfl).front 6 rfl).front 6 rfl).front 6 rfl).front 6 rfl).front 7 rfl).set 0 (.int .i64 ik')).set 1 (.int .i64 ie')).set 2 (.int .u64 nx')).set 3 (.int .u64 bt')).set 4 (.slice adi es'.length capi))).drop.keep3
      first
       | exact ⟨fun _=>hd9,fun h=>absurd rfl h⟩
       | exact ⟨hd9,fun h=>absurd rfl h⟩
       | exact ⟨hd9,trivial⟩
       | exact hd9
 · rw [if_neg h3] at hq
   simp only [Prod.mk.injEq] at hq
   obtain ⟨rfl,rfl,rfl,rfl⟩:=hq
   have g1:(t3 != 0) = true:=by rw [bne_iff_ne]; exact h3
   have g2:decide (t3 = 0) = false:=by simpa using h3
   have HH3:=hid h3
   clear h3 ht
   have hk:=Hd.nthk 2 H.out rfl
   have c0:=(cell_of_heap hk 0).trans (show _ = some (.int .i64 ik) from rfl)
   have c1:=(cell_of_heap hk 1).trans (show _ = some (.int .i64 ie) from rfl)
   have c2:=(cell_of_heap hk 2).trans (show _ = some (.int .u64 nx) from rfl)
   have c3:=(cell_of_heap hk 3).trans (show _ = some (.int .u64 bt) from rfl)
   have c4:=(cell_of_heap hk 4).trans (show _ = some (.slice ad es.length cap) from rfl)
   have cs:=(Array.getElem?_eq_some_iff.1 hk).1
   clear hk
   go_enter Try.func67,Try.ntmps67
   go_wp2_with fail
   refine (to_calls ik ie e be be' (by have:=HE.out; omega) (by have:=HE'.out; omega) H.out HT.out).mono ?_
   rintro e2 w1 ⟨v12,rfl,h1⟩
   clear H c0 c1 c2 c3 c4 cs hwo HT
   obtain ⟨a12,c12,rfl,ia⟩:=row_ints h1
   have H:=hid (((((h1.front 3 rfl).front 3 rfl).front 2 rfl).front 4 rfl).front 4 rfl)
   clear h1 ia
   have hk:=Hd.nthk 4 H.out rfl
   have c0:=(cell_of_heap hk 0).trans (show _ = some (.int .i64 ik) from rfl)
   have c1:=(cell_of_heap hk 1).trans (show _ = some (.int .i64 ie) from rfl)
   have c2:=(cell_of_heap hk 2).trans (show _ = some (.int .u64 nx) from rfl)
   have c3:=(cell_of_heap hk 3).trans (show _ = some (.int .u64 bt) from rfl)
   have c4:=(cell_of_heap hk 4).trans (show _ = some (.slice ad es.length cap) from rfl)
   have cs:=(Array.getElem?_eq_some_iff.1 hk).1
   clear hk
   have hk:=Hd.nthk 3 H.out rfl
   obtain ⟨q0,q1,q2,q3,q4⟩:=cells5 hk
   have qs:=(Array.getElem?_eq_some_iff.1 hk).1
   have qf:=frozen_of_heap hk
   clear hk
   go_wp2_with fail
   refine bodyPost_ret (v:=.tuple #[.agg #[.int .i64 ik,.int .i64 ie,.int .u64 nx,.int .u64 bt,.slice ad es.length cap],.int .i64 0,.int .i64 t3]) (by simp [results,Try.results67,go_sem,q0,q1,q2,q3,q4,qs]) rfl ⟨_,_,rfl,fun h=>absurd h HH3.out,fun _=>⟨by first | rfl | trivial,by first | rfl | trivial,by first | rfl | trivial,HH3.out,?_⟩⟩
   first
    | exact ((((((((((((H.out.front 4 rfl).front 3 rfl).front 3 rfl).front 3 rfl).front 4 rfl).set 0 (.int .i64 ik)).set 1 (.int .i64 ie)).set 2 (.int .u64 nx)).set 3 (.int .u64 bt)).set 4 (.slice ad es.length cap))).drop.keep2).al
    | exact (((((((((((H.out.al.front 4 rfl).front 3 rfl).front 3 rfl).front 3 rfl).front 4 rfl).set 0 (.int .i64 ik)).set 1 (.int .i64 ie)).set 2 (.int .u64 nx)).set 3 (.int .u64 bt)).set 4 (.slice ad es.length cap))).drop.keep2
end
end Go.Proofs.Ytpcfmafokkffgaa
namespace Go.Proofs.Ytpcfmafokkffgaa
open Go.RowKit

section
variable {W w:World} {Rs:List Res}
set_option maxRecDepth 100000 in
set_option maxHeartbeats 8000000 in
theorem ago19_calls {y y':Rc} {e n key er:Int} {ad:Option Addr} {cap:Nat} (hy:RcOk y) (h0n:0 ≤ n) (h1n:n ≤ 255) (hq:ago19 y e n = (y',key,er)) (h:Hd W w (CaR (.slice ad y.es.length cap) y.es::Rs)) :
 Calls Try.prog 68 #[.agg #[.int .i64 y.ik,.int .i64 y.ie,.int .u64 y.nx,.int .u64 y.bt,.slice ad y.es.length cap],.int .i64 e,.int .i64 n] w fun e' w'=>∃ ad' cap',e' = .returned (.tuple #[.agg #[.int .i64 y'.ik,.int .i64 y'.ie,.int .u64 y'.nx,.int .u64 y'.bt,.slice ad' y'.es.length cap'],.int .i64 key,.int .i64 er]) ∧ (er = 0 → Hd W w' (CaR (.slice ad' y'.es.length cap') y'.es::CaR (.slice ad y.es.length cap) y.es::Rs)) ∧ (er ≠ 0 → ad' = ad ∧ cap' = cap ∧ y' = y ∧ Hd W w' (CaR (.slice ad y.es.length cap) y.es::Rs)):=by
 have mixed:Try.prog.follows .mixedOrders = true:=by kernel_rfl
 obtain ⟨ik,ie,nx,bt,es⟩:=y
 have HO:=hid hy
 have hws:=hid hy.ws
 have hrs:=hid hy.rises
 have hl4:es.length ≤ 4:=hy.len
 dsimp only at hws hrs hq h ⊢
 unfold ago19 at hq
 dsimp only at hq
 obtain ⟨⟨⟨ga,gk,gx,gy⟩,gb⟩,hg⟩:∃ t,kGet es e = t:=⟨_,rfl⟩
 rw [hg] at hq
 dsimp only at hq
 have HG:=hid hg
 have HGI:Hid (gb = true → WIn gx gy):=hid fun hb=>by
  have:=kGet_mem (es:=es) (n:=e) (by rw [hg]; exact hb)
  rw [hg] at this
  exact hws.out _ this.1
 have z1:IntKind.u64.wrap n = n:=IntWalk.u64_in _ (by omega)
 have H:=hid (((h.boxk (o:=.cells #[.int .i64 ik,.int .i64 ie,.int .u64 nx,.int .u64 bt,.slice ad es.length cap] 146 (0,0)) w.heap.size rfl).boxk (o:=.cells #[.int .i64 0,.int .i64 0,.int .u64 0,.int .u64 0,.slice none 0 0] 146 (0,0)) (w.heap.size + 1) (by simp)).front 2 rfl)
 obtain ⟨wo,hwo⟩:∃ wo,(w.alloc (.cells #[.int .i64 ik,.int .i64 ie,.int .u64 nx,.int .u64 bt,.slice ad es.length cap] 146 (0,0))).alloc (.cells #[.int .i64 0,.int .i64 0,.int .u64 0,.int .u64 0,.slice none 0 0] 146 (0,0)) = wo:=⟨_,rfl⟩
 rw [hwo] at H
 clear h hg hy
 cases gb
 · rw [if_neg (by simp)] at hq
   simp only [Prod.mk.injEq] at hq
   obtain ⟨rfl,rfl,rfl⟩:=hq
   clear HGI
   have hk:=Hd.nthk 2 H.out rfl
   have c0:=(cell_of_heap hk 0).trans (show _ = some (.int .i64 ik) from rfl)
   have c1:=(cell_of_heap hk 1).trans (show _ = some (.int .i64 ie) from rfl)
   have c2:=(cell_of_heap hk 2).trans (show _ = some (.int .u64 nx) from rfl)
   have c3:=(cell_of_heap hk 3).trans (show _ = some (.int .u64 bt) from rfl)
   have c4:=(cell_of_heap hk 4).trans (show _ = some (.slice ad es.length cap) from rfl)
   have cs:=(Array.getElem?_eq_some_iff.1 hk).1
   clear hk
   go_enter Try.func68,Try.ntmps68
   go_wp2_with fail
   refine (get16_is e HG.out hrs.out (by omega) H.out.ca H.out).mono ?_
   rintro e2 w1 ⟨rfl,h1⟩
   replace H:=hid h1
   clear c0 c1 c2 c3 c4 cs hwo h1 HG
   have hk:=Hd.nthk 2 H.out rfl
   have c0:=(cell_of_heap hk 0).trans (show _ = some (.int .i64 ik) from rfl)
   have c1:=(cell_of_heap hk 1).trans (show _ = some (.int .i64 ie) from rfl)
   have c2:=(cell_of_heap hk 2).trans (show _ = some (.int .u64 nx) from rfl)
   have c3:=(cell_of_heap hk 3).trans (show _ = some (.int .u64 bt) from rfl)
   have c4:=(cell_of_heap hk 4).trans (show _ = some (.slice ad es.length cap) from rfl)
   have cs:=(Array.getElem?_eq_some_iff.1 hk).1
   clear hk
   have hk:=Hd.nthk 1 H.out rfl
   obtain ⟨q0,q1,q2,q3,q4⟩:=cells5 hk
   have qs:=(Array.getElem?_eq_some_iff.1 hk).1
   have qf:=frozen_of_heap hk
   clear hk
   go_wp2_with fail
   refine bodyPost_ret (v:=.tuple #[.agg #[.int .i64 ik,.int .i64 ie,.int .u64 nx,.int .u64 bt,.slice ad es.length cap],.int .i64 0,.int .i64 12]) (by simp [results,Try.results68,go_sem,q0,q1,q2,q3,q4,qs]) rfl ⟨_,_,rfl,fun h=>absurd h (by decide),fun _=>⟨by first | rfl | trivial,by first | rfl | trivial,by first | rfl | trivial,?_⟩⟩
   first
    | exact (((((((((H.out.front 2 rfl).front 1 rfl).front 2 rfl).set 0 (.int .i64 ik)).set 1 (.int .i64 ie)).set 2 (.int .u64 nx)).set 3 (.int .u64 bt)).set 4 (.slice ad es.length cap))).drop.un2.al
    | exact (((((((((H.out.al.front 2 rfl).front 1 rfl).front 2 rfl).set 0 (.int .i64 ik)).set 1 (.int .i64 ie)).set 2 (.int .u64 nx)).set 3 (.int .u64 bt)).set 4 (.slice ad es.length cap))).drop.un2
 rw [if_pos rfl] at hq
 obtain ⟨⟨⟨t1,t2⟩,t3⟩,ht⟩:∃ t,wTake gx gy n = t:=⟨_,rfl⟩
 rw [ht] at hq
 dsimp only at hq
 have HT:=hid ht
 clear ht
 by_cases h3:t3 = 0
 · subst h3
   rw [if_pos rfl] at hq
   obtain ⟨⟨es',⟨pa,pk,px,py⟩,pb⟩,hp⟩:∃ t,kPut es ⟨ga,gk,t1,t2⟩ = t:=⟨_,rfl⟩
   rw [hp] at hq
   dsimp only at hq
   simp only [Prod.mk.injEq] at hq
   obtain ⟨rfl,rfl,rfl⟩:=hq
   have HP:=hid hp
   clear hp
   have hk:=Hd.nthk 2 H.out rfl
   have c0:=(cell_of_heap hk 0).trans (show _ = some (.int .i64 ik) from rfl)
   have c1:=(cell_of_heap hk 1).trans (show _ = some (.int .i64 ie) from rfl)
   have c2:=(cell_of_heap hk 2).trans (show _ = some (.int .u64 nx) from rfl)
   have c3:=(cell_of_heap hk 3).trans (show _ = some (.int .u64 bt) from rfl)
   have c4:=(cell_of_heap hk 4).trans (show _ = some (.slice ad es.length cap) from rfl)
   have cs:=(Array.getElem?_eq_some_iff.1 hk).1
   clear hk
   go_enter Try.func68,Try.ntmps68
   go_wp2_with fail
   refine (get16_is e HG.out hrs.out (by omega) H.out.ca H.out).mono ?_
   rintro e2 w1 ⟨rfl,h1⟩
   replace H:=hid h1
   clear c0 c1 c2 c3 c4 cs hwo h1 HG
   go_wp2_with fail
   have HB:=hid (H.out.bxk w1.heap.size rfl (o:=.cells #[.int .i64 ga,.int .i64 gk,.int .u64 gx,.int .u64 gy] 182 (0,0)))
   clear H
   refine (take14_calls (HGI.out (by first | rfl | trivial)) h0n h1n HT.out _).mono ?_
   rintro e2 w2 ⟨rfl,h1⟩
   have H:=hid (HB.out.still h1)
   clear h1 HB HT HGI z1
   have hk:=Hd.nthk 3 H.out rfl
   have c0:=(cell_of_heap hk 0).trans (show _ = some (.int .i64 ik) from rfl)
   have c1:=(cell_of_heap hk 1).trans (show _ = some (.int .i64 ie) from rfl)
   have c2:=(cell_of_heap hk 2).trans (show _ = some (.int .u64 nx) from rfl)
   have c3:=(cell_of_heap hk 3).trans (show _ = some (.int .u64 bt) from rfl)
   have c4:=(cell_of_heap hk 4).trans (show _ = some (.slice ad es.length cap) from rfl)
   have cs:=(Array.getElem?_eq_some_iff.1 hk).1
   clear hk
   have hk:=Hd.nthk 1 H.out rfl
   obtain ⟨g0,g1,g2,g3⟩:=cells4 hk
   have gs:=(Array.getElem?_eq_some_iff.1 hk).1
   have gf:=frozen_of_heap hk
   clear hk
   go_wp2_with fail
   have HB:=hid (((((((H.out.front 3 rfl).front 3 rfl).front 2 rfl).front 3 rfl).set 2 (.int .u64 t1)).set 3 (.int .u64 t2)).al (o:=.cells #[.int .u64 t1,.int .u64 t2] 141 (0,0)))
   clear H c0 c1 c2 c3 c4 cs g0 g1 g2 g3 gs gf
   have H:=hid ((((HB.out.front 3 rfl).front 3 rfl).front 2 rfl).front 3 rfl)
   clear HB
   refine (put16_is ga gk t1 t2 HP.out hrs.out (by omega) H.out.ca H.out).mono ?_
   rintro e2 w3 ⟨ad',cap',rfl,h1⟩
   clear H HP
   have H:=hid h1
   clear h1
   have hk:=Hd.nthk 4 H.out rfl
   have c0:=(cell_of_heap hk 0).trans (show _ = some (.int .i64 ik) from rfl)
   have c1:=(cell_of_heap hk 1).trans (show _ = some (.int .i64 ie) from rfl)
   have c2:=(cell_of_heap hk 2).trans (show _ = some (.int .u64 nx) from rfl)
   have c3:=(cell_of_heap hk 3).trans (show _ = some (.int .u64 bt) from rfl)
   have c4:=(cell_of_heap hk 4).trans (show _ = some (.slice ad es.length cap) from rfl)
   have cs:=(Array.getElem?_eq_some_iff.1 hk).1
   have cf:=frozen_of_heap hk
   clear hk
   go_wp2_with fail
   have HB:=hid ((((((H.out.front 3 rfl).front 3 rfl).front 3 rfl).front 3 rfl).front 4 rfl).set 4 (.slice ad' es'.length cap'))
   clear H c0 c1 c2 c3 c4 cs cf
   have H:=hid (((((HB.out.front 2 rfl).front 2 rfl).front 3 rfl).front 3 rfl).front 4 rfl)
   clear HB
   refine hold_coreB (P:=Try.prog) (W:=W) (Rs:=(Blk w.heap.size (.cells #[.int .i64 ik,.int .i64 ie,.int .u64 nx,.int .u64 bt,.slice ad' es'.length cap'] 146 (0,0))::Blk w1.heap.size (.cells #[.int .i64 ga,.int .i64 gk,.int .u64 t1,.int .u64 t2] 182 (0,0))::CaR (.slice ad' es'.length cap') es'::CaR (.slice ad es.length cap) es::Rs)) [[],[],[1],[0],[2],[]] [[],[],[],[],[],[]] ([some 46,some 47,some 48,none,some 7,some 8]:List (Option Nat)) ([none,none,none,none,none,none,some 3]:List (Option Nat)) ((fun _=>.agg #[.int .i64 ik,.int .i64 ie,.int .u64 nx,.int .u64 bt,.slice ad' es'.length cap'])::(fun _=>pt w1.heap.size 1)::(fun _=>.int .i64 gk)::(fun _=>undef)::(fun _=>.int .i64 gk)::(fun _=>.int .i64 0)::[]) (zR::zR::zR::zR::zR::zR::(fun _=>[Blk (w.heap.size + 1) (.cells #[.int .i64 0,.int .i64 0,.int .u64 0,.int .u64 0,.slice none 0 0] 146 (0,0))])::([]:List (List Gh → List Res))) (zR::zR::zR::zR::zR::zR::(fun _=>[Blk (w.heap.size + 1) (.cells #[.int .i64 ik,.int .i64 ie,.int .u64 nx,.int .u64 bt,.slice ad' es'.length cap'] 146 (0,0))])::([]:List (List Gh → List Res))) (by kernel_rfl) rfl (hold_lt (n:=49) (by decide)) H.out rfl (by decide) (hold_nil (fs:=[3]) trivial rfl ?nil9) ?gd9 ?step9 (fun t=>(decide (7 ≤ t) && decide (t ≤ 8)) || (decide (46 ≤ t) && decide (t ≤ 48))) (by decide) ?done9 (fun I h0 st dn=>run_wpB mixed I h0 st dn)
   case nil9 =>
    intro s gs hs
    simp only [List.mem_cons,List.not_mem_nil,or_false] at hs
    subst hs; rfl
   case gd9 =>
    repeat (refine StepAll.cons (by first | exact trivial | exact fun g=>rfl) ?_)
    exact trivial
   case step9 =>
    refine StepAll.cons ?_ ?_
    · refine HoldStepB.val (by decide) fun a wx γ hn hr hres hpre Ss hH K hK=>?_
      have e3:a.eval (.tmp 3) = .pointer (some ⟨w.heap.size,0,none⟩):=(hr 3 (by decide)).trans rfl
      exact hold_run (v:=.agg #[.int .i64 ik,.int .i64 ie,.int .u64 nx,.int .u64 bt,.slice ad' es'.length cap']) (by clear hn hr hK; generalize a.eval = ρ at *; simp [execOp,e3,cell_of_heap (Hd.nthk 0 hH.rear rfl),go_sem]) rfl rfl hH hK
    refine StepAll.cons ?_ ?_
    · refine HoldStepB.val (by decide) fun a wx γ hn hr hres hpre Ss hH K hK=>?_
      have e9:a.eval (.tmp 9) = .pointer (some ⟨w1.heap.size,0,none⟩):=(hr 9 (by decide)).trans rfl
      exact hold_run (v:=.pointer (some ⟨w1.heap.size,1,none⟩)) (by clear hn hr hK; generalize a.eval = ρ at *; simp [execOp,e9,go_sem]) rfl rfl hH hK
    refine StepAll.cons ?_ ?_
    · refine HoldStepB.val (by decide) fun a wx γ hn hr hres hpre Ss hH K hK=>?_
      have e47:a.eval (.tmp 47) = .pointer (some ⟨w1.heap.size,1,none⟩):=hn 1 (by decide) 47 rfl
      exact hold_run (v:=.int .i64 gk) (by clear hn hr hK; generalize a.eval = ρ at *; simp [execOp,e47,cell_of_heap (Hd.nthk 1 hH.rear rfl),go_sem]) rfl rfl hH hK
    refine StepAll.cons ?_ ?_
    · refine HoldStepB.fil 6 (by decide) fun a wx γ hn hr hres hpre Ss hH K hK=>?_
      have e6:a.eval (.tmp 6) = .pointer (some ⟨(w.heap.size + 1),0,none⟩):=(hr 6 (by decide)).trans rfl
      have e46:a.eval (.tmp 46) = .agg #[.int .i64 ik,.int .i64 ie,.int .u64 nx,.int .u64 bt,.slice ad' es'.length cap']:=hn 0 (by decide) 46 rfl
      have hH2:Hd W wx (Blk (w.heap.size + 1) (.cells #[.int .i64 0,.int .i64 0,.int .u64 0,.int .u64 0,.slice none 0 0] 146 (0,0))::(Ss ++ (Blk w.heap.size (.cells #[.int .i64 ik,.int .i64 ie,.int .u64 nx,.int .u64 bt,.slice ad' es'.length cap'] 146 (0,0))::Blk w1.heap.size (.cells #[.int .i64 ga,.int .i64 gk,.int .u64 t1,.int .u64 t2] 182 (0,0))::CaR (.slice ad' es'.length cap') es'::CaR (.slice ad es.length cap) es::Rs))):=hH
      have hk:=hH2.blk
      have c0:=(cell_of_heap hk 0).trans (show _ = some (.int .i64 0) from rfl)
      have c1:=(cell_of_heap hk 1).trans (show _ = some (.int .i64 0) from rfl)
      have c2:=(cell_of_heap hk 2).trans (show _ = some (.int .u64 0) from rfl)
      have c3:=(cell_of_heap hk 3).trans (show _ = some (.int .u64 0) from rfl)
      have c4:=(cell_of_heap hk 4).trans (show _ = some (.slice none 0 0) from rfl)
      have cf:=frozen_of_heap hk
      clear hk hH
      exact hold_filB (w':=(((((wx.setCell ⟨(w.heap.size + 1),0,none⟩ (.int .i64 ik)).setCell ⟨(w.heap.size + 1),1,none⟩ (.int .i64 ie)).setCell ⟨(w.heap.size + 1),2,none⟩ (.int .u64 nx)).setCell ⟨(w.heap.size + 1),3,none⟩ (.int .u64 bt)).setCell ⟨(w.heap.size + 1),4,none⟩ (.slice ad' es'.length cap'))) (by clear hn hr hK hH2; generalize a.eval = ρ at *; simp [execOp,e6,e46,c0,c1,c2,c3,c4,cf,go_sem]) rfl rfl (((((hH2.set 0 (.int .i64 ik)).set 1 (.int .i64 ie)).set 2 (.int .u64 nx)).set 3 (.int .u64 bt)).set 4 (.slice ad' es'.length cap')) hK
    refine .cons (pN 2 48 rfl fun _=>⟨rfl,rfl⟩) ?_
    refine StepAll.cons ?_ ?_
    · refine HoldStepB.val (by decide) fun a wx γ hn hr hres hpre Ss hH K hK=>?_
      have ec:=evc a
      exact hold_run (v:=.int .i64 0) (by clear hn hr hK; generalize a.eval = ρ at *; simp [execOp,ec,go_sem]) rfl rfl hH hK
    exact trivial
   case done9 =>
    intro f w9 g9 hv h9
    have er7:f 7 = .int .i64 gk:=hv 4 7 rfl
    have er8:f 8 = .int .i64 0:=hv 5 8 rfl
    have hd:Hd W w9 (Blk (w.heap.size + 1) (.cells #[.int .i64 ik,.int .i64 ie,.int .u64 nx,.int .u64 bt,.slice ad' es'.length cap'] 146 (0,0))::Blk w.heap.size (.cells #[.int .i64 ik,.int .i64 ie,.int .u64 nx,.int .u64 bt,.slice ad' es'.length cap'] 146 (0,0))::Blk w1.heap.size (.cells #[.int .i64 ga,.int .i64 gk,.int .u64 t1,.int .u64 t2] 182 (0,0))::CaR (.slice ad' es'.length cap') es'::CaR (.slice ad es.length cap) es::Rs):=h9
    clear hv h9 
    clear g9
    simp only [patchG,Nat.reduceAdd,Nat.reduceLeDiff,decide_true,decide_false,Bool.and_true,Bool.and_false,Bool.or_true,Bool.or_false,cond_true,cond_false,er7,er8]
    clear er7 er8
    clear H
    have H:=hid hd
    clear hd
    have hk:=Hd.nthk 0 H.out rfl
    obtain ⟨q0,q1,q2,q3,q4⟩:=cells5 hk
    have qs:=(Array.getElem?_eq_some_iff.1 hk).1
    clear hk
    go_wp2_with fail
    refine bodyPost_ret (v:=.tuple #[.agg #[.int .i64 ik,.int .i64 ie,.int .u64 nx,.int .u64 bt,.slice ad' es'.length cap'],.int .i64 gk,.int .i64 0]) (by simp [results,Try.results68,go_sem,q0,q1,q2,q3,q4]) rfl ⟨_,_,rfl,fun _=>?_,fun h=>absurd rfl h⟩
    exact H.out.drop.drop.drop
 · rw [if_neg h3] at hq
   simp only [Prod.mk.injEq] at hq
   obtain ⟨rfl,rfl,rfl⟩:=hq
   have g1:(t3 != 0) = true:=by rw [bne_iff_ne]; exact h3
   have g2:decide (t3 = 0) = false:=by simpa using h3
   have HH3:=hid h3
   clear h3
   have hk:=Hd.nthk 2 H.out rfl
   have c0:=(cell_of_heap hk 0).trans (show _ = some (.int .i64 ik) from rfl)
   have c1:=(cell_of_heap hk 1).trans (show _ = some (.int .i64 ie) from rfl)
   have c2:=(cell_of_heap hk 2).trans (show _ = some (.int .u64 nx) from rfl)
   have c3:=(cell_of_heap hk 3).trans (show _ = some (.int .u64 bt) from rfl)
   have c4:=(cell_of_heap hk 4).trans (show _ = some (.slice ad es.length cap) from rfl)
   have cs:=(Array.getElem?_eq_some_iff.1 hk).1
   clear hk
   go_enter Try.func68,Try.ntmps68
   go_wp2_with fail
   refine (get16_is e HG.out hrs.out (by omega) H.out.ca H.out).mono ?_
   rintro e2 w1 ⟨rfl,h1⟩
   replace H:=hid h1
   clear c0 c1 c2 c3 c4 cs hwo h1 HG
   go_wp2_with fail
   have HB:=hid (H.out.bxk w1.heap.size rfl (o:=.cells #[.int .i64 ga,.int .i64 gk,.int .u64 gx,.int .u64 gy] 182 (0,0)))
   clear H
   refine (take14_calls (HGI.out (by first | rfl | trivial)) h0n h1n HT.out _).mono ?_
   rintro e2 w2 ⟨rfl,h1⟩
   have H:=hid (HB.out.still h1)
   clear h1 HB HT HGI z1
   have hk:=Hd.nthk 3 H.out rfl
   have c0:=(cell_of_heap hk 0).trans (show _ = some (.int .i64 ik) from rfl)
   have c1:=(cell_of_heap hk 1).trans (show _ = some (.int .i64 ie) from rfl)
   have c2:=(cell_of_heap hk 2).trans (show _ = some (.int .u64 nx) from rfl)
   have c3:=(cell_of_heap hk 3).trans (show _ = some (.int .u64 bt) from rfl)
   have c4:=(cell_of_heap hk 4).trans (show _ = some (.slice ad es.length cap) from rfl)
   have cs:=(Array.getElem?_eq_some_iff.1 hk).1
   clear hk
   have hk:=Hd.nthk 2 H.out rfl
   obtain ⟨q0,q1,q2,q3,q4⟩:=cells5 hk
   have qs:=(Array.getElem?_eq_some_iff.1 hk).1
   have qf:=frozen_of_heap hk
   clear hk
   go_wp2_with fail
   refine bodyPost_ret (v:=.tuple #[.agg #[.int .i64 ik,.int .i64 ie,.int .u64 nx,.int .u64 bt,.slice ad es.length cap],.int .i64 0,.int .i64 t3]) (by simp [results,Try.results68,go_sem,q0,q1,q2,q3,q4,qs]) rfl ⟨_,_,rfl,fun h=>absurd h HH3.out,fun _=>⟨by first | rfl | trivial,by first | rfl | trivial,by first | rfl | trivial,?_⟩⟩
   first
    | exact ((((((((((H.out.front 3 rfl).front 2 rfl).front 2 rfl).front 3 rfl).set 0 (.int .i64 ik)).set 1 (.int .i64 ie)).set 2 (.int .u64 nx)).set 3 (.int .u64 bt)).set 4 (.slice ad es.length cap))).drop.un2.un2.al
    | exact ((((((((((H.out.al.front 3 rfl).front 2 rfl).front 2 rfl).front 3 rfl).set 0 (.int .i64 ik)).set 1 (.int .i64 ie)).set 2 (.int .u64 nx)).set 3 (.int .u64 bt)).set 4 (.slice ad es.length cap))).drop.un2.un2
end
end Go.Proofs.Ytpcfmafokkffgaa
