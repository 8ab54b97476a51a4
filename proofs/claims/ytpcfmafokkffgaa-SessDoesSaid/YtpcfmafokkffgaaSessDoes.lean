/-
  A walk through the statement SessDoes. For every input.
-/
import Derived.Test.YtpcfmafokkffgaaD17
import Derived.Test.YtpcfmafokkffgaaD3
import Derived.Deep.CutBlock
import Derived.Deep.DeepCutAuto
import Derived.Laws.BitsLemmas
namespace Go.Proofs.Ytpcfmafokkffgaa
open Go.RowKit

theorem i64_and1 (n:Int):bits .and .i64 n 1 = n % 2:=by
 have h127:(BitVec.ofInt 64 1).toNat = 2 ^ 1 - 1:=by decide
 have key:(BitVec.ofInt 64 n &&& BitVec.ofInt 64 1).toNat = (n % ((2 ^ 64:Nat):Int)).toNat % 2 ^ 1:=by
  rw [BitVec.toNat_and,BitVec.toNat_ofInt,h127,Nat.and_two_pow_sub_one_eq_mod]
 show IntKind.i64.wrap ((BitVec.ofInt 64 n &&& BitVec.ofInt 64 1).toNat:Nat) = n % 2
 rw [key,IntKind.wrap_i64]
 omega
theorem i64_and7 (n:Int):bits .and .i64 n 7 = n % 8:=by
 have h127:(BitVec.ofInt 64 7).toNat = 2 ^ 3 - 1:=by decide
 have key:(BitVec.ofInt 64 n &&& BitVec.ofInt 64 7).toNat = (n % ((2 ^ 64:Nat):Int)).toNat % 2 ^ 3:=by
  rw [BitVec.toNat_and,BitVec.toNat_ofInt,h127,Nat.and_two_pow_sub_one_eq_mod]
 show IntKind.i64.wrap ((BitVec.ofInt 64 n &&& BitVec.ofInt 64 7).toNat:Nat) = n % 8
 rw [key,IntKind.wrap_i64]
 omega
theorem i64_and15 (n:Int):bits .and .i64 n 15 = n % 16:=by
 have h127:(BitVec.ofInt 64 15).toNat = 2 ^ 4 - 1:=by decide
 have key:(BitVec.ofInt 64 n &&& BitVec.ofInt 64 15).toNat = (n % ((2 ^ 64:Nat):Int)).toNat % 2 ^ 4:=by
  rw [BitVec.toNat_and,BitVec.toNat_ofInt,h127,Nat.and_two_pow_sub_one_eq_mod]
 show IntKind.i64.wrap ((BitVec.ofInt 64 n &&& BitVec.ofInt 64 15).toNat:Nat) = n % 16
 rw [key,IntKind.wrap_i64]
 omega
theorem i64_and255 (n:Int):bits .and .i64 n 255 = n % 256:=by
 have h127:(BitVec.ofInt 64 255).toNat = 2 ^ 8 - 1:=by decide
 have key:(BitVec.ofInt 64 n &&& BitVec.ofInt 64 255).toNat = (n % ((2 ^ 64:Nat):Int)).toNat % 2 ^ 8:=by
  rw [BitVec.toNat_and,BitVec.toNat_ofInt,h127,Nat.and_two_pow_sub_one_eq_mod]
 show IntKind.i64.wrap ((BitVec.ofInt 64 n &&& BitVec.ofInt 64 255).toNat:Nat) = n % 256
 rw [key,IntKind.wrap_i64]
 omega
theorem neqf_S17 (h s r v:Int) (w:World):(binOp .neq 80 (.agg #[.int .i64 h,.int .i64 s,.int .i64 r,.int .i64 v]) (.agg #[.int .i64 h,.int .i64 s,.int .i64 r,.int .i64 v])).run Try.prog w = .ok (.bool false) w:=by
 have q:(Op.equalIn 10000 80 (.agg #[.int .i64 h,.int .i64 s,.int .i64 r,.int .i64 v]) (.agg #[.int .i64 h,.int .i64 s,.int .i64 r,.int .i64 v])).run Try.prog w = .ok true w:=by
  go_simp
 rw [run_neq_struct,q]
 rfl
theorem row_intsn {W w:World} {v:Value} {ks:List Int} {n:Nat} {Rs:List Res} (hn:n = ks.length) (h:Hd W w (RowR 3 1 v n (nums .i64 ks)::Rs)):∃ ad cap,v = .slice ad n cap ∧ IntsAt w ad ks:=by
 subst hn
 exact row_ints h
/-- The sides as the round takes them. -/
def Sides (p1 p2 d1 d2 pa pb qa qb:Nat):Prop:=(p1 = pa ∧ p2 = pb ∧ d1 = qa ∧ d2 = qb) ∨ (p1 = pb ∧ p2 = pa ∧ d1 = qb ∧ d2 = qa)
/-- What was sealed has numbers of its range. -/
def SeenIn (l:List Tr):Prop:=∀ (k:Nat) (z:Tr),l[k]? = some z → 0 ≤ z.1 ∧ z.1 ≤ 1000 ∧ 0 ≤ z.2.1 ∧ z.2.1 ≤ 256
theorem SeenIn.nil:SeenIn []:=fun k z h=>by simp at h
theorem SeenIn.snoc {l:List Tr} {z:Tr} (h:SeenIn l) (hz:0 ≤ z.1 ∧ z.1 ≤ 1000 ∧ 0 ≤ z.2.1 ∧ z.2.1 ≤ 256):SeenIn (l ++ [z]):=fun k y hy=>by
 rcases Nat.lt_trichotomy k l.length with hk | hk | hk
 · rw [List.getElem?_append_left hk] at hy
   exact h k y hy
 · subst hk
   rw [List.getElem?_append_right (Nat.le_refl _)] at hy
   simp at hy
   subst hy
   exact hz
 · rw [List.getElem?_eq_none (by simp; omega)] at hy
   cases hy
theorem seal19_in {m:Int} {L:List T} {x:Se} {s:ByteArray} (h:SeOk x):0 ≤ (seal19 m L x s).1.1 ∧ (seal19 m L x s).1.1 ≤ 1000 ∧ 0 ≤ (seal19 m L x s).1.2.1 ∧ (seal19 m L x s).1.2.1 ≤ 256:=by
 have ho:=seal19_ok (m:=m) (L:=L) (s:=s) h
 unfold seal19 at ho ⊢
 by_cases c1:1000 < (s.size:Int)
 · rw [if_pos c1]
   exact ⟨Int.le_refl 0,(by decide:(0:Int) ≤ 1000),Int.le_refl 0,(by decide:(0:Int) ≤ 256)⟩
 rw [if_neg c1] at ho ⊢
 by_cases c2:256 ≤ x.sent
 · rw [if_pos c2] at ho ⊢
   by_cases c3:(next15 m L x.ok x.oe).2.1 = 0
   · rw [if_pos c3] at ho ⊢
     by_cases c4:(sealW m (next15 m L x.ok x.oe).2.2 (next15 m L x.ok x.oe).1.1 0 x.h s).2.1 = 0
     · rw [if_pos c4] at ho ⊢
       exact ⟨ho.oe0,ho.oe1,Int.le_refl 0,(by decide:(0:Int) ≤ 256)⟩
     · rw [if_neg c4]
       exact ⟨Int.le_refl 0,(by decide:(0:Int) ≤ 1000),Int.le_refl 0,(by decide:(0:Int) ≤ 256)⟩
   · rw [if_neg c3]
     exact ⟨Int.le_refl 0,(by decide:(0:Int) ≤ 1000),Int.le_refl 0,(by decide:(0:Int) ≤ 256)⟩
 · rw [if_neg c2] at ho ⊢
   by_cases c4:(sealW m L x.ok x.sent x.h s).2.1 = 0
   · rw [if_pos c4] at ho ⊢
     exact ⟨h.oe0,h.oe1,h.s0,h.s1⟩
   · rw [if_neg c4]
     exact ⟨Int.le_refl 0,(by decide:(0:Int) ≤ 1000),Int.le_refl 0,(by decide:(0:Int) ≤ 256)⟩
theorem seal19_rc {m:Int} {L:List T} {x:Se} {s:ByteArray}:(seal19 m L x s).2.1.rc = x.rc:=by
 unfold seal19
 split
 · rfl
 · split
   · split
     · split <;> rfl
     · rfl
   · split <;> rfl
theorem step19_rc {m:Int} {L:List T} {x:Se}:(step19 m L x).2.1.rc = x.rc:=by
 unfold step19
 split <;> rfl
theorem and_range {u t:Int} {m:Int} (h:u % m = t) (hm:0 < m):0 ≤ t ∧ t < m:=by
 subst h
 exact ⟨Int.emod_nonneg _ (by omega),Int.emod_lt_of_pos _ hm⟩
theorem rnew19_ok {W w:World} {Rs:List Res} {b:Nat} {L:List T} {m h s r v:Int} (hy:getB L h = true ∧ getB L s = true ∧ getB L r = true) (hd:Hd W w (RSto b L m::Rs)) :
 Calls Try.prog 35 #[.pointer (some ⟨b,0,none⟩),.agg #[.int .i64 h,.int .i64 s,.int .i64 r,.int .i64 v]] w fun e' w'=>∃ p,e' = .returned (.tuple #[.pointer (some ⟨p,0,none⟩),.int .i64 0]) ∧ Hd W w' (RSto b L m::Blk p (rsO b (se0 h s r v) (.slice none 0 0))::Rs) :=
 (rnew19_calls h s r v hd).mono fun e w' hh=>by
  split at hh
  · exact hh
  · exact absurd hy ‹_›
theorem rnew19_no {W w:World} {Rs:List Res} {b:Nat} {L:List T} {m h s r v:Int} (hy:¬ (getB L h = true ∧ getB L s = true ∧ getB L r = true)) (hd:Hd W w (RSto b L m::Rs)) :
 Calls Try.prog 35 #[.pointer (some ⟨b,0,none⟩),.agg #[.int .i64 h,.int .i64 s,.int .i64 r,.int .i64 v]] w fun e' w'=>e' = .returned (.tuple #[.pointer none,.int .i64 1]) ∧ Hd W w' (RSto b L m::Rs) :=
 (rnew19_calls h s r v hd).mono fun e w' hh=>by
  split at hh
  · exact absurd ‹_› hy
  · exact hh

set_option maxRecDepth 100000 in
set_option maxHeartbeats 32000000 in
theorem sessDoes_walk (a0:Option Addr) (len0 cap0:Nat) (z0:List T) (xh xs xr xv:Int) (a2:Option Addr) (len2 cap2:Nat) (z2:List (List Int)) (W:World) (e0:len0 = z0.length) (m0:len0 ≤ maxLen) (i0:TermsIn W a0 z0) (e2:len2 = z2.length) (m2:len2 ≤ maxLen) (i2:RowsIn 4 .i64 W a2 z2) :
 Calls Try.prog 9 #[.slice a0 len0 cap0,.agg #[.int .i64 xh,.int .i64 xs,.int .i64 xr,.int .i64 xv],.slice a2 len2 cap2] W fun e w'=>e = .returned (.bool true) ∧ Below W.heap.size W w':=by
 have E0:=hid e0
 have M0:=hid m0
 have I0:=hid i0
 have E2:=hid e2
 have I2:=hid i2
 have hm2:len2 ≤ 9223372036854775807:=by unfold maxLen at m2; exact m2
 clear e0 m0 i0 e2 m2 i2
 go_enter Try.func9,Try.ntmps9
 go_wp2_with fail
 refine (stores_calls ((Hd.refl W).box _) a0 len0 cap0 z0 E0.out M0.out I0.out 20 (by decide)).mono ?_
 rintro e w1 ⟨b,b',L,rfl,hg,hl,hd⟩
 have H:=hid hd
 clear hd hg hl
 by_cases hyes:getB L xh = true ∧ getB L xs = true ∧ getB L xr = true
 · as_aux_lemma =>
    have HY:=hid hyes
    have HY2:Hid (getB L xh = true ∧ getB L xr = true ∧ getB L xs = true):=hid ⟨hyes.1,hyes.2.2,hyes.2.1⟩
    clear hyes
    have hk:=Hd.nthk 2 H.out rfl
    obtain ⟨b0,b1,b2,b3⟩:=cells4 hk
    have bs:=(Array.getElem?_eq_some_iff.1 hk).1
    clear hk
    go_wp2_with fail
    refine (new19_ok (h:=xh) (s:=xs) (r:=xr) (v:=xv) HY.out H.out).mono ?_
    rintro e w2 ⟨pa,rfl,h1⟩
    clear H b0 b1 b2 b3 bs
    have H:=hid h1
    clear h1
    have hk:=Hd.nthk 3 H.out rfl
    obtain ⟨b0,b1,b2,b3⟩:=cells4 hk
    have bs:=(Array.getElem?_eq_some_iff.1 hk).1
    clear hk
    go_wp2_with fail
    refine (conv17_calls xh xs xr xv _).mono ?_
    rintro e w3 ⟨rfl,h1⟩
    replace H:=hid (H.out.still h1)
    clear h1 b0 b1 b2 b3 bs
    have hk:=Hd.nthk 3 H.out rfl
    obtain ⟨b0,b1,b2,b3⟩:=cells4 hk
    have bs:=(Array.getElem?_eq_some_iff.1 hk).1
    clear hk
    go_wp2_with fail
    refine (rnew19_ok (h:=xh) (s:=xs) (r:=xr) (v:=xv) HY.out (H.out.front 2 rfl)).mono ?_
    rintro e w4 ⟨qa,rfl,h1⟩
    clear H b0 b1 b2 b3 bs
    have H:=hid h1
    clear h1
    have hk:=Hd.nthk 4 H.out rfl
    obtain ⟨b0,b1,b2,b3⟩:=cells4 hk
    have bs:=(Array.getElem?_eq_some_iff.1 hk).1
    clear hk
    obtain ⟨p13,hp13⟩:∃ q,w4.heap.size = q:=⟨_,rfl⟩
    go_wp2_with fail
    have H2:=hid (H.out.boxk (o:=.cells #[.int .i64 xh,.int .i64 xr,.int .i64 xs,.int .i64 xv] 72 (0,0)) p13 hp13)
    clear H b0 b1 b2 b3 bs
    refine (new19_ok (h:=xh) (s:=xr) (r:=xs) (v:=xv) HY2.out (H2.out.front 3 rfl)).mono ?_
    rintro e w5 ⟨pb,rfl,h1⟩
    clear H2 hp13
    have H:=hid h1
    clear h1
    have hk:=Hd.nthk 2 H.out rfl
    obtain ⟨b0,b1,b2,b3⟩:=cells4 hk
    have bs:=(Array.getElem?_eq_some_iff.1 hk).1
    clear hk
    go_wp2_with fail
    refine (conv17_calls xh xr xs xv _).mono ?_
    rintro e w6 ⟨rfl,h1⟩
    replace H:=hid (H.out.still h1)
    clear h1 b0 b1 b2 b3 bs
    have hk:=Hd.nthk 2 H.out rfl
    obtain ⟨b0,b1,b2,b3⟩:=cells4 hk
    have bs:=(Array.getElem?_eq_some_iff.1 hk).1
    clear hk
    go_wp2_with fail
    refine (rnew19_ok (h:=xh) (s:=xr) (r:=xs) (v:=xv) HY2.out (H.out.front 3 rfl)).mono ?_
    rintro e w7 ⟨qb,rfl,h1⟩
    clear H b0 b1 b2 b3 bs
    have HF:=hid (four_of ((((((((h1.front 7 rfl).front 5 rfl).front 7 rfl).front 7 rfl).front 7 rfl).front 7 rfl).front 7 rfl).front 7 rfl))
    clear h1
    go_wp2_with fail
    have HF2:=hid (HF.out.row (E:=55) w7.heap.size rfl 3)
    clear HF
    go_loopw [18,19] (fun vs q wr=>∃ (i g c n:Nat) (l:List Tr) (x y:Se) (L:List T),i ≤ 30 ∧ i ≤ len2 ∧ vs = .slice (some ⟨g,0,none⟩) n c ∧ q = .int .i64 i ∧ Hid (Four W wr b pa pb b' qa qb x y L x y L 1000 [RowR 55 3 (.slice (some ⟨g,0,none⟩) n c) n (trC l),Blk p13 (.cells #[.int .i64 xh,.int .i64 xr,.int .i64 xs,.int .i64 xv] 72 (0,0)),Blk W.heap.size (.cells #[.int .i64 xh,.int .i64 xs,.int .i64 xr,.int .i64 xv] 72 (0,0))]) ∧ Hid (SeOk x ∧ SeOk y ∧ RcFit x.rc ∧ RcFit y.rc) ∧ Hid (n = l.length ∧ n ≤ i ∧ SeenIn l)) (fun _ q _=>30 - (intOf q).toNat)
    case atStart=>exact ⟨0,_,_,0,[],_,_,_,by omega,by omega,rfl,rfl,HF2,hid ⟨se0_ok _ _ _ _,se0_ok _ _ _ _,⟨wFit_zero,fun e he=>by simp [se0] at he⟩,⟨wFit_zero,fun e he=>by simp [se0] at he⟩⟩,hid ⟨rfl,by omega,SeenIn.nil⟩⟩
    case round =>
     clear HF2 HY HY2
     obtain ⟨i,g,c,n,l,x,y,L,hi,hil,rfl,rfl,F,O,N⟩:=hrel
     obtain ⟨wl,hwl⟩:∃ wl:World,wl = wr:=⟨_,rfl⟩
     rw [← hwl] at F ⊢
     clear hwl wr
     by_cases hlt:i < len2 ∧ i < 30
     · as_aux_lemma =>
        have hd1:decide ((i:Int) < (len2:Int)) = true:=by simp; omega
        have hd1':decide (i < len2) = true:=by simp; omega
        have hd2:decide ((i:Int) < 30) = true:=by simp; omega
        have z4:IntKind.i64.wrap ((i:Int) + 1) = (i:Int) + 1:=IntWalk.i64_in _ (by omega)
        obtain ⟨z,hz⟩:∃ z,z2[i]? = some z:=⟨z2[i]'(by rw [← E2.out]; exact hlt.1),List.getElem?_eq_getElem _⟩
        obtain ⟨hzl,hzr,gg,oo,rfl,hc⟩:=I2.out i z hz
        obtain ⟨u0,u1,u2,u3,rfl⟩:∃ u0 u1 u2 u3,z = [u0,u1,u2,u3]:=by
         match z,hzl with
         | [a,b,c,d],_=>exact ⟨a,b,c,d,rfl⟩
        have B1:Hid (-9223372036854775808 ≤ u1 ∧ u1 ≤ 9223372036854775807):=hid (by have:=hzr u1 (by simp); simpa [IntKind.min,IntKind.max,IntKind.signed,IntKind.bits] using this)
        have B2:Hid (-9223372036854775808 ≤ u2 ∧ u2 ≤ 9223372036854775807):=hid (by have:=hzr u2 (by simp); simpa [IntKind.min,IntKind.max,IntKind.signed,IntKind.bits] using this)
        have B3:Hid (-9223372036854775808 ≤ u3 ∧ u3 ≤ 9223372036854775807):=hid (by have:=hzr u3 (by simp); simpa [IntKind.min,IntKind.max,IntKind.signed,IntKind.bits] using this)
        have k0:=hc 0 u0 rfl
        have k1:=hc 1 u1 rfl
        have k2:=hc 2 u2 rfl
        have k3:=hc 3 u3 rfl
        simp only [Nat.add_zero] at k0
        have KB:=hid (World.block_lt_of_cell? W _ k0)
        have K0:=hid k0
        have K1:=hid k1
        have K2:=hid k2
        have K3:=hid k3
        have zj0:(0:Int) ≤ (i:Int):=by omega
        have zj1:(i:Int) < (len2:Int):=by omega
        have HLT:=hid hlt
        clear hc hz hzl hzr hlt k0 k1 k2 k3 hi hil
        obtain ⟨t1,ht1⟩:∃ t,bits .and .i64 u1 1 = t:=⟨_,rfl⟩
        obtain ⟨q1,hq1⟩:∃ q,(t1 == 1) = q:=⟨_,rfl⟩
        obtain ⟨t0,ht0⟩:∃ t,bits .and .i64 u0 7 = t:=⟨_,rfl⟩
        have c0:=(F.out.below.cell (p:=⟨gg,oo + i * 4,none⟩) KB.out).trans K0.out
        have c1:=(F.out.below.cell (p:=⟨gg,oo + i * 4 + 1,none⟩) KB.out).trans K1.out
        go_upto_if 142 with fail
        go_cut [20,21] (fun s20 s21 wx=>∃ (p1 p2 d1 d2:Nat) (x1 y1:Se),s20 = .pointer (some ⟨p1,0,none⟩) ∧ s21 = .pointer (some ⟨d1,0,none⟩) ∧ Hid (Four W wx b p1 p2 b' d1 d2 x1 y1 L x1 y1 L 1000 [RowR 55 3 (.slice (some ⟨g,0,none⟩) n c) n (trC l),Blk p13 (.cells #[.int .i64 xh,.int .i64 xr,.int .i64 xs,.int .i64 xv] 72 (0,0)),Blk W.heap.size (.cells #[.int .i64 xh,.int .i64 xs,.int .i64 xr,.int .i64 xv] 72 (0,0))]) ∧ Hid (SeOk x1 ∧ SeOk y1 ∧ RcFit x1.rc ∧ RcFit y1.rc) ∧ Hid (Sides p1 p2 d1 d2 pa pb qa qb))
        case first =>
         clear c0 c1
         cases q1
         · go_wp2_with fail
           go_meet
           exact ⟨pa,pb,qa,qb,x,y,rfl,rfl,F,O,hid (.inl ⟨rfl,rfl,rfl,rfl⟩)⟩
         · go_wp2_with fail
           go_meet
           exact ⟨pb,pa,qb,qa,y,x,rfl,rfl,hid F.out.swap,hid ⟨O.out.2.1,O.out.1,O.out.2.2.2,O.out.2.2.1⟩,hid (.inr ⟨rfl,rfl,rfl,rfl⟩)⟩
        case rest =>
         obtain ⟨p1,p2,d1,d2,x1,y1,rfl,rfl,F1,O1,SD⟩:=hcut
         clear F O c0 c1 hq1 q1 ht1
         clear t1
         obtain ⟨wd,hwd⟩:∃ wd:World,wd = wc:=⟨_,rfl⟩
         rw [← hwd] at F1 ⊢
         clear hwd wc
         as_aux_lemma =>
          have c0:=(F1.out.below.cell (p:=⟨gg,oo + i * 4,none⟩) KB.out).trans K0.out
          go_upto_block 2 with fail
          clear c0
          go_cut [18] (fun s18 wx=>∃ (g c n:Nat) (l:List Tr) (x2 y2:Se) (L:List T),s18 = .slice (some ⟨g,0,none⟩) n c ∧ Hid (Four W wx b p1 p2 b' d1 d2 x2 y2 L x2 y2 L 1000 [RowR 55 3 (.slice (some ⟨g,0,none⟩) n c) n (trC l),Blk p13 (.cells #[.int .i64 xh,.int .i64 xr,.int .i64 xs,.int .i64 xv] 72 (0,0)),Blk W.heap.size (.cells #[.int .i64 xh,.int .i64 xs,.int .i64 xr,.int .i64 xv] 72 (0,0))]) ∧ Hid (SeOk x2 ∧ SeOk y2 ∧ RcFit x2.rc ∧ RcFit y2.rc) ∧ Hid (n = l.length ∧ n ≤ i + 1 ∧ SeenIn l))
          case first =>
           as_aux_lemma =>
            have hr0:=and_range (show u0 % 8 = t0 by rw [← i64_and7]; exact ht0) (by decide)
            clear ht0
            rcases (by omega:t0 = 0 ∨ t0 = 1 ∨ t0 = 2 ∨ t0 = 3 ∨ 4 ≤ t0) with h | h | h | h | h
            · as_aux_lemma =>
               have e0:(t0 == 0) = true:=by simp; omega
               clear h hr0
               have c2:=(F1.out.below.cell (p:=⟨gg,oo + i * 4 + 2,none⟩) KB.out).trans K2.out
               obtain ⟨kn,hkn⟩:∃ kn:Nat,bits .and .i64 u2 15 = (kn:Int):=⟨(u2 % 16).toNat,by rw [i64_and15]; omega⟩
               have hk0:(0:Int) ≤ (kn:Int):=by omega
               have hk1:(kn:Int) ≤ 20:=by rw [i64_and15] at hkn; omega
               have hk2:kn ≤ 20:=by omega
               go_wp2_with fail
               clear c2
               obtain ⟨tx,htx⟩:∃ tx,(ByteArray.extract ⟨#[116,101,120,116,32,111,102,32,116,119,101,110,116,121,32,98,121,116,101,115]⟩ 0 kn) = tx:=⟨_,rfl⟩
               have hts:Hid (tx.size ≤ maxLen):=hid (by rw [← htx,ByteArray.size_extract]; unfold maxLen; omega)
               rw [htx]
               clear htx hkn hk0 hk1 hk2
               obtain ⟨⟨⟨r1,r3,r4,r5⟩,x3,L3⟩,hq⟩:∃ q,seal19 1000 L x1 tx = q:=⟨_,rfl⟩
               have HQ:=hid hq
               clear hq
               have O3:Hid (SeOk x3 ∧ RcFit x3.rc):=hid (by
                have h1:=seal19_ok (m:=1000) (L:=L) (s:=tx) O1.out.1
                have h2:=seal19_rc (m:=1000) (L:=L) (x:=x1) (s:=tx)
                rw [HQ.out] at h1 h2
                dsimp only at h1 h2
                exact ⟨h1,by rw [h2]; exact O1.out.2.2.1⟩)
               refine (seal_p4 O1.out.1 hts.out HQ.out F1.out).mono ?_
               rintro e w2 ⟨rfl,h1⟩
               have F2:=hid h1
               clear h1 F1
               go_wp2_with fail
               refine (seal_d4 O1.out.1 hts.out HQ.out F2.out).mono ?_
               rintro e w3 ⟨rfl,h1⟩
               have F3:=hid h1
               clear h1 F2
               obtain ⟨Ss,hA,hB⟩:=F3.out.first
               have HA:=hid hA
               have HB:=hid hB
               clear hA hB F3
               go_wp2_with (at_builtin; refine append_tr (l:=l) (r1,r3,r4) rfl (.tmp 240) (.tmp 245) rfl rfl HA.out (by rfl) (by rfl) (by have:=N.out.2.1; have:=HLT.out; omega) ?_; intro g3 c3 w4 h3; have F4:=hid (HB.out _ _ h3); clear h3 HA HB)
               go_meet
               exact ⟨g3,c3,n + 1,l ++ [(r1,r3,r4)],x3,y1,L3,by first | rfl | trivial,F4,hid ⟨O3.out.1,O1.out.2.1,O3.out.2,O1.out.2.2.2⟩,hid ⟨by rw [List.length_append,← N.out.1]; rfl,by have:=N.out.2.1; omega,N.out.2.2.snoc (by have h:=seal19_in (m:=1000) (L:=L) (s:=tx) O1.out.1; rw [HQ.out] at h; exact h)⟩⟩
            · as_aux_lemma =>
               have e0:(t0 == 0) = false:=by simp; omega
               have e1:(t0 == 1) = true:=by simp; omega
               clear h hr0
               have c2:=(F1.out.below.cell (p:=⟨gg,oo + i * 4 + 2,none⟩) KB.out).trans K2.out
               obtain ⟨kn,hkn⟩:∃ kn:Nat,bits .and .i64 u2 15 = (kn:Int):=⟨(u2 % 16).toNat,by rw [i64_and15]; omega⟩
               have hk0:(0:Int) ≤ (kn:Int):=by omega
               have hk1:(kn:Int) ≤ 20:=by rw [i64_and15] at hkn; omega
               have hk2:kn ≤ 20:=by omega
               go_wp2_with fail
               clear c2
               obtain ⟨tx,htx⟩:∃ tx,(ByteArray.extract ⟨#[116,101,120,116,32,111,102,32,116,119,101,110,116,121,32,98,121,116,101,115]⟩ 0 kn) = tx:=⟨_,rfl⟩
               have hts:Hid (tx.size ≤ maxLen):=hid (by rw [← htx,ByteArray.size_extract]; unfold maxLen; omega)
               rw [htx]
               clear htx hkn hk0 hk1 hk2
               obtain ⟨⟨⟨r1,r3,r4,r5⟩,x3,L3⟩,hq⟩:∃ q,seal19 1000 L x1 tx = q:=⟨_,rfl⟩
               have HQ:=hid hq
               clear hq
               have O3:Hid (SeOk x3 ∧ RcFit x3.rc):=hid (by
                have h1:=seal19_ok (m:=1000) (L:=L) (s:=tx) O1.out.1
                have h2:=seal19_rc (m:=1000) (L:=L) (x:=x1) (s:=tx)
                rw [HQ.out] at h1 h2
                dsimp only at h1 h2
                exact ⟨h1,by rw [h2]; exact O1.out.2.2.1⟩)
               refine (seal_p4 O1.out.1 hts.out HQ.out F1.out).mono ?_
               rintro e w2 ⟨rfl,h1⟩
               have F2:=hid h1
               clear h1 F1
               go_wp2_with fail
               refine (seal_d4 O1.out.1 hts.out HQ.out F2.out).mono ?_
               rintro e w3 ⟨rfl,h1⟩
               have F3:=hid h1
               clear h1 F2
               obtain ⟨Ss,hA,hB⟩:=F3.out.first
               have HA:=hid hA
               have HB:=hid hB
               clear hA hB F3
               go_wp2_with (at_builtin; refine append_tr (l:=l) (r1,r3,r4) rfl (.tmp 240) (.tmp 245) rfl rfl HA.out (by rfl) (by rfl) (by have:=N.out.2.1; have:=HLT.out; omega) ?_; intro g3 c3 w4 h3; have F4:=hid (HB.out _ _ h3); clear h3 HA HB)
               go_meet
               exact ⟨g3,c3,n + 1,l ++ [(r1,r3,r4)],x3,y1,L3,by first | rfl | trivial,F4,hid ⟨O3.out.1,O1.out.2.1,O3.out.2,O1.out.2.2.2⟩,hid ⟨by rw [List.length_append,← N.out.1]; rfl,by have:=N.out.2.1; omega,N.out.2.2.snoc (by have h:=seal19_in (m:=1000) (L:=L) (s:=tx) O1.out.1; rw [HQ.out] at h; exact h)⟩⟩
            · as_aux_lemma =>
               have e0:(t0 == 0) = false:=by simp; omega
               have e1:(t0 == 1) = false:=by simp; omega
               have e2:(t0 == 2) = true:=by simp; omega
               clear h hr0
               obtain ⟨⟨r1,x3,L3⟩,hq⟩:∃ q,step19 1000 L x1 = q:=⟨_,rfl⟩
               have HQ:=hid hq
               clear hq
               have O3:Hid (SeOk x3 ∧ RcFit x3.rc):=hid (by
                have h1:=step19_ok (m:=1000) (L:=L) O1.out.1
                have h2:=step19_rc (m:=1000) (L:=L) (x:=x1)
                rw [HQ.out] at h1 h2
                dsimp only at h1 h2
                exact ⟨h1,by rw [h2]; exact O1.out.2.2.1⟩)
               go_wp2_with fail
               refine (step_p4 HQ.out F1.out).mono ?_
               rintro e w2 ⟨rfl,h1⟩
               have F2:=hid h1
               clear h1 F1
               go_wp2_with fail
               refine (step_d4 HQ.out F2.out).mono ?_
               rintro e w3 ⟨rfl,h1⟩
               have F3:=hid h1
               clear h1 F2
               go_wp2_with fail
               go_meet
               exact ⟨g,c,n,l,x3,y1,L3,rfl,F3,hid ⟨O3.out.1,O1.out.2.1,O3.out.2,O1.out.2.2.2⟩,hid ⟨N.out.1,by have:=N.out.2.1; omega,N.out.2.2⟩⟩
            · as_aux_lemma =>
               have e0:(t0 == 0) = false:=by simp; omega
               have e1:(t0 == 1) = false:=by simp; omega
               have e2:(t0 == 2) = false:=by simp; omega
               have e3:(t0 == 3) = true:=by simp; omega
               clear h hr0
               obtain ⟨⟨⟨tx,er⟩,x3,L3⟩,hq⟩:∃ q,open19 1000 L x1 u2 u3 u1 = q:=⟨_,rfl⟩
               have HQ:=hid hq
               clear hq
               have O3:Hid (SeOk x3 ∧ RcFit x3.rc):=hid (by
                have h1:=open19_ok (m:=1000) (L:=L) (e:=u2) (n:=u3) (c:=u1) O1.out.1
                have h2:=rcFit_open (m:=1000) (L:=L) (e:=u2) (n:=u3) (c:=u1) O1.out.1 O1.out.2.2.1
                rw [HQ.out] at h1 h2
                exact ⟨h1,h2⟩)
               have a1:∀ x:Later wd,x.w.cell? ⟨gg,oo + i * 4 + 1,none⟩ = some (.int .i64 u1):=fun x=>x.cell ((F1.out.below.cell (p:=⟨gg,oo + i * 4 + 1,none⟩) KB.out).trans K1.out)
               have a2:∀ x:Later wd,x.w.cell? ⟨gg,oo + i * 4 + 2,none⟩ = some (.int .i64 u2):=fun x=>x.cell ((F1.out.below.cell (p:=⟨gg,oo + i * 4 + 2,none⟩) KB.out).trans K2.out)
               have a3:∀ x:Later wd,x.w.cell? ⟨gg,oo + i * 4 + 3,none⟩ = some (.int .i64 u3):=fun x=>x.cell ((F1.out.below.cell (p:=⟨gg,oo + i * 4 + 3,none⟩) KB.out).trans K3.out)
               go_wp2_with fail
               refine wp_region_turn (C:=fun w'=>∃ x:Later wd,w' = x.w) 16 _ (by kernel_rfl) (by kernel_rfl) rfl rfl ⟨⟨_,(Below.refl _ _).drew⟩,rfl⟩ ?_
               simp only [List.take_succ_cons,List.take_zero,List.drop_succ_cons,List.drop_zero]
               repeat (go_big_quiet_step (fail))
               refine wpQuiet_nil ?_
               intro wt hwt KK hKK
               have HK:=hid hKK
               clear hKK
               obtain ⟨⟨wt,hbt⟩,rfl⟩:=hwt
               have F2:=hid (F1.out.still hbt)
               clear hbt F1 a1 a2 a3
               go_wp2_with fail
               refine (open_p4 O1.out.1 B2.out.1 B2.out.2 B3.out.1 B3.out.2 HQ.out F2.out).mono ?_
               rintro e w2 ⟨rfl,h1⟩
               have F3:=hid h1
               clear h1 F2
               go_wp2_with fail
               refine HK.out _ _ ⟨fun w'=>w' = w2,rfl,?_⟩
               clear HK
               repeat (go_big_quiet_step (fail))
               refine wpQuiet_nil ?_
               rintro w2 rfl
               have a1:∀ x:Later w2,x.w.cell? ⟨gg,oo + i * 4 + 1,none⟩ = some (.int .i64 u1):=fun x=>x.cell ((F3.out.below.cell (p:=⟨gg,oo + i * 4 + 1,none⟩) KB.out).trans K1.out)
               have a2:∀ x:Later w2,x.w.cell? ⟨gg,oo + i * 4 + 2,none⟩ = some (.int .i64 u2):=fun x=>x.cell ((F3.out.below.cell (p:=⟨gg,oo + i * 4 + 2,none⟩) KB.out).trans K2.out)
               have a3:∀ x:Later w2,x.w.cell? ⟨gg,oo + i * 4 + 3,none⟩ = some (.int .i64 u3):=fun x=>x.cell ((F3.out.below.cell (p:=⟨gg,oo + i * 4 + 3,none⟩) KB.out).trans K3.out)
               go_wp2_with fail
               refine wp_region_turn (C:=fun w'=>∃ x:Later w2,w' = x.w) 16 _ (by kernel_rfl) (by kernel_rfl) rfl rfl ⟨⟨_,(Below.refl _ _).drew⟩,rfl⟩ ?_
               simp only [List.take_succ_cons,List.take_zero,List.drop_succ_cons,List.drop_zero]
               repeat (go_big_quiet_step (fail))
               refine wpQuiet_nil ?_
               intro wt hwt KK hKK
               have HK:=hid hKK
               clear hKK
               obtain ⟨⟨wt,hbt⟩,rfl⟩:=hwt
               have F4:=hid (F3.out.still hbt)
               clear hbt F3 a1 a2 a3
               go_wp2_with fail
               refine (open_d4 O1.out.1 O1.out.2.2.1 B2.out.1 B2.out.2 B3.out.1 B3.out.2 HQ.out F4.out).mono ?_
               rintro e w3 ⟨rfl,h1⟩
               have F5:=hid h1
               clear h1 F4
               go_wp2_with fail
               refine HK.out _ _ ⟨fun w'=>w' = w3,rfl,?_⟩
               clear HK
               repeat (go_big_quiet_step (fail))
               refine wpQuiet_nil ?_
               rintro w3 rfl
               go_wp2_with fail
               go_meet
               exact ⟨g,c,n,l,x3,y1,L3,rfl,F5,hid ⟨O3.out.1,O1.out.2.1,O3.out.2,O1.out.2.2.2⟩,hid ⟨N.out.1,by have:=N.out.2.1; omega,N.out.2.2⟩⟩
            · as_aux_lemma =>
               have e0:(t0 == 0) = false:=by simp; omega
               have e1:(t0 == 1) = false:=by simp; omega
               have e2:(t0 == 2) = false:=by simp; omega
               have e3:(t0 == 3) = false:=by simp; omega
               clear h hr0
               by_cases hn0:n = 0
               · have f1:decide ((0:Int) < (n:Int)) = false:=by simp; omega
                 have f2:decide (0 < n) = false:=by simp; omega
                 clear hn0
                 go_wp2_with fail
                 go_meet
                 exact ⟨g,c,n,l,x1,y1,L,rfl,F1,O1,hid ⟨N.out.1,by have:=N.out.2.1; omega,N.out.2.2⟩⟩
               · have f1:decide ((0:Int) < (n:Int)) = true:=by simp; omega
                 have f2:decide (0 < n) = true:=by simp; omega
                 have n0:((n:Int) == 0) = false:=by simp; omega
                 have n0':(n == 0) = false:=by simp; omega
                 have c2:=(F1.out.below.cell (p:=⟨gg,oo + i * 4 + 2,none⟩) KB.out).trans K2.out
                 obtain ⟨tm,htm⟩:∃ t,bits .and .i64 u2 255 = t:=⟨_,rfl⟩
                 have hm2:=and_range (show u2 % 256 = tm by rw [← i64_and255]; exact htm) (by decide)
                 have hkr:=mod_range tm (show (1:Int) ≤ n by omega)
                 obtain ⟨kk,hkk⟩:∃ kk:Nat,tm.tmod n = kk:=⟨(tm % n).toNat,by rw [Int.tmod_eq_emod_of_nonneg hm2.1]; omega⟩
                 have hkn:kk < n:=by rw [Int.tmod_eq_emod_of_nonneg hm2.1] at hkk; omega
                 have v1:IntKind.i64.wrap (kk:Int) = kk:=IntWalk.i64_in _ (by have:=N.out.2.1; have:=HLT.out; omega)
                 have q0:(0:Int) ≤ (kk:Int):=by omega
                 have q1:(kk:Int) < (n:Int):=by omega
                 obtain ⟨⟨eK,nK,cK⟩,hzK⟩:∃ u,l[kk]? = some u:=⟨l[kk]'(by rw [← N.out.1]; exact hkn),List.getElem?_eq_getElem _⟩
                 have SK:=hid (N.out.2.2 kk _ hzK)
                 obtain ⟨s0,s1,s2⟩:=F1.out.tr_cell hzK
                 obtain ⟨p35,hp35⟩:∃ q,wd.heap.size = q:=⟨_,rfl⟩
                 clear hn0 hm2 hkr hkn hzK
                 obtain ⟨⟨⟨tx,er⟩,x3,L3⟩,hq⟩:∃ q,open19 1000 L x1 eK nK cK = q:=⟨_,rfl⟩
                 have HQ:=hid hq
                 clear hq
                 have O3:Hid (SeOk x3 ∧ RcFit x3.rc):=hid (by
                  have h1:=open19_ok (m:=1000) (L:=L) (e:=eK) (n:=nK) (c:=cK) O1.out.1
                  have h2:=rcFit_open (m:=1000) (L:=L) (e:=eK) (n:=nK) (c:=cK) O1.out.1 O1.out.2.2.1
                  rw [HQ.out] at h1 h2
                  exact ⟨h1,h2⟩)
                 go_wp2_with fail
                 have F2:=hid (F1.out.boxk (o:=.cells #[.int .i64 eK,.int .i64 nK,.int .i64 cK] 55 (0,0)) p35 hp35)
                 clear F1 hp35 s0 s1 s2 q0 q1 v1 hkk htm c2 f1 f2 n0 n0'
                 refine (open_p4 O1.out.1 (by have:=SK.out; omega) (by have:=SK.out; omega) (by have:=SK.out; omega) (by have:=SK.out; omega) HQ.out F2.out).mono ?_
                 rintro e w2 ⟨rfl,h1⟩
                 have F3:=hid h1
                 clear h1 F2
                 obtain ⟨Ss,hA,_⟩:=F3.out.first
                 have hk:=hA.blk
                 have x0:=(cell_of_heap hk 0).trans (show _ = some (.int .i64 eK) from rfl)
                 have y0:=(cell_of_heap hk 1).trans (show _ = some (.int .i64 nK) from rfl)
                 have z0':=(cell_of_heap hk 2).trans (show _ = some (.int .i64 cK) from rfl)
                 have xsz:=(Array.getElem?_eq_some_iff.1 hk).1
                 clear hk hA
                 go_wp2_with fail
                 clear x0 y0 z0' xsz
                 refine (open_d4 O1.out.1 O1.out.2.2.1 (by have:=SK.out; omega) (by have:=SK.out; omega) (by have:=SK.out; omega) (by have:=SK.out; omega) HQ.out F3.out).mono ?_
                 rintro e w3 ⟨rfl,h1⟩
                 have F4:=hid h1.dropR
                 clear h1 F3
                 go_wp2_with fail
                 go_meet
                 exact ⟨g,c,n,l,x3,y1,L3,rfl,F4,hid ⟨O3.out.1,O1.out.2.1,O3.out.2,O1.out.2.2.2⟩,hid ⟨N.out.1,by have:=N.out.2.1; omega,N.out.2.2⟩⟩
          case rest =>
           as_aux_lemma =>
            obtain ⟨g2,c2,n2,l2,x2,y2,L2,rfl,F2,O2,N2⟩:=hcut
            clear F1 O1
            obtain ⟨we,hwe⟩:∃ we:World,we = wc:=⟨_,rfl⟩
            rw [← hwe] at F2 ⊢
            clear hwe wc
            obtain ⟨ok,oe,sent,⟨ik,ie,nx,bt,es⟩,sh,ss,sr,sv⟩:=x2
            go_wp2_with fail
            refine (now_p4 F2.out).mono ?_
            dsimp only
            rintro e w5 ⟨rfl,h1⟩
            have F3:=hid h1
            clear h1 F2
            obtain ⟨a1,cc1,a2,cc2,a3,cc3,a4,cc4,hF⟩:=F3.out
            have H:Hid (Hd W w5 (Sto b L2 1000::Blk p1 (.cells #[.int .i64 ok,.int .i64 oe,.int .i64 sent,.int .i64 ik,.int .i64 ie,.int .u64 nx,.int .u64 bt,.slice a1 es.length cc1,.pointer (some ⟨b,0,none⟩),.int .i64 sh,.int .i64 ss,.int .i64 sr,.int .i64 sv] 148 (0,0))::CaR (.slice a1 es.length cc1) es::Blk p2 (seO b y2 (.slice a2 y2.rc.es.length cc2))::CaR (.slice a2 y2.rc.es.length cc2) y2.rc.es::RSto b' L2 1000::Blk d1 (.cells #[.pointer (some ⟨b',0,none⟩),.int .i64 sh,.int .i64 ss,.int .i64 sr,.int .i64 sv,.int .i64 ok,.int .i64 oe,.int .i64 sent,.int .i64 ik,.int .i64 ie,.int .u64 nx,.int .u64 bt,.slice a3 es.length cc3] 94 (0,0))::CaR (.slice a3 es.length cc3) es::Blk d2 (rsO b' y2 (.slice a4 y2.rc.es.length cc4))::CaR (.slice a4 y2.rc.es.length cc4) y2.rc.es::RowR 55 3 (.slice (some ⟨g2,0,none⟩) n2 c2) n2 (trC l2)::Blk p13 (.cells #[.int .i64 xh,.int .i64 xr,.int .i64 xs,.int .i64 xv] 72 (0,0))::Blk W.heap.size (.cells #[.int .i64 xh,.int .i64 xs,.int .i64 xr,.int .i64 xv] 72 (0,0))::[])):=hid hF
            clear hF F3
            have H4:Hid (es.length ≤ 4):=hid O2.out.1.rc.len
            have HL:Hid (2 + (kKeys es).length = ([ok,ik] ++ kKeys es).length):=hid (by simp; omega)
            have HM:Hid (2 + (kKeys es).length ≤ 4611686018427387904):=hid (by have:=H4.out; simp [kKeys]; omega)
            have eqs:=neqf_S17 sh ss sr sv
            have mixed:Try.prog.follows .mixedOrders = true:=by kernel_rfl
            go_wp2_with fail
            have cf31:∀ args w,(callFunc 31 args).run Try.prog w = .ok (.enter 31 args) w:=fun args w=>by kernel_rfl
            have cf36:∀ args w,(callFunc 36 args).run Try.prog w = .ok (.enter 36 args) w:=fun args w=>by kernel_rfl
            have cf44:∀ args w,(callFunc 44 args).run Try.prog w = .ok (.enter 44 args) w:=fun args w=>by kernel_rfl
            have cf45:∀ args w,(callFunc 45 args).run Try.prog w = .ok (.enter 45 args) w:=fun args w=>by kernel_rfl
            have cf46:∀ args w,(callFunc 46 args).run Try.prog w = .ok (.enter 46 args) w:=fun args w=>by kernel_rfl
            refine hold_coreB (P:=Try.prog) (W:=W) (Rs:=(Sto b L2 1000::Blk p1 (.cells #[.int .i64 ok,.int .i64 oe,.int .i64 sent,.int .i64 ik,.int .i64 ie,.int .u64 nx,.int .u64 bt,.slice a1 es.length cc1,.pointer (some ⟨b,0,none⟩),.int .i64 sh,.int .i64 ss,.int .i64 sr,.int .i64 sv] 148 (0,0))::CaR (.slice a1 es.length cc1) es::Blk p2 (seO b y2 (.slice a2 y2.rc.es.length cc2))::CaR (.slice a2 y2.rc.es.length cc2) y2.rc.es::RSto b' L2 1000::Blk d1 (.cells #[.pointer (some ⟨b',0,none⟩),.int .i64 sh,.int .i64 ss,.int .i64 sr,.int .i64 sv,.int .i64 ok,.int .i64 oe,.int .i64 sent,.int .i64 ik,.int .i64 ie,.int .u64 nx,.int .u64 bt,.slice a3 es.length cc3] 94 (0,0))::CaR (.slice a3 es.length cc3) es::Blk d2 (rsO b' y2 (.slice a4 y2.rc.es.length cc4))::CaR (.slice a4 y2.rc.es.length cc4) y2.rc.es::RowR 55 3 (.slice (some ⟨g2,0,none⟩) n2 c2) n2 (trC l2)::Blk p13 (.cells #[.int .i64 xh,.int .i64 xr,.int .i64 xs,.int .i64 xv] 72 (0,0))::Blk W.heap.size (.cells #[.int .i64 xh,.int .i64 xs,.int .i64 xr,.int .i64 xv] 72 (0,0))::[])) [[],[],[1],[2],[3],[4],[0,5],[6],[7],[7],[7,9],[7,10],[7,11],[7,8,12],[7,13],[14],[15],[15],[15,17],[15,18],[15,19],[15,20],[15,16,21],[15,22],[23],[24],[24,25],[24],[24,27],[24,26,28],[24,29],[24,30],[31],[32],[32,33],[32,34],[32],[32,36],[32,37],[32,38],[32,35,39],[32,40]] [[],[],[],[],[],[],[],[],[],[],[],[],[],[],[],[],[],[],[],[],[],[],[],[],[],[],[26],[],[28],[],[],[],[],[],[],[],[],[],[],[],[],[]] ([some 310,some 311,some 312,some 313,some 314,some 315,some 316,some 317,some 318,some 319,some 320,some 321,some 322,some 323,some 324,some 325,some 326,some 327,some 328,some 329,some 330,some 331,some 332,some 333,some 334,some 335,some 336,some 337,some 338,some 339,some 340,some 341,some 342,some 343,some 344,some 345,some 346,some 347,some 348,some 349,some 350,some 351]:List (Option Nat)) ([none,none,none,none,none,none,none,none,none,none,none,none,none,none,none,none,none,none,none,none,none,none,none,none,none,none,none,none,none,none,none,none,none,none,none,none,none,none,none,none,none,none]:List (Option Nat)) ((fun _=>.int .i64 oe)::(fun _=>pt d1 0)::(fun _=>pt d1 0)::(fun _=>pt d1 5)::(fun _=>pt d1 6)::(fun _=>.int .i64 oe)::(fun _=>.bool false)::(fun _=>.bool false)::(fun _=>.int .i64 sent)::(fun _=>pt d1 0)::(fun _=>pt d1 0)::(fun _=>pt d1 7)::(fun _=>.int .i64 sent)::(fun _=>.bool false)::(fun _=>.bool false)::(fun _=>.bool false)::(fun _=>.int .i64 ie)::(fun _=>pt d1 0)::(fun _=>pt d1 0)::(fun _=>pt d1 8)::(fun _=>pt d1 9)::(fun _=>.int .i64 ie)::(fun _=>.bool false)::(fun _=>.bool false)::(fun _=>.bool false)::(fun _=>pt p1 0)::(fun gs=>.slice (gs.getD 0 default).1 (2 + (kKeys es).length) (gs.getD 0 default).2)::(fun _=>pt d1 0)::(fun gs=>.slice (gs.getD 0 default).1 (2 + (kKeys es).length) (gs.getD 0 default).2)::(fun _=>.bool true)::(fun _=>.bool false)::(fun _=>.bool false)::(fun _=>.bool false)::(fun _=>pt p1 0)::(fun _=>.agg #[.int .i64 sh,.int .i64 ss,.int .i64 sr,.int .i64 sv])::(fun _=>.agg #[.int .i64 sh,.int .i64 ss,.int .i64 sr,.int .i64 sv])::(fun _=>pt d1 0)::(fun _=>pt d1 0)::(fun _=>pt d1 1)::(fun _=>.agg #[.int .i64 sh,.int .i64 ss,.int .i64 sr,.int .i64 sv])::(fun _=>.bool false)::(fun _=>.bool false)::[]) (zR::zR::zR::zR::zR::zR::zR::zR::zR::zR::zR::zR::zR::zR::zR::zR::zR::zR::zR::zR::zR::zR::zR::zR::zR::zR::(fun gs=>[RowR 3 1 (.slice (gs.getD 0 default).1 (2 + (kKeys es).length) (gs.getD 0 default).2) (2 + (kKeys es).length) (nums .i64 ([ok,ik] ++ kKeys es))])::zR::(fun gs=>[RowR 3 1 (.slice (gs.getD 0 default).1 (2 + (kKeys es).length) (gs.getD 0 default).2) (2 + (kKeys es).length) (nums .i64 ([ok,ik] ++ kKeys es))])::zR::zR::zR::zR::zR::zR::zR::zR::zR::zR::zR::zR::zR::([]:List (List Gh → List Res))) (zR::zR::zR::zR::zR::zR::zR::zR::zR::zR::zR::zR::zR::zR::zR::zR::zR::zR::zR::zR::zR::zR::zR::zR::zR::zR::zR::zR::zR::zR::zR::zR::zR::zR::zR::zR::zR::zR::zR::zR::zR::zR::([]:List (List Gh → List Res))) (by kernel_rfl) rfl (hold_lt (n:=359) (by decide)) H.out rfl (by decide) (hold_nil (fs:=[]) trivial rfl ?nil43) ?gd43 ?step43 (fun t=>(decide (310 ≤ t) && decide (t ≤ 351))) (by decide) ?done43 (fun I h0 st dn=>run_wpB mixed I h0 st dn)
            case nil43 =>
             intro s gs hs
             cases hs
            case gd43 =>
             repeat (refine StepAll.cons (by first | exact trivial | exact fun g=>rfl) ?_)
             exact trivial
            case step43 =>
             refine .cons (pR 40 rfl fun _=>⟨rfl,rfl⟩) ?_
             refine .cons (pR 21 rfl fun _=>⟨rfl,rfl⟩) ?_
             refine .cons (pN 1 311 rfl fun _=>⟨rfl,rfl⟩) ?_
             refine .cons (pF 2 312 5 rfl rfl (fun b q w=>by simp [go_sem]) fun _=>⟨⟨_,_,rfl,rfl⟩,rfl⟩) ?_
             refine .cons (pF 3 313 1 rfl rfl (fun b q w=>by simp [go_sem]) fun _=>⟨⟨_,_,rfl,rfl⟩,rfl⟩) ?_
             refine StepAll.cons ?_ ?_
             · refine HoldStepB.val (by decide) fun a wx γ hn hr hres hpre Ss hH K hK=>?_
               have e314:a.eval (.tmp 314) = .pointer (some ⟨d1,6,none⟩):=hn 4 (by decide) 314 rfl
               exact hold_run (v:=.int .i64 oe) (by clear hn hr hK; generalize a.eval = ρ at *; simp [execOp,e314,cell_of_heap (Hd.nthk 6 hH.rear rfl),go_sem]) rfl rfl hH hK
             refine StepAll.cons ?_ ?_
             · refine HoldStepB.val (by decide) fun a wx γ hn hr hres hpre Ss hH K hK=>?_
               have e310:a.eval (.tmp 310) = .int .i64 oe:=hn 0 (by decide) 310 rfl
               have e315:a.eval (.tmp 315) = .int .i64 oe:=hn 5 (by decide) 315 rfl
               exact hold_run (v:=.bool false) (by clear hn hr hK; generalize a.eval = ρ at *; simp [execOp,e310,e315,go_sem]) rfl rfl hH hK
             refine .cons (pN 6 316 rfl fun _=>⟨rfl,rfl⟩) ?_
             refine .cons (pR 41 rfl fun _=>⟨rfl,rfl⟩) ?_
             refine .cons (pR 21 rfl fun _=>⟨rfl,rfl⟩) ?_
             refine .cons (pN 9 319 rfl fun _=>⟨rfl,rfl⟩) ?_
             refine .cons (pF 10 320 7 rfl rfl (fun b q w=>by simp [go_sem]) fun _=>⟨⟨_,_,rfl,rfl⟩,rfl⟩) ?_
             refine StepAll.cons ?_ ?_
             · refine HoldStepB.val (by decide) fun a wx γ hn hr hres hpre Ss hH K hK=>?_
               have e321:a.eval (.tmp 321) = .pointer (some ⟨d1,7,none⟩):=hn 11 (by decide) 321 rfl
               exact hold_run (v:=.int .i64 sent) (by clear hn hr hK; generalize a.eval = ρ at *; simp [execOp,e321,cell_of_heap (Hd.nthk 6 hH.rear rfl),go_sem]) rfl rfl hH hK
             refine StepAll.cons ?_ ?_
             · refine HoldStepB.val (by decide) fun a wx γ hn hr hres hpre Ss hH K hK=>?_
               have e318:a.eval (.tmp 318) = .int .i64 sent:=hn 8 (by decide) 318 rfl
               have e322:a.eval (.tmp 322) = .int .i64 sent:=hn 12 (by decide) 322 rfl
               exact hold_run (v:=.bool false) (by clear hn hr hK; generalize a.eval = ρ at *; simp [execOp,e318,e322,go_sem]) rfl rfl hH hK
             refine StepAll.cons ?_ ?_
             · refine HoldStepB.val (by decide) fun a wx γ hn hr hres hpre Ss hH K hK=>?_
               have e317:a.eval (.tmp 317) = .bool false:=hn 7 (by decide) 317 rfl
               have e323:a.eval (.tmp 323) = .bool false:=hn 13 (by decide) 323 rfl
               exact hold_run (v:=.bool false) (by clear hn hr hK; generalize a.eval = ρ at *; simp [execOp,e317,e323,go_sem]) rfl rfl hH hK
             refine .cons (pN 14 324 rfl fun _=>⟨rfl,rfl⟩) ?_
             refine .cons (pR 42 rfl fun _=>⟨rfl,rfl⟩) ?_
             refine .cons (pR 21 rfl fun _=>⟨rfl,rfl⟩) ?_
             refine .cons (pN 17 327 rfl fun _=>⟨rfl,rfl⟩) ?_
             refine .cons (pF 18 328 8 rfl rfl (fun b q w=>by simp [go_sem]) fun _=>⟨⟨_,_,rfl,rfl⟩,rfl⟩) ?_
             refine .cons (pF 19 329 1 rfl rfl (fun b q w=>by simp [go_sem]) fun _=>⟨⟨_,_,rfl,rfl⟩,rfl⟩) ?_
             refine StepAll.cons ?_ ?_
             · refine HoldStepB.val (by decide) fun a wx γ hn hr hres hpre Ss hH K hK=>?_
               have e330:a.eval (.tmp 330) = .pointer (some ⟨d1,9,none⟩):=hn 20 (by decide) 330 rfl
               exact hold_run (v:=.int .i64 ie) (by clear hn hr hK; generalize a.eval = ρ at *; simp [execOp,e330,cell_of_heap (Hd.nthk 6 hH.rear rfl),go_sem]) rfl rfl hH hK
             refine StepAll.cons ?_ ?_
             · refine HoldStepB.val (by decide) fun a wx γ hn hr hres hpre Ss hH K hK=>?_
               have e326:a.eval (.tmp 326) = .int .i64 ie:=hn 16 (by decide) 326 rfl
               have e331:a.eval (.tmp 331) = .int .i64 ie:=hn 21 (by decide) 331 rfl
               exact hold_run (v:=.bool false) (by clear hn hr hK; generalize a.eval = ρ at *; simp [execOp,e326,e331,go_sem]) rfl rfl hH hK
             refine StepAll.cons ?_ ?_
             · refine HoldStepB.val (by decide) fun a wx γ hn hr hres hpre Ss hH K hK=>?_
               have e325:a.eval (.tmp 325) = .bool false:=hn 15 (by decide) 325 rfl
               have e332:a.eval (.tmp 332) = .bool false:=hn 22 (by decide) 332 rfl
               exact hold_run (v:=.bool false) (by clear hn hr hK; generalize a.eval = ρ at *; simp [execOp,e325,e332,go_sem]) rfl rfl hH hK
             refine .cons (pN 23 333 rfl fun _=>⟨rfl,rfl⟩) ?_
             refine .cons (pR 20 rfl fun _=>⟨rfl,rfl⟩) ?_
             refine StepAll.cons ?_ ?_
             · refine HoldStepB.val (by decide) fun a wx γ hn hr hres hpre Ss hH K hK=>?_
               have e335:a.eval (.tmp 335) = .pointer (some ⟨p1,0,none⟩):=hn 25 (by decide) 335 rfl
               have ef:a.eval (.func 44) = .func (.func 44) #[] #[]:=rfl
               refine hold_call (f:=44) (args:=#[.pointer (some ⟨p1,0,none⟩)]) (by clear hn hr hK hH; generalize a.eval = ρ at *; simp [execOp,e335,cf44,ef,go_sem]) ?_ hH hK
               refine (skeys19_row (x:=⟨ok,oe,sent,⟨ik,ie,nx,bt,es⟩,sh,ss,sr,sv⟩) (b:=b) H4.out (Hd.nthk 1 hH.rear rfl) (Hd.ca (hH.rear.front 2 rfl))).mono fun e2 w2 h=>?_
               obtain ⟨a7,c7,rfl,h2⟩:=h
               exact ⟨(a7,c7),rfl,fun Xs hX=>hX.join h2⟩
             refine .cons (pR 21 rfl fun _=>⟨rfl,rfl⟩) ?_
             refine StepAll.cons ?_ ?_
             · refine HoldStepB.val (by decide) fun a wx γ hn hr hres hpre Ss hH K hK=>?_
               have e337:a.eval (.tmp 337) = .pointer (some ⟨d1,0,none⟩):=hn 27 (by decide) 337 rfl
               have ef:a.eval (.func 45) = .func (.func 45) #[] #[]:=rfl
               refine hold_call (f:=45) (args:=#[.pointer (some ⟨d1,0,none⟩)]) (by clear hn hr hK hH; generalize a.eval = ρ at *; simp [execOp,e337,cf45,ef,go_sem]) ?_ hH hK
               refine (rskeys19_row (x:=⟨ok,oe,sent,⟨ik,ie,nx,bt,es⟩,sh,ss,sr,sv⟩) (b:=b') H4.out (Hd.nthk 6 hH.rear rfl) (Hd.la (hH.rear.front 7 rfl))).mono fun e2 w2 h=>?_
               obtain ⟨a7,c7,rfl,h2⟩:=h
               exact ⟨(a7,c7),rfl,fun Xs hX=>hX.join h2⟩
             refine StepAll.cons ?_ ?_
             · refine HoldStepB.val (by decide) fun a wx γ hn hr hres hpre Ss hH K hK=>?_
               have e336:a.eval (.tmp 336) = .slice (γ 26).1 (2 + (kKeys es).length) (γ 26).2:=hn 26 (by decide) 336 rfl
               have e338:a.eval (.tmp 338) = .slice (γ 28).1 (2 + (kKeys es).length) (γ 28).2:=hn 28 (by decide) 338 rfl
               have ef:a.eval (.func 31) = .func (.func 31) #[] #[]:=rfl
               refine hold_call (f:=31) (args:=#[.slice (γ 26).1 (2 + (kKeys es).length) (γ 26).2,.slice (γ 28).1 (2 + (kKeys es).length) (γ 28).2]) (by clear hn hr hK hH; generalize a.eval = ρ at *; simp [execOp,e336,e338,cf31,ef,go_sem]) ?_ hH hK
               obtain ⟨Zx,hBx⟩:=hres 26 (by decide) rfl
               obtain ⟨ax,cx,ex,ix⟩:=row_intsn HL.out (show Hd W wx (RowR 3 1 (.slice (γ 26).1 (2 + (kKeys es).length) (γ 26).2) (2 + (kKeys es).length) (nums .i64 ([ok,ik] ++ kKeys es))::Zx) from hBx)
               simp only [Value.slice.injEq,true_and] at ex
               obtain ⟨ex1,ex2⟩:=ex
               rw [← ex1] at ix
               obtain ⟨Zy,hBy⟩:=hres 28 (by decide) rfl
               obtain ⟨ay,cy,ey,iy⟩:=row_intsn HL.out (show Hd W wx (RowR 3 1 (.slice (γ 28).1 (2 + (kKeys es).length) (γ 28).2) (2 + (kKeys es).length) (nums .i64 ([ok,ik] ++ kKeys es))::Zy) from hBy)
               simp only [Value.slice.injEq,true_and] at ey
               obtain ⟨ey1,ey2⟩:=ey
               rw [← ey1] at iy
               exact (same_calls ix iy HL.out HL.out HM.out HM.out).mono fun e w2 h=>⟨default,h.1.trans (by rw [decide_eq_true rfl]; rfl),fun Xs hX=>hX.still h.2⟩
             refine StepAll.cons ?_ ?_
             · refine HoldStepB.val (by decide) fun a wx γ hn hr hres hpre Ss hH K hK=>?_
               have e339:a.eval (.tmp 339) = .bool true:=hn 29 (by decide) 339 rfl
               exact hold_run (v:=.bool false) (by clear hn hr hK; generalize a.eval = ρ at *; simp [execOp,e339,go_sem]) rfl rfl hH hK
             refine StepAll.cons ?_ ?_
             · refine HoldStepB.val (by decide) fun a wx γ hn hr hres hpre Ss hH K hK=>?_
               have e334:a.eval (.tmp 334) = .bool false:=hn 24 (by decide) 334 rfl
               have e340:a.eval (.tmp 340) = .bool false:=hn 30 (by decide) 340 rfl
               exact hold_run (v:=.bool false) (by clear hn hr hK; generalize a.eval = ρ at *; simp [execOp,e334,e340,go_sem]) rfl rfl hH hK
             refine .cons (pN 31 341 rfl fun _=>⟨rfl,rfl⟩) ?_
             refine .cons (pR 20 rfl fun _=>⟨rfl,rfl⟩) ?_
             refine StepAll.cons ?_ ?_
             · refine HoldStepB.val (by decide) fun a wx γ hn hr hres hpre Ss hH K hK=>?_
               have e343:a.eval (.tmp 343) = .pointer (some ⟨p1,0,none⟩):=hn 33 (by decide) 343 rfl
               have ef:a.eval (.func 46) = .func (.func 46) #[] #[]:=rfl
               refine hold_call (f:=46) (args:=#[.pointer (some ⟨p1,0,none⟩)]) (by clear hn hr hK hH; generalize a.eval = ρ at *; simp [execOp,e343,cf46,ef,go_sem]) ?_ hH hK
               exact (of19_calm (x:=⟨ok,oe,sent,⟨ik,ie,nx,bt,es⟩,sh,ss,sr,sv⟩) (b:=b) (Hd.nthk 1 hH.rear rfl)).mono fun e w2 h=>⟨default,h.1,fun Xs hX=>hX.still h.2⟩
             refine StepAll.cons ?_ ?_
             · refine HoldStepB.val (by decide) fun a wx γ hn hr hres hpre Ss hH K hK=>?_
               have e344:a.eval (.tmp 344) = .agg #[.int .i64 sh,.int .i64 ss,.int .i64 sr,.int .i64 sv]:=hn 34 (by decide) 344 rfl
               have ef:a.eval (.func 36) = .func (.func 36) #[] #[]:=rfl
               refine hold_call (f:=36) (args:=#[.agg #[.int .i64 sh,.int .i64 ss,.int .i64 sr,.int .i64 sv]]) (by clear hn hr hK hH; generalize a.eval = ρ at *; simp [execOp,e344,cf36,ef,go_sem]) ?_ hH hK
               exact (conv17_calls sh ss sr sv _).mono fun e w2 h=>⟨default,h.1,fun Xs hX=>hX.still h.2⟩
             refine .cons (pR 21 rfl fun _=>⟨rfl,rfl⟩) ?_
             refine .cons (pN 36 346 rfl fun _=>⟨rfl,rfl⟩) ?_
             refine .cons (pF 37 347 1 rfl rfl (fun b q w=>by simp [go_sem]) fun _=>⟨⟨_,_,rfl,rfl⟩,rfl⟩) ?_
             refine StepAll.cons ?_ ?_
             · refine HoldStepB.val (by decide) fun a wx γ hn hr hres hpre Ss hH K hK=>?_
               have e348:a.eval (.tmp 348) = .pointer (some ⟨d1,1,none⟩):=hn 38 (by decide) 348 rfl
               exact hold_run (v:=.agg #[.int .i64 sh,.int .i64 ss,.int .i64 sr,.int .i64 sv]) (by clear hn hr hK; generalize a.eval = ρ at *; simp [execOp,e348,cell_of_heap (Hd.nthk 6 hH.rear rfl),go_sem]) rfl rfl hH hK
             refine StepAll.cons ?_ ?_
             · refine HoldStepB.val (by decide) fun a wx γ hn hr hres hpre Ss hH K hK=>?_
               have e345:a.eval (.tmp 345) = .agg #[.int .i64 sh,.int .i64 ss,.int .i64 sr,.int .i64 sv]:=hn 35 (by decide) 345 rfl
               have e349:a.eval (.tmp 349) = .agg #[.int .i64 sh,.int .i64 ss,.int .i64 sr,.int .i64 sv]:=hn 39 (by decide) 349 rfl
               exact hold_run (v:=.bool false) (by clear hn hr hK; generalize a.eval = ρ at *; simp [execOp,e345,e349,eqs,go_sem]) rfl rfl hH hK
             refine StepAll.cons ?_ ?_
             · refine HoldStepB.val (by decide) fun a wx γ hn hr hres hpre Ss hH K hK=>?_
               have e342:a.eval (.tmp 342) = .bool false:=hn 32 (by decide) 342 rfl
               have e350:a.eval (.tmp 350) = .bool false:=hn 40 (by decide) 350 rfl
               exact hold_run (v:=.bool false) (by clear hn hr hK; generalize a.eval = ρ at *; simp [execOp,e342,e350,go_sem]) rfl rfl hH hK
             exact trivial
            case done43 =>
             intro f w9 g9 hv h9
             have er351:f 351 = .bool false:=hv 41 351 rfl
             have hd:Hd W w9 (RowR 3 1 (.slice (g9 26).1 (2 + (kKeys es).length) (g9 26).2) (2 + (kKeys es).length) (nums .i64 ([ok,ik] ++ kKeys es))::RowR 3 1 (.slice (g9 28).1 (2 + (kKeys es).length) (g9 28).2) (2 + (kKeys es).length) (nums .i64 ([ok,ik] ++ kKeys es))::Sto b L2 1000::Blk p1 (.cells #[.int .i64 ok,.int .i64 oe,.int .i64 sent,.int .i64 ik,.int .i64 ie,.int .u64 nx,.int .u64 bt,.slice a1 es.length cc1,.pointer (some ⟨b,0,none⟩),.int .i64 sh,.int .i64 ss,.int .i64 sr,.int .i64 sv] 148 (0,0))::CaR (.slice a1 es.length cc1) es::Blk p2 (seO b y2 (.slice a2 y2.rc.es.length cc2))::CaR (.slice a2 y2.rc.es.length cc2) y2.rc.es::RSto b' L2 1000::Blk d1 (.cells #[.pointer (some ⟨b',0,none⟩),.int .i64 sh,.int .i64 ss,.int .i64 sr,.int .i64 sv,.int .i64 ok,.int .i64 oe,.int .i64 sent,.int .i64 ik,.int .i64 ie,.int .u64 nx,.int .u64 bt,.slice a3 es.length cc3] 94 (0,0))::CaR (.slice a3 es.length cc3) es::Blk d2 (rsO b' y2 (.slice a4 y2.rc.es.length cc4))::CaR (.slice a4 y2.rc.es.length cc4) y2.rc.es::RowR 55 3 (.slice (some ⟨g2,0,none⟩) n2 c2) n2 (trC l2)::Blk p13 (.cells #[.int .i64 xh,.int .i64 xr,.int .i64 xs,.int .i64 xv] 72 (0,0))::Blk W.heap.size (.cells #[.int .i64 xh,.int .i64 xs,.int .i64 xr,.int .i64 xv] 72 (0,0))::[]):=h9
             obtain ⟨⟨a5,c5⟩,hG26⟩:∃ x,g9 26 = x:=⟨_,rfl⟩
             obtain ⟨⟨a6,c6⟩,hG28⟩:∃ x,g9 28 = x:=⟨_,rfl⟩
             simp only [hG26,hG28] at hd er351
             clear hv h9 hG26 hG28 cf31 cf36 cf44 cf45 cf46
             clear g9
             simp only [patchG,Nat.reduceAdd,Nat.reduceLeDiff,decide_true,decide_false,Bool.and_true,Bool.and_false,cond_true,cond_false,er351]
             clear er351
             clear H eqs
             have F4:Hid (Four W w9 b p1 p2 b' d1 d2 ⟨ok,oe,sent,⟨ik,ie,nx,bt,es⟩,sh,ss,sr,sv⟩ y2 L2 ⟨ok,oe,sent,⟨ik,ie,nx,bt,es⟩,sh,ss,sr,sv⟩ y2 L2 1000 [RowR 55 3 (.slice (some ⟨g2,0,none⟩) n2 c2) n2 (trC l2),Blk p13 (.cells #[.int .i64 xh,.int .i64 xr,.int .i64 xs,.int .i64 xv] 72 (0,0)),Blk W.heap.size (.cells #[.int .i64 xh,.int .i64 xs,.int .i64 xr,.int .i64 xv] 72 (0,0))]):=hid ⟨a1,cc1,a2,cc2,a3,cc3,a4,cc4,hd.drop.drop⟩
             clear hd
             go_wp2_with fail
             go_roundw
             case rel =>
              rcases SD.out with ⟨h1,h2,h3,h4⟩ | ⟨h1,h2,h3,h4⟩ <;> subst h1 h2 h3 h4
              · exact ⟨i + 1,g2,c2,n2,l2,_,_,L2,(by have:=HLT.out; omega),(by have:=HLT.out; omega),rfl,by go_num,F4,O2,N2⟩
              · exact ⟨i + 1,g2,c2,n2,l2,_,_,L2,(by have:=HLT.out; omega),(by have:=HLT.out; omega),rfl,by go_num,hid F4.out.swap,hid ⟨O2.out.2.1,O2.out.1,O2.out.2.2.2,O2.out.2.2.1⟩,N2⟩
             case measure=>have:=HLT.out; simp [intOf]; omega

     · have hex:(decide ((i:Int) < (len2:Int)) = false ∧ decide (i < len2) = false) ∨ (decide ((i:Int) < (len2:Int)) = true ∧ decide (i < len2) = true ∧ decide ((i:Int) < 30) = false):=by
        by_cases h:i < len2
        · right; refine ⟨by simp; omega,by simp; omega,by simp; omega⟩
        · left; refine ⟨by simp; omega,by simp; omega⟩
       clear hlt hi hil
       have HS:Hid (∃ Ss,Hd W wl (Sto b L 1000::RSto b' L 1000::Ss)):=hid (by
        obtain ⟨_,_,_,_,_,_,_,_,h⟩:=F.out
        exact ⟨_,(h.front 5 rfl).front 1 rfl⟩)
       rcases hex with ⟨hd1,hd1'⟩ | ⟨hd1,hd1',hd2⟩
       all_goals as_aux_lemma =>
        obtain ⟨Ss,hs⟩:=HS.out
        have HS2:=hid hs
        clear hs HS
        go_wp2_with fail
        refine (same2_calls HS2.out).mono ?_
        rintro e w8 ⟨rfl,h1⟩
        have HB:=hid (HS2.out.below.trans (h1.mono HS2.out.below.size))
        clear h1
        go_wp2_with fail
        refine (fixed19_calls _).mono ?_
        rintro e w9 ⟨rfl,h1⟩
        have T2:=hid (HB.out.trans (h1.mono HB.out.size))
        clear h1
        go_wp2_with fail
        go_ret
        exact ⟨rfl,T2.out⟩
 · as_aux_lemma =>
    have HN:=hid hyes
    have HN2:Hid (¬ (getB L xh = true ∧ getB L xr = true ∧ getB L xs = true)):=hid fun h=>hyes ⟨h.1,h.2.2,h.2.1⟩
    clear hyes
    have hk:=Hd.nthk 2 H.out rfl
    obtain ⟨b0,b1,b2,b3⟩:=cells4 hk
    have bs:=(Array.getElem?_eq_some_iff.1 hk).1
    clear hk
    go_wp2_with fail
    refine (new19_no (h:=xh) (s:=xs) (r:=xr) (v:=xv) HN.out H.out).mono ?_
    rintro e w2 ⟨rfl,h1⟩
    clear H b0 b1 b2 b3 bs
    have H:=hid h1
    clear h1
    have hk:=Hd.nthk 2 H.out rfl
    obtain ⟨b0,b1,b2,b3⟩:=cells4 hk
    have bs:=(Array.getElem?_eq_some_iff.1 hk).1
    clear hk
    go_wp2_with fail
    refine (conv17_calls xh xs xr xv _).mono ?_
    rintro e w3 ⟨rfl,h1⟩
    replace H:=hid (H.out.still h1)
    clear h1 b0 b1 b2 b3 bs
    have hk:=Hd.nthk 2 H.out rfl
    obtain ⟨b0,b1,b2,b3⟩:=cells4 hk
    have bs:=(Array.getElem?_eq_some_iff.1 hk).1
    clear hk
    go_wp2_with fail
    refine (rnew19_no (h:=xh) (s:=xs) (r:=xr) (v:=xv) HN.out (H.out.front 1 rfl)).mono ?_
    rintro e w4 ⟨rfl,h1⟩
    clear H b0 b1 b2 b3 bs
    have H:=hid (h1.front 1 rfl)
    clear h1
    have hk:=Hd.nthk 2 H.out rfl
    obtain ⟨b0,b1,b2,b3⟩:=cells4 hk
    have bs:=(Array.getElem?_eq_some_iff.1 hk).1
    clear hk
    obtain ⟨p13,hp13⟩:∃ q,w4.heap.size = q:=⟨_,rfl⟩
    go_wp2_with fail
    have H2:=hid (H.out.boxk (o:=.cells #[.int .i64 xh,.int .i64 xr,.int .i64 xs,.int .i64 xv] 72 (0,0)) p13 hp13)
    clear H b0 b1 b2 b3 bs
    refine (new19_no (h:=xh) (s:=xr) (r:=xs) (v:=xv) HN2.out (H2.out.front 1 rfl)).mono ?_
    rintro e w5 ⟨rfl,h1⟩
    clear H2 hp13
    have H:=hid h1
    clear h1
    have hk:=Hd.nthk 1 H.out rfl
    obtain ⟨b0,b1,b2,b3⟩:=cells4 hk
    have bs:=(Array.getElem?_eq_some_iff.1 hk).1
    clear hk
    go_wp2_with fail
    refine (conv17_calls xh xr xs xv _).mono ?_
    rintro e w6 ⟨rfl,h1⟩
    replace H:=hid (H.out.still h1)
    clear h1 b0 b1 b2 b3 bs
    have hk:=Hd.nthk 1 H.out rfl
    obtain ⟨b0,b1,b2,b3⟩:=cells4 hk
    have bs:=(Array.getElem?_eq_some_iff.1 hk).1
    clear hk
    go_wp2_with fail
    refine (rnew19_no (h:=xh) (s:=xr) (r:=xs) (v:=xv) HN2.out (H.out.front 2 rfl)).mono ?_
    rintro e w7 ⟨rfl,h1⟩
    clear H b0 b1 b2 b3 bs
    have H:=hid (h1.front 1 rfl)
    clear h1
    go_wp2_with fail
    go_loopw [19] (fun q wr=>q = .int .i64 0 ∧ Hid (Below W.heap.size W wr ∧ ∃ Ss,Hd W wr (Sto b L 1000::RSto b' L 1000::Ss))) (fun _ _=>0)
    case atStart=>exact ⟨rfl,hid ⟨H.out.below.trans ((Below.refl _ _).alloc H.out.below.size _),_,(H.out.al)⟩⟩
    case round=>as_aux_lemma =>
     clear H
     obtain ⟨rfl,H⟩:=hrel
     obtain ⟨hb,Ss,hs⟩:=H.out
     have HS:=hid hs
     clear hs hb H
     go_wp2_with fail
     refine (same2_calls HS.out).mono ?_
     rintro e w8 ⟨rfl,h1⟩
     have HB:=hid (HS.out.below.trans (h1.mono HS.out.below.size))
     clear h1
     go_wp2_with fail
     refine (fixed19_calls _).mono ?_
     rintro e w9 ⟨rfl,h1⟩
     have T2:=hid (HB.out.trans (h1.mono HB.out.size))
     clear h1
     go_wp2_with fail
     go_ret
     exact ⟨rfl,T2.out⟩
end Go.Proofs.Ytpcfmafokkffgaa
