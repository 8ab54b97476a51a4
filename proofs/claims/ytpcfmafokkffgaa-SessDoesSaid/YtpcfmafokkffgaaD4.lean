/-
  Walks and laws that the proof stands on, one behind another: RWin. For every input.
-/
import Derived.Test.YtpcfmafokkffgaaD3
namespace Go.Proofs.Ytpcfmafokkffgaa
open Go.RowKit

def wHas (x y n:Int):Bool:=decide (n < x) && (decide (x - 1 - n ≤ 63) && y.toNat.testBit (x - 1 - n).toNat)
theorem has_can {x y n:Int}:wCan x y n = (decide (x ≤ n) || (decide (x - 1 - n ≤ 63) && !wHas x y n)):=by
 unfold wCan wHas
 by_cases h1:x ≤ n
 · simp [h1]
 · have h2:n < x:=by omega
   by_cases h3:x - 1 - n ≤ 63
   · have h4:x - 1 - n < 64:=by omega
     simp [h1,h2,h3,h4]
   · have h4:¬ x - 1 - n < 64:=by omega
     simp [h1,h3,h4]
/-- No digit ahead of the first number. -/
def WFit (x y:Int):Prop:=y.toNat < 2 ^ x.toNat
theorem wFit_zero:WFit 0 0:=by unfold WFit; decide
theorem wFit_take {x y n:Int} (h:WIn x y) (hf:WFit x y) (hn:0 ≤ n) (hn':n ≤ 255):WFit (wTake x y n).1.1 (wTake x y n).1.2:=by
 unfold WFit at hf ⊢
 have hx0:=h.x0
 unfold wTake
 split
 · split
   · rename_i hlt
     dsimp only
     rw [Int.toNat_natCast]
     exact Nat.or_lt_two_pow hf (Nat.pow_lt_pow_right (by decide) (by omega))
   · rename_i hge
     dsimp only
     rw [Int.toNat_natCast]
     refine Nat.or_lt_two_pow ?_ (Nat.one_lt_two_pow (by omega))
     refine Nat.lt_of_le_of_lt (Nat.mod_le _ _) ?_
     have e:(n + 1).toNat = x.toNat + (n + 1 - x).toNat:=by omega
     rw [e,Nat.pow_add]
     exact (Nat.mul_lt_mul_right (Nat.two_pow_pos _)).2 hf
 · decide
/-- The digits of what is told, one by one. -/
theorem take_bit1 {x y n:Int} {i:Nat} (h:WIn x y) (_hn:0 ≤ n) (hc:wCan x y n = true) (hi:(i:Int) < (wTake x y n).1.1) (h64:i < 64) :
 (wTake x y n).1.2.toNat.testBit i = (decide ((wTake x y n).1.1 - 1 - i = n) || wHas x y ((wTake x y n).1.1 - 1 - i)):=by
 have hx0:=h.x0
 unfold wTake at hi ⊢
 rw [if_pos hc] at hi ⊢
 split at hi
 · rename_i hlt
   rw [if_pos hlt]
   dsimp only at hi ⊢
   rw [Int.toNat_natCast,Nat.testBit_or,Nat.testBit_two_pow,Bool.or_comm]
   unfold wHas
   rw [show (x - 1 - (x - 1 - (i:Int))).toNat = i by omega,decide_eq_true (show x - 1 - (i:Int) < x by omega),decide_eq_true (show x - 1 - (x - 1 - (i:Int)) ≤ 63 by omega)]
   rw [show decide ((x - 1 - n).toNat = i) = decide (x - 1 - (i:Int) = n) by rw [decide_eq_decide]; omega]
   simp
 · rename_i hge
   rw [if_neg hge]
   dsimp only at hi ⊢
   rw [Int.toNat_natCast,Nat.testBit_or,Nat.testBit_mod_two_pow,Nat.testBit_mul_two_pow,decide_eq_true h64,Bool.true_and,Bool.or_comm]
   have e1:(1:Nat).testBit i = decide (n + 1 - 1 - (i:Int) = n):=by
    by_cases h0:i = 0
    · subst h0; simp
    · rw [Nat.testBit_lt_two_pow (Nat.one_lt_two_pow h0),decide_eq_false (by omega)]
   rw [e1]
   congr 1
   unfold wHas
   by_cases h1:(n + 1 - x).toNat ≤ i
   · rw [decide_eq_true h1,decide_eq_true (show n + 1 - 1 - (i:Int) < x by omega),decide_eq_true (show x - 1 - (n + 1 - 1 - (i:Int)) ≤ 63 by omega),show (x - 1 - (n + 1 - 1 - (i:Int))).toNat = i - (n + 1 - x).toNat by omega]
     simp
   · rw [decide_eq_false h1,decide_eq_false (show ¬ n + 1 - 1 - (i:Int) < x by omega)]
     rfl
theorem take_bit2 {x y n:Int} {i:Nat} (h:WIn x y) (hf:WFit x y) (hn:0 ≤ n) (hc:wCan x y n = true) (hi:(wTake x y n).1.1 ≤ (i:Int)) :
 (wTake x y n).1.2.toNat.testBit i = (decide (x = (wTake x y n).1.1) && y.toNat.testBit i):=by
 have hx0:=h.x0
 unfold WFit at hf
 unfold wTake at hi ⊢
 rw [if_pos hc] at hi ⊢
 split at hi
 · rename_i hlt
   rw [if_pos hlt]
   dsimp only at hi ⊢
   rw [Int.toNat_natCast,Nat.testBit_or,Nat.testBit_two_pow,decide_eq_false (show ¬ (x - 1 - n).toNat = i by omega)]
   simp
 · rename_i hge
   rw [if_neg hge]
   dsimp only at hi ⊢
   rw [Int.toNat_natCast,Nat.testBit_or,Nat.testBit_mod_two_pow,Nat.testBit_mul_two_pow,Nat.testBit_lt_two_pow (Nat.one_lt_two_pow (show i ≠ 0 by omega)),decide_eq_false (show ¬ x = n + 1 by omega)]
   rw [Nat.testBit_lt_two_pow (x:=y.toNat) (i:=i - (n + 1 - x).toNat) (Nat.lt_of_lt_of_le hf (Nat.pow_le_pow_right (by decide) (by omega)))]
   simp

set_option maxRecDepth 100000 in
set_option maxHeartbeats 2000000 in
theorem bit_calls {y i:Nat} (hy:y < 18446744073709551616) (hi:i ≤ 63) (w:World) :
 Calls Try.prog 93 #[.int .u64 y,.int .i64 i] w fun e w'=>e = .returned (.bool (y.testBit i)) ∧ w = w':=by
 have HY:=hid hy
 have HI:=hid hi
 obtain ⟨tb,htb⟩:∃ t,y.testBit i = t:=⟨_,rfl⟩
 rw [htb]
 have HTB:=hid htb
 clear hy hi htb
 go_enter Try.func93,Try.ntmps93
 go_wp2_with fail
 go_loopw [0,5] (fun vy q wr=>∃ k v:Nat,k ≤ i ∧ vy = .int .u64 v ∧ q = .int .i64 k ∧ w = wr ∧ Hid (v = y / 2 ^ k)) (fun _ q _=>i - (intOf q).toNat)
 case atStart=>exact ⟨0,y,by omega,rfl,rfl,rfl,hid (by simp)⟩
 case round =>
  obtain ⟨k,v,hk,rfl,rfl,rfl,HV⟩:=hrel
  have hv:v < 18446744073709551616:=by rw [HV.out]; exact Nat.lt_of_le_of_lt (Nat.div_le_self _ _) HY.out
  by_cases hlt:k < i
  · have hd1:decide ((k:Int) < (i:Int)) = true:=by simp; omega
    have hd1':decide (k < i) = true:=by simp; omega
    obtain ⟨v2,hv2⟩:∃ v2:Nat,v / 2 = v2:=⟨_,rfl⟩
    have q1:(v:Int).tdiv 2 = (v2:Int):=by rw [Int.tdiv_eq_ediv_of_nonneg (by omega)]; omega
    have q2:IntKind.u64.wrap (v2:Int) = v2:=IntWalk.u64_in _ (by omega)
    have z1:IntKind.i64.wrap ((k:Int) + 1) = (k:Int) + 1:=IntWalk.i64_in _ (by have:=HI.out; omega)
    have HV2:=hid hv2
    have HLT:=hid hlt
    clear hlt hk hv2 hv
    go_wp2_with fail
    go_roundw
    case rel=>exact ⟨k + 1,v2,HLT.out,by first | rfl | trivial,by go_num,by first | rfl | trivial,hid (by rw [← HV2.out,HV.out,Nat.div_div_eq_div_mul,Nat.pow_succ])⟩
    case measure=>have:=HLT.out; simp [intOf]; omega
  · obtain rfl:k = i:=by omega
    have hd1:decide ((k:Int) < (k:Int)) = false:=by simp
    have hd1':decide (k < k) = false:=by simp
    obtain ⟨r,hr⟩:∃ r:Nat,v % 2 = r:=⟨_,rfl⟩
    have q1:(v:Int).tmod 2 = (r:Int):=by rw [Int.tmod_eq_emod_of_nonneg (by omega)]; omega
    have q2:IntKind.u64.wrap (r:Int) = r:=IntWalk.u64_in _ (by omega)
    have hb:tb = decide (r = 1):=by rw [← HTB.out,Nat.testBit_eq_decide_div_mod_eq,← HV.out,hr]
    by_cases h1:r = 1
    · have e1:((r:Int) == 1) = true:=by simp; omega
      have ET:=hid (hb.trans (decide_eq_true h1))
      clear h1 hr hb hlt hk hv
      go_wp2_with fail
      go_ret
      exact ⟨by rw [ET.out]; rfl,rfl⟩
    · have e1:((r:Int) == 1) = false:=by simp; omega
      have ET:=hid (hb.trans (decide_eq_false h1))
      clear h1 hr hb hlt hk hv
      go_wp2_with fail
      go_ret
      exact ⟨by rw [ET.out]; rfl,rfl⟩

set_option maxRecDepth 100000 in
set_option maxHeartbeats 2000000 in
theorem rhas_calls {x y n:Int} (h:WIn x y) (hn:0 ≤ n) (hn':n ≤ 255) (w:World) :
 Calls Try.prog 91 #[.agg #[.int .u64 x,.int .u64 y],.int .u64 n] w fun e w'=>e = .returned (.bool (wHas x y n)) ∧ Below w.heap.size w w':=by
 have H:=hid ((Hd.refl w).boxk (o:=.cells #[.int .u64 x,.int .u64 y] 91 (0,0)) w.heap.size rfl)
 have hx0:=h.x0
 have hx1:=h.x1
 have hy0:=h.y0
 have hy1:=h.y1
 clear h
 by_cases h1:n < x
 · have d1:decide (n < x) = true:=by simpa using h1
   have z1:IntKind.u64.wrap (x - 1) = x - 1:=IntWalk.u64_in _ (by omega)
   by_cases h2:x - 1 - n ≤ 63
   · obtain ⟨i,hi⟩:∃ i:Nat,x - 1 - n = i:=⟨(x - 1 - n).toNat,by omega⟩
     obtain ⟨v,hv⟩:∃ v:Nat,y = v:=⟨y.toNat,by omega⟩
     have z2:IntKind.u64.wrap (x - 1 - n) = (i:Int):=(IntWalk.u64_in _ (by omega)).trans hi
     have z3:IntKind.i64.wrap (i:Int) = i:=IntWalk.i64_in _ (by omega)
     have d2:decide ((i:Int) ≤ 63) = true:=by simp; omega
     have d2':decide (i ≤ 63) = true:=by simp; omega
     have hq:Hid (wHas x y n = v.testBit i):=hid (by unfold wHas; rw [d1,decide_eq_true h2,hi,hv]; simp)
     have HB:Hid (i ≤ 63 ∧ v < 18446744073709551616):=hid (by omega)
     subst hv
     clear h1 h2 hx0 hx1 hy0 hy1 hi
     go_enter Try.func91,Try.ntmps91
     go_wp2_with fail
     refine (bit_calls HB.out.2 HB.out.1 _).mono ?_
     rintro e w1 ⟨rfl,rfl⟩
     go_wp2_with fail
     go_ret
     exact ⟨by rw [hq.out]; rfl,H.out.below⟩
   · have z2:IntKind.u64.wrap (x - 1 - n) = x - 1 - n:=IntWalk.u64_in _ (by omega)
     have d2:decide (x - 1 - n ≤ 63) = false:=by simpa using h2
     have hq:Hid (wHas x y n = false):=hid (by unfold wHas; rw [d1,d2]; rfl)
     clear h1 h2 hx0 hx1 hy0 hy1
     go_enter Try.func91,Try.ntmps91
     go_wp2_with fail
     go_ret
     exact ⟨by rw [hq.out]; rfl,H.out.below⟩
 · have d1:decide (n < x) = false:=by simpa using h1
   have hq:Hid (wHas x y n = false):=hid (by unfold wHas; rw [d1]; rfl)
   clear h1 hx0 hx1 hy0 hy1
   go_enter Try.func91,Try.ntmps91
   go_wp2_with fail
   go_ret
   exact ⟨by rw [hq.out]; rfl,H.out.below⟩

set_option maxRecDepth 100000 in
set_option maxHeartbeats 2000000 in
theorem rcan_calls {x y n:Int} (h:WIn x y) (hn:0 ≤ n) (hn':n ≤ 255) (w:World) :
 Calls Try.prog 72 #[.agg #[.int .u64 x,.int .u64 y],.int .u64 n] w fun e w'=>e = .returned (.bool (wCan x y n)) ∧ Below w.heap.size w w':=by
 have H:=hid ((Hd.refl w).boxk (o:=.cells #[.int .u64 x,.int .u64 y] 91 (0,0)) w.heap.size rfl)
 have hx0:=h.x0
 have hx1:=h.x1
 have HW:=hid h
 have dm:(n == 18446744073709551615) = false:=by simp; omega
 clear h
 by_cases h1:x ≤ n
 · have d1:decide (x ≤ n) = true:=by simpa using h1
   have hq:Hid (wCan x y n = true):=hid (by rw [has_can,d1]; rfl)
   clear h1 hx0 hx1
   go_enter Try.func72,Try.ntmps72
   go_wp2_with fail
   go_ret
   exact ⟨by rw [hq.out]; rfl,H.out.below⟩
 · have d1:decide (x ≤ n) = false:=by simpa using h1
   have z1:IntKind.u64.wrap (x - 1) = x - 1:=IntWalk.u64_in _ (by omega)
   have z2:IntKind.u64.wrap (x - 1 - n) = x - 1 - n:=IntWalk.u64_in _ (by omega)
   by_cases h2:x - 1 - n ≤ 63
   · have d2:decide (x - 1 - n ≤ 63) = true:=by simpa using h2
     obtain ⟨hb,hhb⟩:∃ t,wHas x y n = t:=⟨_,rfl⟩
     have hq:Hid (wCan x y n = !hb):=hid (by rw [has_can,d1,d2,hhb]; rfl)
     have HH:=hid hhb
     have HN:=hid (And.intro hn hn')
     clear h1 h2 hx0 hx1 hhb hn hn'
     go_enter Try.func72,Try.ntmps72
     go_wp2_with fail
     refine (rhas_calls HW.out HN.out.1 HN.out.2 _).mono ?_
     rw [HH.out]
     rintro e w1 ⟨rfl,h1⟩
     have H2:=hid (H.out.still h1)
     clear h1
     cases hb
     · go_wp2_with fail
       go_ret
       exact ⟨by rw [hq.out]; rfl,H2.out.below⟩
     · go_wp2_with fail
       go_ret
       exact ⟨by rw [hq.out]; rfl,H2.out.below⟩
   · have d2:decide (x - 1 - n ≤ 63) = false:=by simpa using h2
     have hq:Hid (wCan x y n = false):=hid (by rw [has_can,d1,d2]; rfl)
     clear h1 h2 hx0 hx1
     go_enter Try.func72,Try.ntmps72
     go_wp2_with fail
     go_ret
     exact ⟨by rw [hq.out]; rfl,H.out.below⟩

theorem wTake_yes' {x y n:Int} (h:wCan x y n = true):(wTake x y n).2 = 0:=by
 unfold wTake
 rw [if_pos h]
 split <;> rfl
theorem half_bit {t i:Nat}:t / 2 ^ i = t / 2 ^ (i + 1) * 2 + (if t.testBit i = true then 1 else 0):=by
 rw [Nat.testBit_eq_decide_div_mod_eq,Nat.pow_succ,← Nat.div_div_eq_div_mul]
 by_cases h:t / 2 ^ i % 2 = 1
 · rw [if_pos (by simpa using h)]; omega
 · rw [if_neg (by simpa using h)]; omega
theorem wTake_max {x y n:Int} (hc:wCan x y n = true):(wTake x y n).1.1 = max x (n + 1):=by
 unfold wTake
 rw [if_pos hc]
 split
 · dsimp only; omega
 · dsimp only; omega

set_option maxRecDepth 100000 in
set_option maxHeartbeats 16000000 in
theorem rtake_calls {x y n:Int} (h:WIn x y) (hf:WFit x y) (hn:0 ≤ n) (hn':n ≤ 255) (w:World) :
 Calls Try.prog 74 #[.agg #[.int .u64 x,.int .u64 y],.int .u64 n] w fun e w'=>e = .returned (.tuple #[.agg #[.int .u64 (wTake x y n).1.1,.int .u64 (wTake x y n).1.2],.int .i64 (wTake x y n).2]) ∧ Below w.heap.size w w':=by
 have H:=hid (((Hd.refl w).boxk (o:=.cells #[.int .u64 x,.int .u64 y] 91 (0,0)) w.heap.size rfl).boxk (o:=.cells #[.int .u64 0,.int .u64 0] 91 (0,0)) (w.heap.size + 1) (by simp))
 have HW:=hid h
 have HF:=hid hf
 have HN:=hid (And.intro hn hn')
 have dm:(n == 18446744073709551615) = false:=by simp; omega
 cases hc:wCan x y n
 · have hq:Hid (wTake x y n = ((0,0),12)):=hid (by unfold wTake; rw [hc]; rfl)
   have HC:=hid hc
   clear h hf hc hn hn'
   rw [hq.out]
   go_enter Try.func74,Try.ntmps74
   go_wp2_with fail
   refine (rcan_calls HW.out HN.out.1 HN.out.2 _).mono ?_
   rw [HC.out]
   rintro e w1 ⟨rfl,h1⟩
   have H2:=hid (H.out.still h1)
   have hk:=H2.out.blk
   have q0:=(cell_of_heap hk 0).trans (show _ = some (.int .u64 0) from rfl)
   have q1:=(cell_of_heap hk 1).trans (show _ = some (.int .u64 0) from rfl)
   have qs:=(Array.getElem?_eq_some_iff.1 hk).1
   have qf:=frozen_of_heap hk
   clear h1 hk
   go_wp2_with fail
   refine bodyPost_ret (v:=.tuple #[.agg #[.int .u64 0,.int .u64 0],.int .i64 12]) (by simp [results,Try.results74,go_sem,q0,q1]) rfl ⟨rfl,?_⟩
   exact ((H2.out.set 0 (.int .u64 0)).set 1 (.int .u64 0)).below
 · have hT:=wTake_in h hn hn'
   have h0:(wTake x y n).2 = 0:=wTake_yes' hc
   have hmx:=wTake_max hc
   have ht1:∀ {i:Nat},(i:Int) < (wTake x y n).1.1 → i < 64 → (wTake x y n).1.2.toNat.testBit i = (decide ((wTake x y n).1.1 - 1 - i = n) || wHas x y ((wTake x y n).1.1 - 1 - i)):=fun a b=>take_bit1 h hn hc a b
   have ht2:∀ {i:Nat},(wTake x y n).1.1 ≤ (i:Int) → (wTake x y n).1.2.toNat.testBit i = (decide (x = (wTake x y n).1.1) && y.toNat.testBit i):=fun a=>take_bit2 h hf hn hc a
   rw [h0]
   obtain ⟨X,hX⟩:∃ X,(wTake x y n).1.1 = X:=⟨_,rfl⟩
   obtain ⟨T,hTn⟩:∃ T:Nat,(wTake x y n).1.2 = T:=⟨(wTake x y n).1.2.toNat,by have:=hT.y0; omega⟩
   rw [hX,hTn]
   rw [hX] at ht1 ht2 hmx hT
   rw [hTn] at ht1 ht2 hT
   simp only [Int.toNat_natCast] at ht1 ht2
   obtain ⟨yn,hyn⟩:∃ yn:Nat,y = yn:=⟨y.toNat,by have:=h.y0; omega⟩
   subst hyn
   simp only [Int.toNat_natCast] at ht2
   have HT1:Hid (∀ i:Nat,(i:Int) < X → i < 64 → T.testBit i = (decide (X - 1 - (i:Int) = n) || wHas x yn (X - 1 - i))):=hid fun i=>@ht1 i
   have HT2:Hid (∀ i:Nat,X ≤ (i:Int) → T.testBit i = (decide (x = X) && yn.testBit i)):=hid fun i=>@ht2 i
   have HX:=hid (show 0 ≤ X ∧ X ≤ 256 ∧ T < 18446744073709551616 ∧ yn < 18446744073709551616 from ⟨hT.x0,hT.x1,by have:=hT.y1; omega,by have:=h.y1; omega⟩)
   have HC:=hid hc
   by_cases hx:x < n + 1
   · have hX:n + 1 = X:=by omega
     have z9:IntKind.u64.wrap (n + 1) = X:=(IntWalk.u64_in _ (by omega)).trans hX
     have d0:x < X:=by omega
     clear h hf hc hn hn' hT h0 hX hTn ht1 ht2 hmx hx
     go_enter Try.func74,Try.ntmps74
     go_wp2_with fail
     refine (rcan_calls HW.out HN.out.1 HN.out.2 _).mono ?_
     rw [HC.out]
     rintro e w1 ⟨rfl,h1⟩
     have H2:=hid (H.out.still h1)
     clear h1 H
     have hk:=H2.out.swap.blk
     have b0:=(cell_of_heap hk 0).trans (show _ = some (.int .u64 x) from rfl)
     clear hk
     obtain ⟨p6,hp6⟩:∃ p,w1.heap.size = p:=⟨_,rfl⟩
     have H3:=hid (H2.out.boxk (o:=.cells #[.int .u64 X,.int .u64 0] 91 (0,0)) p6 hp6)
     clear H2
     go_wp2_with fail
     clear b0
     go_loopw [7] (fun q wr=>∃ (j B:Nat) (qq:Int),j ≤ 64 ∧ q = .int .i64 qq ∧ Hid (qq = (j:Int) - 1) ∧ Hid (B = T / 2 ^ j) ∧ Hid (Hd w wr [Blk p6 (.cells #[.int .u64 X,.int .u64 B] 91 (0,0)),Blk (w.heap.size + 1) (.cells #[.int .u64 0,.int .u64 0] 91 (0,0)),Blk w.heap.size (.cells #[.int .u64 x,.int .u64 yn] 91 (0,0))])) (fun q _=>(intOf q + 1).toNat)
     case atStart=>exact ⟨64,0,63,by omega,rfl,hid (by decide),hid (by rw [Nat.div_eq_of_lt]; have:=HX.out.2.2.1; exact this),H3⟩
     case round =>
      clear H3 hp6
      obtain ⟨j,B,qq,hj,rfl,HQ,HB,H⟩:=hrel
      obtain ⟨wl,hwl⟩:∃ wl:World,wl = wr:=⟨_,rfl⟩
      rw [← hwl] at H ⊢
      clear hwl wr
      by_cases hlt:0 ≤ qq
      · have hd1:decide (0 ≤ qq) = true:=by simpa using hlt
        obtain ⟨i,hi⟩:∃ i:Nat,qq = i:=⟨qq.toNat,by omega⟩
        subst hi
        have hji:j = i + 1:=by have:=HQ.out; omega
        subst hji
        have hB2:B * 2 ≤ T:=by rw [HB.out,Nat.pow_succ,← Nat.div_div_eq_div_mul]; have:=Nat.div_le_self T (2 ^ i); omega
        obtain ⟨C,hC⟩:∃ C:Nat,B * 2 = C:=⟨_,rfl⟩
        have z1:IntKind.u64.wrap ((B:Int) * 2) = C:=(IntWalk.u64_in _ (by have:=HX.out; omega)).trans (by omega)
        have z2:IntKind.u64.wrap (i:Int) = i:=IntWalk.u64_in _ (by omega)
        have z3:IntKind.i64.wrap ((i:Int) - 1) = (i:Int) - 1:=IntWalk.i64_in _ (by omega)
        have hbit:T / 2 ^ i = C + (if T.testBit i = true then 1 else 0):=by rw [half_bit,← HB.out,hC]
        have hCT:C + (if T.testBit i = true then 1 else 0) < 18446744073709551616:=by rw [← hbit]; exact Nat.lt_of_le_of_lt (Nat.div_le_self _ _) HX.out.2.2.1
        have HBT:=hid hbit
        have HCT:=hid hCT
        have HJ:=hid hj
        have hk:=H.out.blk
        have c0:=(cell_of_heap hk 0).trans (show _ = some (.int .u64 X) from rfl)
        have c1:=(cell_of_heap hk 1).trans (show _ = some (.int .u64 B) from rfl)
        have cf:=frozen_of_heap hk
        have cs:=(Array.getElem?_eq_some_iff.1 hk).1
        clear hk
        go_upto_region 11 with fail
        obtain ⟨w2,hw2⟩:∃ w2,wl.setCell ⟨p6,1,none⟩ (.int .u64 C) = w2:=⟨_,rfl⟩
        have H2:=hid (H.out.set 1 (.int .u64 C))
        rw [hw2] at H2 ⊢
        replace H:Hid (Hd w w2 [Blk p6 (.cells #[.int .u64 X,.int .u64 C] 91 (0,0)),Blk (w.heap.size + 1) (.cells #[.int .u64 0,.int .u64 0] 91 (0,0)),Blk w.heap.size (.cells #[.int .u64 x,.int .u64 yn] 91 (0,0))]):=H2
        clear H2 hw2 c0 c1 cf cs hlt hd1 hj hB2 hC hbit hCT z1
        by_cases hiX:(i:Int) < X
        · have e1:decide ((i:Int) < X) = true:=by simpa using hiX
          have e2:decide (X ≤ (i:Int)) = false:=by simp; omega
          have y1:IntKind.u64.wrap (X - 1) = X - 1:=IntWalk.u64_in _ (by have:=HX.out; omega)
          have y2:IntKind.u64.wrap (X - 1 - (i:Int)) = X - 1 - (i:Int):=IntWalk.u64_in _ (by have:=HX.out; omega)
          have hbv:=HT1.out i hiX (by have:=HJ.out; omega)
          have HIX:=hid hiX
          clear hiX
          by_cases hen:X - 1 - (i:Int) = n
          · have e3:(X - 1 - (i:Int) == n) = true:=by simpa using hen
            rw [decide_eq_true hen,Bool.true_or] at hbv
            have HBV:=hid hbv
            clear hen hbv
            have hk:=H.out.blk
            have c0:=(cell_of_heap hk 0).trans (show _ = some (.int .u64 X) from rfl)
            have c1:=(cell_of_heap hk 1).trans (show _ = some (.int .u64 C) from rfl)
            have cf:=frozen_of_heap hk
            have cs:=(Array.getElem?_eq_some_iff.1 hk).1
            clear hk
            have y9:IntKind.u64.wrap ((C:Int) + 1) = ((C + 1:Nat):Int):=(IntWalk.u64_in _ (by have:=HCT.out; rw [if_pos HBV.out] at this; omega)).trans (by omega)
            go_wp2_with fail
            go_roundw
            case rel=>exact ⟨i,C + 1,_,by have:=HJ.out; omega,by first | rfl | trivial,hid rfl,hid (by rw [HBT.out,HBV.out] <;> rfl),hid (H.out.set 1 _)⟩
            case measure=>simp [intOf]
          · have e3:(X - 1 - (i:Int) == n) = false:=by simpa using hen
            rw [decide_eq_false hen,Bool.false_or] at hbv
            obtain ⟨hb,hhb⟩:∃ t,wHas x yn (X - 1 - (i:Int)) = t:=⟨_,rfl⟩
            rw [hhb] at hbv
            have HHB:=hid hhb
            have HBV:=hid hbv
            clear hen hbv hhb
            have hk:=(H.out.front 2 rfl).blk
            have b0:=(cell_of_heap hk 0).trans (show _ = some (.int .u64 x) from rfl)
            have b1:=(cell_of_heap hk 1).trans (show _ = some (.int .u64 yn) from rfl)
            clear hk
            have hk:=H.out.blk
            have c0:=(cell_of_heap hk 0).trans (show _ = some (.int .u64 X) from rfl)
            have c1:=(cell_of_heap hk 1).trans (show _ = some (.int .u64 C) from rfl)
            have cf:=frozen_of_heap hk
            have cs:=(Array.getElem?_eq_some_iff.1 hk).1
            clear hk
            go_wp2_with fail
            refine (rhas_calls HW.out (by have:=HIX.out; omega) (by have:=HX.out; have:=HIX.out; omega) _).mono ?_
            rw [HHB.out]
            rintro e w3 ⟨rfl,h1⟩
            replace H:=hid (H.out.still h1)
            clear h1 b0 b1 c0 c1 cf cs
            cases hb
            · skip
              have hk:=H.out.blk
              have c0:=(cell_of_heap hk 0).trans (show _ = some (.int .u64 X) from rfl)
              have c1:=(cell_of_heap hk 1).trans (show _ = some (.int .u64 C) from rfl)
              have cf:=frozen_of_heap hk
              have cs:=(Array.getElem?_eq_some_iff.1 hk).1
              clear hk
              go_wp2_with fail
              go_roundw
              case rel=>exact ⟨i,C,_,by have:=HJ.out; omega,by first | rfl | trivial,hid rfl,hid (by rw [HBT.out,HBV.out] <;> rfl),H⟩
              case measure=>simp [intOf]
            · skip
              have hk:=H.out.blk
              have c0:=(cell_of_heap hk 0).trans (show _ = some (.int .u64 X) from rfl)
              have c1:=(cell_of_heap hk 1).trans (show _ = some (.int .u64 C) from rfl)
              have cf:=frozen_of_heap hk
              have cs:=(Array.getElem?_eq_some_iff.1 hk).1
              clear hk
              have y9:IntKind.u64.wrap ((C:Int) + 1) = ((C + 1:Nat):Int):=(IntWalk.u64_in _ (by have:=HCT.out; rw [if_pos HBV.out] at this; omega)).trans (by omega)
              go_wp2_with fail
              go_roundw
              case rel=>exact ⟨i,C + 1,_,by have:=HJ.out; omega,by first | rfl | trivial,hid rfl,hid (by rw [HBT.out,HBV.out] <;> rfl),hid (H.out.set 1 _)⟩
              case measure=>simp [intOf]
        · have e1:decide ((i:Int) < X) = false:=by simpa using hiX
          have e2:decide (X ≤ (i:Int)) = true:=by simp; omega
          have hbv:=HT2.out i (by omega)
          clear hiX
          have hk:=(H.out.front 2 rfl).blk
          have b0:=(cell_of_heap hk 0).trans (show _ = some (.int .u64 x) from rfl)
          have b1:=(cell_of_heap hk 1).trans (show _ = some (.int .u64 yn) from rfl)
          clear hk
          have e3:(x == X) = false:=by have:=d0; simp; omega
          rw [decide_eq_false (show ¬ x = X by omega),Bool.false_and] at hbv
          have HBV:=hid hbv
          clear hbv
          have hk:=H.out.blk
          have c0:=(cell_of_heap hk 0).trans (show _ = some (.int .u64 X) from rfl)
          have c1:=(cell_of_heap hk 1).trans (show _ = some (.int .u64 C) from rfl)
          have cf:=frozen_of_heap hk
          have cs:=(Array.getElem?_eq_some_iff.1 hk).1
          clear hk
          go_wp2_with fail
          go_roundw
          case rel=>exact ⟨i,C,_,by have:=HJ.out; omega,by first | rfl | trivial,hid rfl,hid (by rw [HBT.out,HBV.out] <;> rfl),H⟩
          case measure=>simp [intOf]
      · have hd1:decide (0 ≤ qq) = false:=by simpa using hlt
        have hj0:j = 0:=by have:=HQ.out; omega
        subst hj0
        have hBT:B = T:=by rw [HB.out]; simp
        subst hBT
        have hk:=H.out.blk
        have c0:=(cell_of_heap hk 0).trans (show _ = some (.int .u64 X) from rfl)
        have c1:=(cell_of_heap hk 1).trans (show _ = some (.int .u64 B) from rfl)
        clear hk
        have hk:=(H.out.front 1 rfl).blk
        have q0:=(cell_of_heap hk 0).trans (show _ = some (.int .u64 0) from rfl)
        have q1:=(cell_of_heap hk 1).trans (show _ = some (.int .u64 0) from rfl)
        have qs:=(Array.getElem?_eq_some_iff.1 hk).1
        have qf:=frozen_of_heap hk
        clear hk hlt hj
        go_wp2_with fail
        have H5:=hid (((H.out.front 1 rfl).set 0 (.int .u64 X)).set 1 (.int .u64 B))
        obtain ⟨w5,hw5⟩:∃ w5,(wl.setCell ⟨w.heap.size + 1,0,none⟩ (.int .u64 X)).setCell ⟨w.heap.size + 1,1,none⟩ (.int .u64 B) = w5:=⟨_,rfl⟩
        rw [hw5] at H5 ⊢
        have hk:=H5.out.blk
        have s0:=(cell_of_heap hk 0).trans (show _ = some (.int .u64 X) from rfl)
        have s1:=(cell_of_heap hk 1).trans (show _ = some (.int .u64 B) from rfl)
        clear hk
        exact bodyPost_ret (v:=.tuple #[.agg #[.int .u64 X,.int .u64 B],.int .i64 0]) (by simp [results,Try.results74,go_sem,s0,s1]) rfl ⟨rfl,H5.out.below⟩
   · have hX:x = X:=by omega
     have z9:IntKind.u64.wrap (n + 1) = n + 1:=IntWalk.u64_in _ (by omega)
     have d0:n + 1 ≤ x:=by omega
     have d0':¬ x < n + 1:=hx
     subst hX
     clear h hf hc hn hn' hT h0 hTn ht1 ht2 hmx hx
     go_enter Try.func74,Try.ntmps74
     go_wp2_with fail
     refine (rcan_calls HW.out HN.out.1 HN.out.2 _).mono ?_
     rw [HC.out]
     rintro e w1 ⟨rfl,h1⟩
     have H2:=hid (H.out.still h1)
     clear h1 H
     have hk:=H2.out.swap.blk
     have b0:=(cell_of_heap hk 0).trans (show _ = some (.int .u64 x) from rfl)
     clear hk
     obtain ⟨p6,hp6⟩:∃ p,w1.heap.size = p:=⟨_,rfl⟩
     have H3:=hid (H2.out.boxk (o:=.cells #[.int .u64 x,.int .u64 0] 91 (0,0)) p6 hp6)
     clear H2
     go_wp2_with fail
     clear b0
     go_loopw [7] (fun q wr=>∃ (j B:Nat) (qq:Int),j ≤ 64 ∧ q = .int .i64 qq ∧ Hid (qq = (j:Int) - 1) ∧ Hid (B = T / 2 ^ j) ∧ Hid (Hd w wr [Blk p6 (.cells #[.int .u64 x,.int .u64 B] 91 (0,0)),Blk (w.heap.size + 1) (.cells #[.int .u64 0,.int .u64 0] 91 (0,0)),Blk w.heap.size (.cells #[.int .u64 x,.int .u64 yn] 91 (0,0))])) (fun q _=>(intOf q + 1).toNat)
     case atStart=>exact ⟨64,0,63,by omega,rfl,hid (by decide),hid (by rw [Nat.div_eq_of_lt]; have:=HX.out.2.2.1; exact this),H3⟩
     case round =>
      clear H3 hp6
      obtain ⟨j,B,qq,hj,rfl,HQ,HB,H⟩:=hrel
      obtain ⟨wl,hwl⟩:∃ wl:World,wl = wr:=⟨_,rfl⟩
      rw [← hwl] at H ⊢
      clear hwl wr
      by_cases hlt:0 ≤ qq
      · have hd1:decide (0 ≤ qq) = true:=by simpa using hlt
        obtain ⟨i,hi⟩:∃ i:Nat,qq = i:=⟨qq.toNat,by omega⟩
        subst hi
        have hji:j = i + 1:=by have:=HQ.out; omega
        subst hji
        have hB2:B * 2 ≤ T:=by rw [HB.out,Nat.pow_succ,← Nat.div_div_eq_div_mul]; have:=Nat.div_le_self T (2 ^ i); omega
        obtain ⟨C,hC⟩:∃ C:Nat,B * 2 = C:=⟨_,rfl⟩
        have z1:IntKind.u64.wrap ((B:Int) * 2) = C:=(IntWalk.u64_in _ (by have:=HX.out; omega)).trans (by omega)
        have z2:IntKind.u64.wrap (i:Int) = i:=IntWalk.u64_in _ (by omega)
        have z3:IntKind.i64.wrap ((i:Int) - 1) = (i:Int) - 1:=IntWalk.i64_in _ (by omega)
        have hbit:T / 2 ^ i = C + (if T.testBit i = true then 1 else 0):=by rw [half_bit,← HB.out,hC]
        have hCT:C + (if T.testBit i = true then 1 else 0) < 18446744073709551616:=by rw [← hbit]; exact Nat.lt_of_le_of_lt (Nat.div_le_self _ _) HX.out.2.2.1
        have HBT:=hid hbit
        have HCT:=hid hCT
        have HJ:=hid hj
        have hk:=H.out.blk
        have c0:=(cell_of_heap hk 0).trans (show _ = some (.int .u64 x) from rfl)
        have c1:=(cell_of_heap hk 1).trans (show _ = some (.int .u64 B) from rfl)
        have cf:=frozen_of_heap hk
        have cs:=(Array.getElem?_eq_some_iff.1 hk).1
        clear hk
        go_upto_region 11 with fail
        obtain ⟨w2,hw2⟩:∃ w2,wl.setCell ⟨p6,1,none⟩ (.int .u64 C) = w2:=⟨_,rfl⟩
        have H2:=hid (H.out.set 1 (.int .u64 C))
        rw [hw2] at H2 ⊢
        replace H:Hid (Hd w w2 [Blk p6 (.cells #[.int .u64 x,.int .u64 C] 91 (0,0)),Blk (w.heap.size + 1) (.cells #[.int .u64 0,.int .u64 0] 91 (0,0)),Blk w.heap.size (.cells #[.int .u64 x,.int .u64 yn] 91 (0,0))]):=H2
        clear H2 hw2 c0 c1 cf cs hlt hd1 hj hB2 hC hbit hCT z1
        by_cases hix:(i:Int) < x
        · have e1:decide ((i:Int) < x) = true:=by simpa using hix
          have e2:decide (x ≤ (i:Int)) = false:=by simp; omega
          have y1:IntKind.u64.wrap (x - 1) = x - 1:=IntWalk.u64_in _ (by have:=HX.out; omega)
          have y2:IntKind.u64.wrap (x - 1 - (i:Int)) = x - 1 - (i:Int):=IntWalk.u64_in _ (by have:=HX.out; omega)
          have hbv:=HT1.out i hix (by have:=HJ.out; omega)
          have HIX:=hid hix
          clear hix
          by_cases hen:x - 1 - (i:Int) = n
          · have e3:(x - 1 - (i:Int) == n) = true:=by simpa using hen
            rw [decide_eq_true hen,Bool.true_or] at hbv
            have HBV:=hid hbv
            clear hen hbv
            have hk:=H.out.blk
            have c0:=(cell_of_heap hk 0).trans (show _ = some (.int .u64 x) from rfl)
            have c1:=(cell_of_heap hk 1).trans (show _ = some (.int .u64 C) from rfl)
            have cf:=frozen_of_heap hk
            have cs:=(Array.getElem?_eq_some_iff.1 hk).1
            clear hk
            have y9:IntKind.u64.wrap ((C:Int) + 1) = ((C + 1:Nat):Int):=(IntWalk.u64_in _ (by have:=HCT.out; rw [if_pos HBV.out] at this; omega)).trans (by omega)
            go_wp2_with fail
            go_roundw
            case rel=>exact ⟨i,C + 1,_,by have:=HJ.out; omega,by first | rfl | trivial,hid rfl,hid (by rw [HBT.out,HBV.out] <;> rfl),hid (H.out.set 1 _)⟩
            case measure=>simp [intOf]
          · have e3:(x - 1 - (i:Int) == n) = false:=by simpa using hen
            rw [decide_eq_false hen,Bool.false_or] at hbv
            obtain ⟨hb,hhb⟩:∃ t,wHas x yn (x - 1 - (i:Int)) = t:=⟨_,rfl⟩
            rw [hhb] at hbv
            have HHB:=hid hhb
            have HBV:=hid hbv
            clear hen hbv hhb
            have hk:=(H.out.front 2 rfl).blk
            have b0:=(cell_of_heap hk 0).trans (show _ = some (.int .u64 x) from rfl)
            have b1:=(cell_of_heap hk 1).trans (show _ = some (.int .u64 yn) from rfl)
            clear hk
            have hk:=H.out.blk
            have c0:=(cell_of_heap hk 0).trans (show _ = some (.int .u64 x) from rfl)
            have c1:=(cell_of_heap hk 1).trans (show _ = some (.int .u64 C) from rfl)
            have cf:=frozen_of_heap hk
            have cs:=(Array.getElem?_eq_some_iff.1 hk).1
            clear hk
            go_wp2_with fail
            refine (rhas_calls HW.out (by have:=HIX.out; omega) (by have:=HX.out; have:=HIX.out; omega) _).mono ?_
            rw [HHB.out]
            rintro e w3 ⟨rfl,h1⟩
            replace H:=hid (H.out.still h1)
            clear h1 b0 b1 c0 c1 cf cs
            cases hb
            · skip
              have hk:=H.out.blk
              have c0:=(cell_of_heap hk 0).trans (show _ = some (.int .u64 x) from rfl)
              have c1:=(cell_of_heap hk 1).trans (show _ = some (.int .u64 C) from rfl)
              have cf:=frozen_of_heap hk
              have cs:=(Array.getElem?_eq_some_iff.1 hk).1
              clear hk
              go_wp2_with fail
              go_roundw
              case rel=>exact ⟨i,C,_,by have:=HJ.out; omega,by first | rfl | trivial,hid rfl,hid (by rw [HBT.out,HBV.out] <;> rfl),H⟩
              case measure=>simp [intOf]
            · skip
              have hk:=H.out.blk
              have c0:=(cell_of_heap hk 0).trans (show _ = some (.int .u64 x) from rfl)
              have c1:=(cell_of_heap hk 1).trans (show _ = some (.int .u64 C) from rfl)
              have cf:=frozen_of_heap hk
              have cs:=(Array.getElem?_eq_some_iff.1 hk).1
              clear hk
              have y9:IntKind.u64.wrap ((C:Int) + 1) = ((C + 1:Nat):Int):=(IntWalk.u64_in _ (by have:=HCT.out; rw [if_pos HBV.out] at this; omega)).trans (by omega)
              go_wp2_with fail
              go_roundw
              case rel=>exact ⟨i,C + 1,_,by have:=HJ.out; omega,by first | rfl | trivial,hid rfl,hid (by rw [HBT.out,HBV.out] <;> rfl),hid (H.out.set 1 _)⟩
              case measure=>simp [intOf]
        · have e1:decide ((i:Int) < x) = false:=by simpa using hix
          have e2:decide (x ≤ (i:Int)) = true:=by simp; omega
          have hbv:=HT2.out i (by omega)
          clear hix
          have hk:=(H.out.front 2 rfl).blk
          have b0:=(cell_of_heap hk 0).trans (show _ = some (.int .u64 x) from rfl)
          have b1:=(cell_of_heap hk 1).trans (show _ = some (.int .u64 yn) from rfl)
          clear hk
          have e3:(x == x) = true:=by simp
          simp only [decide_true,Bool.true_and] at hbv
          obtain ⟨hb,hhb⟩:∃ t,yn.testBit i = t:=⟨_,rfl⟩
          rw [hhb] at hbv
          have HHB:=hid hhb
          have HBV:=hid hbv
          clear hbv hhb
          have hk:=H.out.blk
          have c0:=(cell_of_heap hk 0).trans (show _ = some (.int .u64 x) from rfl)
          have c1:=(cell_of_heap hk 1).trans (show _ = some (.int .u64 C) from rfl)
          have cf:=frozen_of_heap hk
          have cs:=(Array.getElem?_eq_some_iff.1 hk).1
          clear hk
          go_wp2_with fail
          refine (bit_calls (y:=yn) (i:=i) HX.out.2.2.2 (by have:=HJ.out; omega) _).mono ?_
          rw [HHB.out]
          rintro e w3 ⟨rfl,rfl⟩
          clear b0 b1 c0 c1 cf cs
          cases hb
          · skip
            have hk:=H.out.blk
            have c0:=(cell_of_heap hk 0).trans (show _ = some (.int .u64 x) from rfl)
            have c1:=(cell_of_heap hk 1).trans (show _ = some (.int .u64 C) from rfl)
            have cf:=frozen_of_heap hk
            have cs:=(Array.getElem?_eq_some_iff.1 hk).1
            clear hk
            go_wp2_with fail
            go_roundw
            case rel=>exact ⟨i,C,_,by have:=HJ.out; omega,by first | rfl | trivial,hid rfl,hid (by rw [HBT.out,HBV.out] <;> rfl),H⟩
            case measure=>simp [intOf]
          · skip
            have hk:=H.out.blk
            have c0:=(cell_of_heap hk 0).trans (show _ = some (.int .u64 x) from rfl)
            have c1:=(cell_of_heap hk 1).trans (show _ = some (.int .u64 C) from rfl)
            have cf:=frozen_of_heap hk
            have cs:=(Array.getElem?_eq_some_iff.1 hk).1
            clear hk
            have y9:IntKind.u64.wrap ((C:Int) + 1) = ((C + 1:Nat):Int):=(IntWalk.u64_in _ (by have:=HCT.out; rw [if_pos HBV.out] at this; omega)).trans (by omega)
            go_wp2_with fail
            go_roundw
            case rel=>exact ⟨i,C + 1,_,by have:=HJ.out; omega,by first | rfl | trivial,hid rfl,hid (by rw [HBT.out,HBV.out] <;> rfl),hid (H.out.set 1 _)⟩
            case measure=>simp [intOf]
      · have hd1:decide (0 ≤ qq) = false:=by simpa using hlt
        have hj0:j = 0:=by have:=HQ.out; omega
        subst hj0
        have hBT:B = T:=by rw [HB.out]; simp
        subst hBT
        have hk:=H.out.blk
        have c0:=(cell_of_heap hk 0).trans (show _ = some (.int .u64 x) from rfl)
        have c1:=(cell_of_heap hk 1).trans (show _ = some (.int .u64 B) from rfl)
        clear hk
        have hk:=(H.out.front 1 rfl).blk
        have q0:=(cell_of_heap hk 0).trans (show _ = some (.int .u64 0) from rfl)
        have q1:=(cell_of_heap hk 1).trans (show _ = some (.int .u64 0) from rfl)
        have qs:=(Array.getElem?_eq_some_iff.1 hk).1
        have qf:=frozen_of_heap hk
        clear hk hlt hj
        go_wp2_with fail
        have H5:=hid (((H.out.front 1 rfl).set 0 (.int .u64 x)).set 1 (.int .u64 B))
        obtain ⟨w5,hw5⟩:∃ w5,(wl.setCell ⟨w.heap.size + 1,0,none⟩ (.int .u64 x)).setCell ⟨w.heap.size + 1,1,none⟩ (.int .u64 B) = w5:=⟨_,rfl⟩
        rw [hw5] at H5 ⊢
        have hk:=H5.out.blk
        have s0:=(cell_of_heap hk 0).trans (show _ = some (.int .u64 x) from rfl)
        have s1:=(cell_of_heap hk 1).trans (show _ = some (.int .u64 B) from rfl)
        clear hk
        exact bodyPost_ret (v:=.tuple #[.agg #[.int .u64 x,.int .u64 B],.int .i64 0]) (by simp [results,Try.results74,go_sem,s0,s1]) rfl ⟨rfl,H5.out.below⟩
end Go.Proofs.Ytpcfmafokkffgaa
