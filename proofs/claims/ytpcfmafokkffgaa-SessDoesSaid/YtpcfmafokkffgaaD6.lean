/-
  Walks and laws that the proof stands on, one behind another: SkipU. For every input.
-/
import Derived.Test.YtpcfmafokkffgaaD3
import Derived.Test.YtpcfmafokkffgaaD1
import Derived.Laws.AppendOwnNone
import Derived.Test.YtpcfmafokkffgaaD5
import Derived.Lib.SliceRun
import Derived.Laws.CopyRow
import Derived.Shelf.Spec.SlicesInsert
import Derived.Shelf.Spec.SlicesInsertGrow
namespace Go.Proofs.Ytpcfmafokkffgaa

/-- An epoch that is kept: its number, its key, and its window. -/
structure En where
 ep:Int
 key:Int
 nx:Int
 bt:Int

theorem En.ext' {x y:En} (h1:x.ep = y.ep) (h2:x.key = y.key) (h3:x.nx = y.nx) (h4:x.bt = y.bt):x = y:=by
 cases x; cases y; simp_all

instance:DecidableEq En:=fun x y =>
 if h:x.ep = y.ep ∧ x.key = y.key ∧ x.nx = y.nx ∧ x.bt = y.bt then isTrue (En.ext' h.1 h.2.1 h.2.2.1 h.2.2.2)
 else isFalse fun e=>h (by subst e; exact ⟨rfl,rfl,rfl,rfl⟩)

def En.zero:En:=⟨0,0,0,0⟩

/-- Rising. -/
def Rises (es:List En):Prop:=es.Pairwise fun x y=>x.ep < y.ep

/-- Where an epoch is, or would be. -/
def lowOf (n:Int):List En → Nat
 | []=>0
 | e::es=>if e.ep < n then lowOf n es + 1 else 0
/-- Is it there? -/
def isAt (es:List En) (n:Int):Bool:=decide ((es[lowOf n es]?).map (·.ep) = some n)

def kPut (es:List En) (e:En):List En × En × Bool :=
 if isAt es e.ep = true then (es.set (lowOf e.ep es) e,En.zero,false)
 else if es.length + 1 ≤ 4 then (es.take (lowOf e.ep es) ++ e::es.drop (lowOf e.ep es),En.zero,false)
 else ((es.take (lowOf e.ep es) ++ e::es.drop (lowOf e.ep es)).drop 1,(es.take (lowOf e.ep es) ++ e::es.drop (lowOf e.ep es)).getD 0 En.zero,true)
def kGet (es:List En) (n:Int):En × Bool:=if isAt es n = true then (es.getD (lowOf n es) En.zero,true) else (En.zero,false)
def kDrop (es:List En) (n:Int):List En:=if isAt es n = true then es.eraseIdx (lowOf n es) else es
def kKeys (es:List En):List Int:=es.map (·.key)

theorem lowOf_le (n:Int):∀ es:List En,lowOf n es ≤ es.length
 | []=>Nat.le_refl _
 | e::es=>by
  simp only [lowOf]
  split
  · have:=lowOf_le n es; simp; omega
  · simp

/-- The document's. -/
def below (es:List En) (n:Int):List En:=es.filter fun x=>decide (x.ep < n)
def above (es:List En) (n:Int):List En:=es.filter fun x=>decide (n < x.ep)
def without (es:List En) (n:Int):List En:=es.filter fun x=>decide (x.ep ≠ n)
def rGet (es:List En) (n:Int):En × Bool:=match es.find? fun x=>decide (x.ep = n) with
 | some x=>(x,true)
 | none=>(En.zero,false)

theorem Rises.tail {e:En} {es:List En} (h:Rises (e::es)):Rises es:=(List.pairwise_cons.1 h).2
theorem Rises.head {e:En} {es:List En} (h:Rises (e::es)):∀ x ∈ es,e.ep < x.ep:=(List.pairwise_cons.1 h).1

theorem above_all {n:Int}:∀ {es:List En},(∀ x ∈ es,n < x.ep) → below es n = [] ∧ above es n = es ∧ without es n = es ∧ es.find? (fun x=>decide (x.ep = n)) = none ∧ lowOf n es = 0
 | [],_=>⟨rfl,rfl,rfl,rfl,rfl⟩
 | e::es,h=>by
  have h1:=h e (by simp)
  obtain ⟨a,b,c,d,_⟩:=above_all (es:=es) fun x hx=>h x (by simp [hx])
  refine ⟨?_,?_,?_,?_,?_⟩
  · simp only [below,List.filter_cons] at a ⊢
    rw [if_neg (by simp; omega),a]
  · simp only [above,List.filter_cons] at b ⊢
    rw [if_pos (by simp; omega),b]
  · simp only [without,List.filter_cons] at c ⊢
    rw [if_pos (by simp; omega),c]
  · simp only [List.find?_cons]
    rw [show decide (e.ep = n) = false by simp; omega]
    exact d
  · simp only [lowOf]; rw [if_neg (by omega)]

/-- The three parts of a cache that rises. -/
theorem parts_of (n:Int):∀ {es:List En},Rises es →
 lowOf n es = (below es n).length ∧ ((isAt es n = true ∧ ∃ x,x.ep = n ∧ es = below es n ++ x::above es n ∧ es.find? (fun x=>decide (x.ep = n)) = some x) ∨ (isAt es n = false ∧ es = below es n ++ above es n ∧ es.find? (fun x=>decide (x.ep = n)) = none)) ∧ without es n = below es n ++ above es n
 | [],_=>⟨rfl,.inr ⟨by simp [isAt],rfl,rfl⟩,rfl⟩
 | e::es,h=>by
  have hh:=h.head
  obtain ⟨i1,i2,i3⟩:=parts_of n h.tail
  rcases Int.lt_trichotomy e.ep n with hlt | heq | hgt
  · have eb:below (e::es) n = e::below es n:=by simp only [below,List.filter_cons]; rw [if_pos (by simpa using hlt)]
    have ea:above (e::es) n = above es n:=by simp only [above,List.filter_cons]; rw [if_neg (by simp; omega)]
    have ew:without (e::es) n = e::without es n:=by simp only [without,List.filter_cons]; rw [if_pos (by simp; omega)]
    have el:lowOf n (e::es) = lowOf n es + 1:=by simp only [lowOf]; rw [if_pos hlt]
    have ei:isAt (e::es) n = isAt es n:=by simp only [isAt,el,List.getElem?_cons_succ]
    have ef:(e::es).find? (fun x=>decide (x.ep = n)) = es.find? (fun x=>decide (x.ep = n)):=by
     simp only [List.find?_cons]; rw [show decide (e.ep = n) = false by simp; omega]
    rw [eb,ea,ew,el,ei,ef]
    refine ⟨by simp [i1],?_,by rw [i3]; rfl⟩
    rcases i2 with ⟨j1,x,j2,j3,j4⟩ | ⟨j1,j2,j3⟩
    · exact .inl ⟨j1,x,j2,by rw [List.cons_append,← j3],j4⟩
    · exact .inr ⟨j1,by rw [List.cons_append,← j2],j3⟩
  · obtain ⟨a,b,c,_,d⟩:=above_all (n:=n) (es:=es) fun x hx=>by have:=hh x hx; omega
    have eb:below (e::es) n = []:=by simp only [below,List.filter_cons] at a ⊢; rw [if_neg (by simp; omega),a]
    have ea:above (e::es) n = es:=by simp only [above,List.filter_cons] at b ⊢; rw [if_neg (by simp; omega),b]
    have ew:without (e::es) n = es:=by simp only [without,List.filter_cons] at c ⊢; rw [if_neg (by simp; omega),c]
    have el:lowOf n (e::es) = 0:=by simp only [lowOf]; rw [if_neg (by omega)]
    rw [eb,ea,ew,el]
    refine ⟨rfl,.inl ⟨by simp [isAt,el,heq],e,heq,rfl,?_⟩,rfl⟩
    simp only [List.find?_cons]; rw [show decide (e.ep = n) = true by simpa using heq]
  · obtain ⟨a,b,c,d,f⟩:=above_all (n:=n) (es:=e::es) fun x hx=>by
     rcases List.mem_cons.1 hx with rfl | hx
     · exact hgt
     · have:=hh x hx; omega
    rw [a,b,c,d,f]
    refine ⟨rfl,.inr ⟨?_,rfl,rfl⟩,rfl⟩
    simp [isAt,f]; omega

theorem kGet_eq {es:List En} (h:Rises es) (n:Int):kGet es n = rGet es n:=by
 obtain ⟨h1,h2,_⟩:=parts_of n h
 unfold kGet rGet
 rcases h2 with ⟨j1,x,j2,j3,j4⟩ | ⟨j1,_,j3⟩
 · rw [if_pos j1,j4,h1]
   dsimp only
   congr 1
   rw [List.getD_eq_getElem?_getD]
   generalize below es n = A at j3 h1 ⊢
   generalize above es n = B at j3
   subst j3
   simp
 · rw [if_neg (by simp [j1]),j3]

/-- With one more. -/
def ins (es:List En) (e:En):List En:=below es e.ep ++ e::above es e.ep
def rPut (es:List En) (e:En):List En × En × Bool :=
 if (ins es e).length ≤ 4 then (ins es e,En.zero,false) else ((ins es e).drop 1,(ins es e).getD 0 En.zero,true)

theorem kPut_eq {es:List En} (h:Rises es) (h4:es.length ≤ 4) (e:En):kPut es e = rPut es e:=by
 obtain ⟨h1,h2,h3⟩:=parts_of e.ep h
 unfold kPut rPut
 rcases h2 with ⟨j1,x,j2,j3,j4⟩ | ⟨j1,j2,_⟩
 · have hl:(ins es e).length = es.length:=by
    conv=>rhs; rw [j3]
    simp [ins]
   rw [if_pos j1,if_pos (by omega)]
   congr 1
   rw [h1]
   unfold ins
   generalize below es e.ep = A at j3 h1 h3 ⊢
   generalize above es e.ep = B at j3 h3 ⊢
   subst j3
   rw [List.set_append_right _ _ (Nat.le_refl _)]
   simp
 · have hl:(ins es e).length = es.length + 1:=by
    conv=>rhs; rw [j2]
    simp [ins]; omega
   have e1:es.take (lowOf e.ep es) ++ e::es.drop (lowOf e.ep es) = ins es e:=by
    rw [h1]
    have t1:es.take (below es e.ep).length = below es e.ep:=by
     conv=>lhs; arg 2; rw [j2]
     rw [List.take_append_of_le_length (Nat.le_refl _),List.take_length]
    have t2:es.drop (below es e.ep).length = above es e.ep:=by
     conv=>lhs; arg 2; rw [j2]
     rw [List.drop_append_of_le_length (Nat.le_refl _),List.drop_length,List.nil_append]
    rw [t1,t2]; rfl
   rw [if_neg (by simp [j1]),e1,hl]

theorem mem_below {es:List En} {n:Int} {x:En}:x ∈ below es n ↔ x ∈ es ∧ x.ep < n:=by simp [below]
theorem mem_above {es:List En} {n:Int} {x:En}:x ∈ above es n ↔ x ∈ es ∧ n < x.ep:=by simp [above]
theorem mem_ins {es:List En} {e x:En}:x ∈ ins es e ↔ x = e ∨ (x ∈ es ∧ x.ep ≠ e.ep):=by
 simp only [ins,List.mem_append,List.mem_cons,mem_below,mem_above]
 constructor
 · rintro (⟨h,h1⟩ | rfl | ⟨h,h1⟩)
   · exact .inr ⟨h,by omega⟩
   · exact .inl rfl
   · exact .inr ⟨h,by omega⟩
 · rintro (rfl | ⟨h,h1⟩)
   · exact .inr (.inl rfl)
   · rcases Int.lt_or_gt_of_ne h1 with h2 | h2
     · exact .inl ⟨h,h2⟩
     · exact .inr (.inr ⟨h,h2⟩)
theorem ins_rises {es:List En} (h:Rises es) (e:En):Rises (ins es e):=by
 unfold ins Rises
 rw [List.pairwise_append]
 refine ⟨List.Pairwise.filter _ h,?_,fun x hx y hy=>?_⟩
 · rw [List.pairwise_cons]
   exact ⟨fun x hx=>(mem_above.1 hx).2,List.Pairwise.filter _ h⟩
 · have h1:=(mem_below.1 hx).2
   rcases List.mem_cons.1 hy with rfl | hy
   · exact h1
   · have:=(mem_above.1 hy).2; omega
theorem without_rises {es:List En} (h:Rises es) (n:Int):Rises (without es n):=List.Pairwise.filter _ h
theorem rPut_rises {es:List En} (h:Rises es) (e:En):Rises (rPut es e).1:=by
 unfold rPut; split
 · exact ins_rises h e
 · exact List.Pairwise.drop (ins_rises h e)
theorem ins_length {es:List En} (h:Rises es) (e:En):(ins es e).length ≤ es.length + 1 ∧ es.length ≤ (ins es e).length:=by
 obtain ⟨h1,h2,h3⟩:=parts_of e.ep h
 rcases h2 with ⟨j1,x,j2,j3,j4⟩ | ⟨j1,j2,_⟩
 · have:(ins es e).length = es.length:=by
    conv=>rhs; rw [j3]
    simp [ins]
   omega
 · have:(ins es e).length = es.length + 1:=by
    conv=>rhs; rw [j2]
    simp [ins]; omega
   omega
theorem rPut_length {es:List En} (h:Rises es) (h4:es.length ≤ 4) (e:En):(rPut es e).1.length ≤ 4:=by
 have:=ins_length h e
 unfold rPut; split
 · assumption
 · simp; omega
theorem kPut_rises {es:List En} (h:Rises es) (h4:es.length ≤ 4) (e:En):Rises (kPut es e).1:=by rw [kPut_eq h h4]; exact rPut_rises h e
theorem kPut_length {es:List En} (h:Rises es) (h4:es.length ≤ 4) (e:En):(kPut es e).1.length ≤ 4:=by rw [kPut_eq h h4]; exact rPut_length h h4 e
end Go.Proofs.Ytpcfmafokkffgaa
namespace Go.Proofs.Ytpcfmafokkffgaa
open Go.RowKit

def En.cells (e:En):List Value:=[.int .i64 e.ep,.int .i64 e.key,.int .u64 e.nx,.int .u64 e.bt]

/-- So many entries lie there. -/
def EnAt (w:World) (a:Option Addr) (es:List En):Prop :=
 ∀ (i:Nat) (e:En),es[i]? = some e → ∃ g o,a = some ⟨g,o,none⟩ ∧ ∀ (j:Nat) (v:Value),e.cells[j]? = some v → w.cell? ⟨g,o + i * 4 + j,none⟩ = some v
theorem EnAt.later {w w':World} {a:Option Addr} {es:List En} (h:EnAt w a es) (hb:Below w.heap.size w w'):EnAt w' a es:=fun i e hi=>by
 obtain ⟨g,o,ha,hc⟩:=h i e hi
 exact ⟨g,o,ha,fun j v hj=>(hb.cell (World.block_lt_of_cell? w _ (hc j v hj))).trans (hc j v hj)⟩
theorem EnAt.nil {w:World} {a:Option Addr}:EnAt w a []:=fun i e hi=>by simp at hi

def cmpE (a n:Int):Int:=if a < n then -1 else if n < a then 1 else 0

set_option maxHeartbeats 1000000 in
theorem cmp_calls (a k x y n:Int) (w:World) :
 Calls Try.prog 114 #[.agg #[.int .i64 a,.int .i64 k,.int .u64 x,.int .u64 y],.int .i64 n] w fun e w'=>e = .returned (.int .i64 (cmpE a n)) ∧ Below w.heap.size w w':=by
 go_enter Try.func114,Try.ntmps114
 by_cases h1:a < n
 · have d1:decide (a < n) = true:=by simpa using h1
   have e:cmpE a n = -1:=by unfold cmpE; rw [if_pos h1]
   rw [e]
   clear e h1
   go_wp2_with fail
   go_ret
   exact ⟨rfl,(Below.refl _ _).alloc (Nat.le_refl _) _⟩
 · have d1:decide (a < n) = false:=by simpa using h1
   by_cases h2:n < a
   · have d2:decide (n < a) = true:=by simpa using h2
     have e:cmpE a n = 1:=by unfold cmpE; rw [if_neg h1,if_pos h2]
     rw [e]
     clear e h1 h2
     go_wp2_with fail
     go_ret
     exact ⟨rfl,(Below.refl _ _).alloc (Nat.le_refl _) _⟩
   · have d2:decide (n < a) = false:=by simpa using h2
     have e:cmpE a n = 0:=by unfold cmpE; rw [if_neg h1,if_neg h2]
     rw [e]
     clear e h1 h2
     go_wp2_with fail
     go_ret
     exact ⟨rfl,(Below.refl _ _).alloc (Nat.le_refl _) _⟩

theorem lowOf_eq {n:Int}:∀ {es:List En} {p:Nat},p ≤ es.length → (∀ k e,k < p → es[k]? = some e → e.ep < n) → (∀ e,es[p]? = some e → ¬ e.ep < n) → lowOf n es = p
 | [],p,hp,_,_=>by simp at hp; simp [lowOf,hp]
 | e::es,0,_,_,h2=>by simp only [lowOf]; rw [if_neg (h2 e rfl)]
 | e::es,p + 1,hp,h1,h2=>by
  simp only [lowOf]
  rw [if_pos (h1 0 e (by omega) rfl),lowOf_eq (p:=p) (by simpa using hp) (fun k e' hk he=>h1 (k + 1) e' (by omega) (by simpa using he)) (fun e' he=>h2 e' (by simpa using he))]
theorem Rises.lt {es:List En} (h:Rises es) {i j:Nat} {x y:En} (hi:es[i]? = some x) (hj:es[j]? = some y) (hij:i < j):x.ep < y.ep:=by
 obtain ⟨h1,rfl⟩:=List.getElem?_eq_some_iff.1 hi
 obtain ⟨h2,rfl⟩:=List.getElem?_eq_some_iff.1 hj
 exact (List.pairwise_iff_getElem.1 h) i j h1 h2 hij

set_option maxRecDepth 100000 in
set_option maxHeartbeats 8000000 in
theorem search_calls {es:List En} {ad:Option Addr} {len cap:Nat} {w:World} (n:Int) (hr:Rises es) (h:EnAt w ad es) (hl:len = es.length) (hm:len ≤ 1000) :
 Calls Try.prog 113 #[.slice ad len cap,.int .i64 n,.func (.func 114) #[] #[]] w fun e w'=>e = .returned (.tuple #[.int .i64 (lowOf n es),.bool (isAt es n)]) ∧ Below w.heap.size w w':=by
 have HR:=hid hr
 have H:=hid h
 have HL:=hid hl
 clear hr h hl
 go_enter Try.func113,Try.ntmps113
 go_wp2_with fail
 go_loopw [9,10] (fun i j wr=>∃ p q:Nat,p ≤ q ∧ q ≤ len ∧ i = .int .i64 p ∧ j = .int .i64 q ∧ Below w.heap.size w wr ∧ Hid (∀ k e,k < p → es[k]? = some e → e.ep < n) ∧ Hid (∀ k e,q ≤ k → es[k]? = some e → n ≤ e.ep)) (fun i j _=>(intOf j - intOf i).toNat)
 case atStart=>exact ⟨0,len,Nat.zero_le _,Nat.le_refl _,rfl,rfl,Below.refl _ _,hid fun k e hk=>by omega,hid fun k e hk he=>by
  have:=(List.getElem?_eq_some_iff.1 he).1
  rw [← HL.out] at this
  omega⟩
 case round =>
  obtain ⟨p,q,hpq,hq,rfl,rfl,hb,h1,h2⟩:=hrel
  obtain ⟨wo,hwo⟩:∃ wo:World,wo = wr:=⟨_,rfl⟩
  rw [← hwo] at hb ⊢
  clear hwo wr
  by_cases hlt:p < q
  · have hd1:decide ((p:Int) < (q:Int)) = true:=by simp; omega
    have hd1':decide (p < q) = true:=by simp; omega
    obtain ⟨m,hme,hm1,hm2⟩:∃ m:Nat,((p:Int) + (q:Int)) / 2 = (m:Int) ∧ p ≤ m ∧ m < q:=⟨(p + q) / 2,by omega,by omega,by omega⟩
    have hml:m < es.length:=by rw [← HL.out]; omega
    obtain ⟨⟨a,k,x,y⟩,he⟩:∃ e,es[m]? = some e:=⟨es[m],List.getElem?_eq_getElem hml⟩
    obtain ⟨g,o,rfl,hc⟩:=(H.out.later hb) m _ he
    have d0:=hc 0 _ rfl
    have d1:=hc 1 _ rfl
    have d2:=hc 2 _ rfl
    have d3:=hc 3 _ rfl
    rw [Nat.add_zero] at d0
    have He:=hid he
    have zm0:(0:Int) ≤ (m:Int):=by omega
    have zm1:(m:Int) < (len:Int):=by omega
    have zm2:m < len:=by omega
    clear hc he hml
    go_wp2_with fail
    refine (cmp_calls a k x y n wo).mono ?_
    by_cases ha:a < n
    · rw [show cmpE a n = -1 by unfold cmpE; rw [if_pos ha]]
      rintro e w2 ⟨rfl,hb2⟩
      have HB:=hid (hb.trans (hb2.mono hb.size))
      have H1:Hid (∀ k e,k < m + 1 → es[k]? = some e → e.ep < n):=hid fun k e hk he=>by
       by_cases hkm:k = m
       · subst hkm; rw [He.out] at he; cases he; exact ha
       · have:=HR.out.lt he He.out (by omega)
         exact Int.lt_trans this ha
      clear hb hb2 d0 d1 d2 d3 h1 ha
      go_wp2_with fail
      go_roundw
      case rel=>exact ⟨m + 1,q,by omega,by omega,by go_num,rfl,HB.out,H1,h2⟩
      case measure=>simp [intOf]; omega
    · have H2:Hid (∀ k e,m ≤ k → es[k]? = some e → n ≤ e.ep):=hid fun k e hk he=>by
       by_cases hkm:k = m
       · subst hkm; rw [He.out] at he; cases he; exact Int.not_lt.1 ha
       · have:=HR.out.lt He.out he (by omega)
         have h2:=Int.not_lt.1 ha
         exact Int.le_of_lt (Int.lt_of_le_of_lt h2 this)
      have hc:cmpE a n = 1 ∨ cmpE a n = 0:=by
       unfold cmpE
       rw [if_neg ha]
       by_cases h:n < a
       · rw [if_pos h]; exact .inl rfl
       · rw [if_neg h]; exact .inr rfl
      clear h2 ha
      rcases hc with hc | hc
      all_goals
       rw [hc]
       rintro e w2 ⟨rfl,hb2⟩
       have HB:=hid (hb.trans (hb2.mono hb.size))
       clear hb hb2 d0 d1 d2 d3 hc
       go_wp2_with fail
       go_roundw
       case rel=>exact ⟨p,m,by omega,by omega,rfl,by go_num,HB.out,h1,H2⟩
       case measure=>simp [intOf]; omega
  · obtain rfl:p = q:=by omega
    have hd1:decide ((p:Int) < (p:Int)) = false:=by simp
    have EL:Hid (lowOf n es = p):=hid (lowOf_eq (by rw [← HL.out]; exact hq) h1.out fun e he=>Int.not_lt.2 (h2.out p e (Nat.le_refl _) he))
    clear h1 h2 hlt
    by_cases hpl:p < len
    · have hd2:decide ((p:Int) < (len:Int)) = true:=by simp; omega
      have hml:p < es.length:=by rw [← HL.out]; omega
      obtain ⟨⟨a,k,x,y⟩,he⟩:∃ e,es[p]? = some e:=⟨es[p],List.getElem?_eq_getElem hml⟩
      obtain ⟨g,o,rfl,hc⟩:=(H.out.later hb) p _ he
      have d0:=hc 0 _ rfl
      have d1:=hc 1 _ rfl
      have d2:=hc 2 _ rfl
      have d3:=hc 3 _ rfl
      rw [Nat.add_zero] at d0
      have He:=hid he
      have zm0:(0:Int) ≤ (p:Int):=by omega
      clear hc he hml
      go_wp2_with fail
      refine (cmp_calls a k x y n wo).mono ?_
      by_cases ha:a = n
      · have hc:cmpE a n = 0:=by unfold cmpE; rw [if_neg (by omega),if_neg (by omega)]
        have IS:Hid (isAt es n = true):=hid (by unfold isAt; rw [EL.out,He.out]; exact decide_eq_true (by simp [ha]))
        rw [hc]
        rintro e w2 ⟨rfl,hb2⟩
        clear d0 d1 d2 d3 hc ha
        go_wp2_with fail
        go_ret2
        exact ⟨by rw [EL.out,IS.out]; rfl,hb.trans (hb2.mono hb.size)⟩
      · have hc:cmpE a n = 1 ∨ cmpE a n = -1:=by
         unfold cmpE
         by_cases h:a < n
         · rw [if_pos h]; exact .inr rfl
         · rw [if_neg h,if_pos (by omega)]; exact .inl rfl
        have IS:Hid (isAt es n = false):=hid (by unfold isAt; rw [EL.out,He.out]; exact decide_eq_false (by simp [ha]))
        clear ha
        rcases hc with hc | hc
        all_goals
         rw [hc]
         rintro e w2 ⟨rfl,hb2⟩
         clear d0 d1 d2 d3 hc
         go_wp2_with fail
         go_ret2
         exact ⟨by rw [EL.out,IS.out]; rfl,hb.trans (hb2.mono hb.size)⟩
    · have hd2:decide ((p:Int) < (len:Int)) = false:=by simp; omega
      have hd2':decide (p < len) = false:=by simp; omega
      have IS:Hid (isAt es n = false):=hid (by unfold isAt; rw [EL.out,List.getElem?_eq_none (by rw [← HL.out]; omega)]; rfl)
      clear hpl
      go_wp2_with fail
      go_ret2
      exact ⟨by rw [EL.out,IS.out]; rfl,hb⟩

set_option maxHeartbeats 2000000 in
theorem place_calls {es:List En} {ad:Option Addr} {len cap:Nat} {w:World} (n:Int) (hr:Rises es) (h:EnAt w ad es) (hl:len = es.length) (hm:len ≤ 1000) :
 Calls Try.prog 110 #[.agg #[.slice ad len cap],.int .i64 n] w fun e w'=>e = .returned (.tuple #[.int .i64 (lowOf n es),.bool (isAt es n)]) ∧ Below w.heap.size w w':=by
 have H:=hid h
 have HR:=hid hr
 have HL:=hid hl
 clear h hr hl
 go_enter Try.func110,Try.ntmps110
 go_wp2_with fail
 refine (search_calls n HR.out (H.out.later ((Below.refl _ _).alloc (Nat.le_refl _) _)) HL.out hm).mono ?_
 rintro e w1 ⟨rfl,hb⟩
 go_wp2_with fail
 go_ret2
 exact ⟨rfl,((Below.refl _ _).alloc (Nat.le_refl _) _).trans (hb.mono (by simp))⟩
end Go.Proofs.Ytpcfmafokkffgaa
namespace Go.Proofs.Ytpcfmafokkffgaa
open Go.RowKit

/-- A cache, as a value. -/
structure CaAt (w:World) (v:Value) (es:List En):Prop where
 ex:∃ ad cap,v = .slice ad es.length cap ∧ EnAt w ad es ∧ (ad = none → cap = 0 ∧ es = [])
theorem CaAt.later {w w':World} {v:Value} {es:List En} (h:CaAt w v es) (hb:Below w.heap.size w w'):CaAt w' v es:=by
 obtain ⟨ad,cap,rfl,h1,h2⟩:=h.ex
 exact ⟨ad,cap,rfl,h1.later hb,h2⟩
theorem CaAt.nil {w:World}:CaAt w (.slice none 0 0) []:=⟨none,0,rfl,EnAt.nil,fun _=>⟨rfl,rfl⟩⟩

def enV (e:En):Value:=.agg #[.int .i64 e.ep,.int .i64 e.key,.int .u64 e.nx,.int .u64 e.bt]

theorem isAt_some {es:List En} {n:Int} (h:isAt es n = true):∃ e,es[lowOf n es]? = some e ∧ e.ep = n:=by
 have:=of_decide_eq_true h
 cases hq:es[lowOf n es]? with
 | none=>rw [hq] at this; cases this
 | some e=>rw [hq] at this; exact ⟨e,rfl,by simpa using this⟩

set_option maxRecDepth 100000 in
set_option maxHeartbeats 4000000 in
theorem get16_calls {es:List En} {v:Value} {w:World} (n:Int) (hr:Rises es) (h:CaAt w v es) (hm:es.length ≤ 1000) :
 Calls Try.prog 89 #[.agg #[v],.int .i64 n] w fun e w'=>e = .returned (.tuple #[enV (kGet es n).1,.bool (kGet es n).2]) ∧ Below w.heap.size w w':=by
 obtain ⟨ad,cap,rfl,hat,_⟩:=h.ex
 have HE:=hid hat
 have HR:=hid hr
 clear hat hr h
 go_enter Try.func89,Try.ntmps89
 go_wp2_with fail
 have h0:=((Hd.refl w).box (.cells #[.slice ad es.length cap] 144 (0,0))).box (.cells #[.int .i64 0,.int .i64 0,.int .u64 0,.int .u64 0] 182 (0,0))
 rw [show (w.alloc (.cells #[.slice ad es.length cap] 144 (0,0))).heap.size = w.heap.size + 1 from by simp] at h0
 have H0:=hid h0
 clear h0
 refine (place_calls n HR.out (HE.out.later H0.out.below) rfl hm).mono ?_
 rintro e w1 ⟨rfl,hb⟩
 have H:=hid (H0.out.still hb)
 have HE1:=hid (HE.out.later H.out.below)
 clear hb H0
 have hk:=H.out.blk
 obtain ⟨r0,r1,r2,r3⟩:=cells4 hk
 have rf:=frozen_of_heap hk
 have rl:=(Array.getElem?_eq_some_iff.1 hk).1
 have hc:=H.out.drop.blk
 have c0:=(cell_of_heap hc 0).trans (show _ = some (.slice ad es.length cap) from rfl)
 clear hk hc
 by_cases his:isAt es n = true
 · obtain ⟨⟨a,k,x,y⟩,he,hep⟩:=isAt_some his
   have Hep:=hid hep
   clear hep
   obtain ⟨g,o,rfl,hcl⟩:=HE1.out _ _ he
   have d0:=hcl 0 _ rfl
   have d1:=hcl 1 _ rfl
   have d2:=hcl 2 _ rfl
   have d3:=hcl 3 _ rfl
   rw [Nat.add_zero] at d0
   have zl:lowOf n es < es.length:=(List.getElem?_eq_some_iff.1 he).1
   have EK:Hid (kGet es n = (⟨a,k,x,y⟩,true)):=hid (by unfold kGet; rw [if_pos his,List.getD_eq_getElem?_getD,he]; rfl)
   rw [his]
   generalize lowOf n es = q at *
   have zq0:(0:Int) ≤ (q:Int):=by omega
   have zq1:(q:Int) < (es.length:Int):=by omega
   clear hcl he
   go_wp2_with fail
   rw [EK.out]
   refine bodyPost_ret (v:=.tuple #[.agg #[.int .i64 a,.int .i64 k,.int .u64 x,.int .u64 y],.bool true]) (by simp [results,Try.results89,go_sem,r0,r1,r2,r3]) rfl ⟨rfl,?_⟩
   exact ((((H.out.set 0 _).set 1 _).set 2 _).set 3 _).below
 · have hif:isAt es n = false:=by simpa using his
   have EK:Hid (kGet es n = (En.zero,false)):=hid (by unfold kGet; rw [if_neg his])
   rw [hif]
   clear his
   go_wp2_with fail
   rw [EK.out]
   refine bodyPost_ret (v:=.tuple #[.agg #[.int .i64 0,.int .i64 0,.int .u64 0,.int .u64 0],.bool false]) (by simp [results,Try.results89,go_sem,r0,r1,r2,r3]) rfl ⟨rfl,?_⟩
   exact ((((H.out.set 0 _).set 1 _).set 2 _).set 3 _).below
end Go.Proofs.Ytpcfmafokkffgaa
namespace Go.Proofs.Ytpcfmafokkffgaa
open Go.RowKit

def ensC (es:List En):List Value:=es.flatMap En.cells
theorem ensC_length (es:List En):(ensC es).length = es.length * 4:=by
 induction es with
 | nil=>rfl
 | cons e es ih=>simp only [ensC,List.flatMap_cons,List.length_append,List.length_cons] at *; rw [ih]; simp [En.cells]; omega
theorem ensC_append (es fs:List En):ensC (es ++ fs) = ensC es ++ ensC fs:=List.flatMap_append
theorem ensC_get {es:List En} {i:Nat} {e:En} (h:es[i]? = some e) {j:Nat} {v:Value} (hj:e.cells[j]? = some v):(ensC es)[i * 4 + j]? = some v:=by
 have hlt:j < 4:=by have:=(List.getElem?_eq_some_iff.1 hj).1; simpa [En.cells] using this
 have hi:=(List.getElem?_eq_some_iff.1 h).1
 have hs:es = es.take i ++ e::es.drop (i + 1):=by
  rw [← (List.getElem?_eq_some_iff.1 h).2,List.getElem_cons_drop,List.take_append_drop]
 rw [hs,ensC_append,List.getElem?_append_right (by rw [ensC_length,List.length_take]; omega),ensC_length,List.length_take,Nat.min_eq_left (by omega),Nat.add_sub_cancel_left]
 show ((e.cells ++ ensC (es.drop (i + 1)))[j]?) = some v
 rw [List.getElem?_append_left (by simpa [En.cells] using hlt)]
 exact hj
theorem ensC_at:∀ {es:List En} {j:Nat} {v:Value},(ensC es)[j]? = some v → ∃ i e r,es[i]? = some e ∧ e.cells[r]? = some v ∧ j = i * 4 + r
 | [],j,v,h=>by simp [ensC] at h
 | e::es,j,v,h=>by
  have h':(e.cells ++ ensC es)[j]? = some v:=h
  by_cases hj:j < 4
  · rw [List.getElem?_append_left (by simpa [En.cells] using hj)] at h'
    exact ⟨0,e,j,rfl,h',by omega⟩
  · rw [List.getElem?_append_right (by simp [En.cells]; omega)] at h'
    obtain ⟨i,f,r,h1,h2,h3⟩:=ensC_at h'
    have:e.cells.length = 4:=rfl
    exact ⟨i + 1,f,r,by simpa using h1,h2,by omega⟩
theorem ensC_one {es:List En}:∀ u ∈ ensC es,u.oneCell' = true:=fun u hu=>by
 obtain ⟨e,_,he⟩:=List.mem_flatMap.1 hu
 simp only [En.cells,List.mem_cons,List.not_mem_nil,or_false] at he
 rcases he with rfl | rfl | rfl | rfl <;> rfl

theorem info_E:∃ i,Try.prog.info? 182 = some i ∧ i.zero = some (enV En.zero) ∧ i.size = 4 ∧ i.bytes = 32:=info_parts (by kernel_rfl)

section
variable {W w:World} {Rs:List Res}
theorem Hd.row_newS {E size:Nat} (h:Hd W w Rs):Hd W (w.alloc (.cells #[] E (0,0))) (RowR E size (.slice (some ⟨w.heap.size,0,none⟩) 0 0) 0 []::Rs):=by
 refine h.add ((Below.refl _ _).alloc (Nat.le_refl _) _) (fun j=>if j = w.heap.size then some (.cells #[] E (0,0)) else none) ⟨by simp,.inr ⟨w.heap.size,0,#[],rfl,Nat.le_refl _,Nat.zero_le _,by simp,by simp,rfl⟩⟩ (fun k o hk=>?_) (fun k hk=>?_)
 · dsimp only at hk
   split at hk
   · rename_i e1; subst e1; rw [heap_at rfl]; exact hk
   · cases hk
 · split at hk
   · omega
   · exact absurd rfl hk

theorem Hd.row_nilS {E size:Nat} (h:Hd W w Rs):Hd W w (RowR E size (.slice none 0 0) 0 []::Rs) :=
 h.add (Below.refl _ _) (fun _=>none) ⟨by simp,.inl ⟨rfl,rfl,rfl⟩⟩ (fun k o hk=>by cases hk) (fun k hk=>absurd rfl hk)

/-- A row of entries is a cache. -/
theorem Hd.row_ca {n:Nat} {v:Value} {es:List En} (hn:n = es.length) (h:Hd W w (RowR 182 4 v n (ensC es)::Rs)):CaAt w v es:=by
 subst hn
 obtain ⟨hl,⟨rfl,h0⟩ | ⟨g,cap,cur,rfl,_,hc,h3,h4,h5,h6⟩⟩:=h.owns
 · have:es = []:=List.eq_nil_of_length_eq_zero h0
   subst this
   exact CaAt.nil
 · refine ⟨_,cap,rfl,fun i e hi=>⟨g,0,rfl,fun j v hj=>?_⟩,fun e=>(by cases e)⟩
   rw [cell_of_heap hc,Nat.zero_add,← Array.getElem?_toList]
   exact get_of_take h6 (ensC_get hi hj)

/-- APPEND SOME ENTRIES that lie somewhere. -/
theorem append_ens {ops:Array Oper} {rest:List Oper} {o:Oper} {a:Act} {Q:Exit → Act → World → Prop} {es fs:List En} {n c g p:Nat} {v:Value}
 (hgd:o.guard = none) (s x:Operand) (ho:o.op = .call { callee:=.builtin .append,args:=#[s,x],argTypes:=#[142,142] }) (hm:0 < fs.length) (h:Hd W w (RowR 182 4 v n (ensC es)::Rs)) (hc:EnAt w (some ⟨g,p,none⟩) fs) (hs:a.eval s = v) (hx:a.eval x = .slice (some ⟨g,p,none⟩) fs.length c) (hn:n + fs.length ≤ 1048580)
 (hK:∀ g' cap w',Hd W w' (RowR 182 4 (.slice (some ⟨g',0,none⟩) (n + fs.length) cap) (n + fs.length) (ensC (es ++ fs))::Rs) → wpList Try.prog ops Q rest (a.put o.dst (.slice (some ⟨g',0,none⟩) (n + fs.length) cap)) w') :
 wpList Try.prog ops Q (o::rest) a w:=by
 obtain ⟨i,hi,hz,hsz,hby⟩:=info_E
 refine wpList_append_lies _ hgd s x 142 ho 0 182 i (enV En.zero) 4 32 Try.underlying142 hi hz hsz hby rfl (by decide) v n _ hs h.owns ⟨g,p,none⟩ fs.length c (ensC fs) hx (ensC_length fs) (fun j u hj=>?_) ensC_one hm (by simp only [maxLen]; omega) (by omega) (Nat.zero_le _) _ rfl ?_
 · obtain ⟨i,e,r,h1,h2,rfl⟩:=ensC_at hj
   obtain ⟨g2,p2,ha,hcl⟩:=hc i e h1
   simp only [Option.some.injEq,Addr.mk.injEq,and_true] at ha
   obtain ⟨rfl,rfl⟩:=ha
   rw [show ((⟨g,p,none⟩:Addr).add (i * 4 + r)) = ⟨g,p + i * 4 + r,none⟩ by simp [Addr.add_lit,Nat.add_assoc]]
   exact hcl r u h2
 · intro g' cap w' ho' hg hgg _
   refine hK g' cap w' ?_
   rw [ensC_append]
   exact h.grown ho' hg hgg
end
end Go.Proofs.Ytpcfmafokkffgaa
namespace Go.Proofs.Ytpcfmafokkffgaa
open Go.RowKit

theorem eq_none (w:World) (c:Nat):(binOp .eql 142 (.slice none 0 c) (.slice none 0 0)).run Try.prog w = .ok (.bool true) w:=Lib.run_eql_slice_nil w _ _ _ _ _ _ _ Try.underlying142
theorem eq_some (w:World) (p:Addr) (n c:Nat):(binOp .eql 142 (.slice (some p) n c) (.slice none 0 0)).run Try.prog w = .ok (.bool false) w:=Lib.run_eql_slice_nil w _ _ _ _ _ _ _ Try.underlying142

set_option maxRecDepth 100000 in
set_option maxHeartbeats 4000000 in
theorem clone_calls {es:List En} {v:Value} {w:World} (h:CaAt w v es) (hm:es.length ≤ 1000) :
 Calls Try.prog 109 #[v] w fun e w'=>∃ v',e = .returned v' ∧ Hd w w' [RowR 182 4 v' es.length (ensC es)]:=by
 obtain ⟨ad,cap,rfl,hat,hnil⟩:=h.ex
 clear h
 cases ad with
 | none =>
  obtain ⟨rfl,rfl⟩:=hnil rfl
  have q:=fun w=>eq_none w 0
  go_enter Try.func109,Try.ntmps109
  go_wp2_with fail
  go_ret
  exact ⟨_,rfl,(Hd.refl w).row_nilS⟩
 | some p =>
  clear hnil
  have HE:=hid hat
  clear hat
  by_cases he:es = []
  · subst he
    go_enter Try.func109,Try.ntmps109
    have q:=fun w=>eq_some w p 0 cap
    obtain ⟨i,hi,hz,hsz,hby⟩:=info_E
    have Hi:=hid hi
    clear hi hz hsz hby
    go_wp2_with (at_builtin; refine append_zero Try.underlying142 Hi.out rfl (.tmp 5) (.tmp 6) rfl (by rfl) (Nat.le_refl _) (by rfl) ?_)
    go_ret
    exact ⟨_,rfl,(Hd.refl w).row_newS⟩
  · have hlp:0 < es.length:=List.length_pos_iff.2 he
    obtain ⟨g,o,sp⟩:=p
    have hsp:sp = none:=by
     obtain ⟨e,hh⟩:∃ e,es[0]? = some e:=⟨es[0],List.getElem?_eq_getElem hlp⟩
     obtain ⟨g2,o2,ha,_⟩:=HE.out 0 e hh
     cases ha
     rfl
    subst hsp
    clear he
    have q:=fun w=>eq_some w ⟨g,o,none⟩ es.length cap
    have H1:=hid ((Hd.refl w).row_newS (E:=182) (size:=4))
    have HE1:=hid (HE.out.later H1.out.below)
    go_enter Try.func109,Try.ntmps109
    go_wp2_with (at_builtin; refine append_ens (es:=[]) (fs:=es) rfl (.tmp 5) (.tmp 6) rfl hlp H1.out HE1.out (by rfl) (by rfl) (by omega) ?_; intro g3 c3 w3 h3; simp only [Nat.zero_add,List.nil_append] at h3 ⊢; have H3:=hid h3; clear h3)
    go_ret
    exact ⟨_,rfl,H3.out⟩
end Go.Proofs.Ytpcfmafokkffgaa
namespace Go.Proofs.Ytpcfmafokkffgaa
open Go.RowKit

section
variable {W w:World} {E g n cap size:Nat} {xs:List Value} {Rs:List Res}
theorem Hd.row_heapS (h:Hd W w (RowR E size (.slice (some ⟨g,0,none⟩) n cap) n xs::Rs)):∃ cur,w.heap[g]? = some (.cells cur E (0,0)) ∧ cur.size = cap * size ∧ n ≤ cap ∧ cap ≤ maxLen ∧ cur.toList.take (n * size) = xs:=by
 obtain ⟨hl,⟨h1,_⟩ | ⟨g2,c2,cur,hv,_,hc,h3,h4,h5,h6⟩⟩:=h.owns
 · cases h1
 simp only [Value.slice.injEq,Option.some.injEq,Addr.mk.injEq,and_true,true_and] at hv
 obtain ⟨rfl,rfl⟩:=hv
 exact ⟨cur,hc,h5,h3,h4,h6⟩

/-- The row written anew, in place. -/
theorem Hd.row_setRow {cur cur':Array Value} {m:Nat} {ys:List Value} (hg:w.heap[g]? = some (.cells cur E (0,0))) (hs:cur'.size = cur.size) (hm:m ≤ cap) (hy:cur'.toList.take (m * size) = ys) (hyl:ys.length = m * size) (h:Hd W w (RowR E size (.slice (some ⟨g,0,none⟩) n cap) n xs::Rs)):Hd W (w.setRow g cur') (RowR E size (.slice (some ⟨g,0,none⟩) m cap) m ys::Rs):=by
 obtain ⟨cur2,hb,c1,c2,c4,c3⟩:=h.row_heapS
 rw [hg] at hb
 cases hb
 obtain ⟨f,hR,hf,hlt,hshut⟩:=h.open
 obtain ⟨hl,⟨h1,_⟩ | ⟨g2,k2,cur2,hv,r1,r2,r3,r4,rfl⟩⟩:=hR
 · cases h1
 simp only [Value.slice.injEq,Option.some.injEq,Addr.mk.injEq,and_true,true_and] at hv
 obtain ⟨rfl,rfl⟩:=hv
 refine hshut _ _ (fun i=>if i = g then some (.cells cur' E (0,0)) else none) ⟨hyl,.inr ⟨g,cap,cur',rfl,hm,c4,by rw [hs,c1],hy,rfl⟩⟩ (fun i o hi=>?_) (fun i hi=>?_) rfl rfl rfl (by simp) (fun i hi hi2=>?_)
 · dsimp only at hi
   split at hi
   · rename_i e; subst e
     rw [setRow_heap w i cur cur' E (0,0) hg]; exact hi
   · cases hi
 · split at hi
   · rename_i e; subst e; exact .inl (by simp)
   · exact absurd rfl hi
 · refine setRow_other w g i cur' fun e=>?_
   subst e
   simp at hi2
end

/-- COPY, of entries. -/
theorem run_copy4 (w:World) (ty:TypeId) (g o dLen dCap:Nat) (a:Addr) (sLen sCap:Nat) (cur:Array Value) (cs:List Value)
 (hg:w.heap[g]? = some (.cells cur 182 (0,0))) (hn:cs.length = Nat.min sLen dLen * 4)
 (hsrc:∀ j v,cs[j]? = some v → w.cell? (a.add j) = some v) (hfit:o + cs.length ≤ cur.size) (h1:∀ v ∈ cs,v.oneCell' = true) :
 (Builtin.copy_ #[142,142] ty #[.slice (some ⟨g,o,none⟩) dLen dCap,.slice (some a) sLen sCap]).run Try.prog w =
  .ok (goInt (Nat.min sLen dLen)) (w.setRow g (cur.toList.take o ++ cs ++ cur.toList.drop (o + cs.length)).toArray):=by
 have hl:=run_loadCells_list (P:=Try.prog) w a cs hsrc
 have hst:=run_storeCells_at Try.prog g o 182 cs 0 cur w hg (by simpa using hfit) h1
 obtain ⟨i,hi,hz,hsz,hby⟩:=info_E
 rw [hn] at hl
 simp [Builtin.copy_,run_underlying Try.underlying142,Builtin.lenOf,Builtin.firstCells,sizeOf,typeInfo,hi,hsz,hl,hst]
end Go.Proofs.Ytpcfmafokkffgaa
namespace Go.Proofs.Ytpcfmafokkffgaa
open Go.RowKit Go.Lib

theorem ensC_take (es:List En) (i:Nat):(ensC es).take (i * 4) = ensC (es.take i):=by
 by_cases h:i ≤ es.length
 · rw [show ensC es = ensC (es.take i) ++ ensC (es.drop i) by rw [← ensC_append,List.take_append_drop]]
   exact List.take_left' (by rw [ensC_length,List.length_take]; omega)
 · rw [List.take_of_length_le (by rw [ensC_length]; omega),List.take_of_length_le (by omega)]
theorem ensC_drop (es:List En) (i:Nat):(ensC es).drop (i * 4) = ensC (es.drop i):=by
 by_cases h:i ≤ es.length
 · rw [show ensC es = ensC (es.take i) ++ ensC (es.drop i) by rw [← ensC_append,List.take_append_drop]]
   exact List.drop_left' (by rw [ensC_length,List.length_take]; omega)
 · rw [List.drop_eq_nil_of_le (by rw [ensC_length]; omega),List.drop_eq_nil_of_le (by omega)]; rfl

/-- What the two copies leave. -/
theorem ins_row {cur:List Value} {es:List En} {e:En} {i n:Nat} (hn:n = es.length) (hi:i ≤ n) (hc:(n + 1) * 4 ≤ cur.length) (hx:cur.take (n * 4) = ensC es) :
 ((cur.take ((i + 1) * 4) ++ ensC (es.drop i) ++ cur.drop ((n + 1) * 4)).take (i * 4) ++ e.cells ++ (cur.take ((i + 1) * 4) ++ ensC (es.drop i) ++ cur.drop ((n + 1) * 4)).drop ((i + 1) * 4)).take ((n + 1) * 4) = ensC (es.take i ++ e::es.drop i):=by
 have l1:(cur.take ((i + 1) * 4)).length = (i + 1) * 4:=by rw [List.length_take]; omega
 have l2:(ensC (es.drop i)).length = (n - i) * 4:=by rw [ensC_length,List.length_drop,hn]
 have l3:(ensC (es.take i)).length = i * 4:=by rw [ensC_length,List.length_take]; omega
 have e1:(cur.take ((i + 1) * 4) ++ ensC (es.drop i) ++ cur.drop ((n + 1) * 4)).take (i * 4) = ensC (es.take i):=by
  rw [List.append_assoc,List.take_append_of_le_length (by rw [l1]; omega),List.take_take,Nat.min_eq_left (by omega),← ensC_take,← hx,List.take_take,Nat.min_eq_left (by omega)]
 have e2:(cur.take ((i + 1) * 4) ++ ensC (es.drop i) ++ cur.drop ((n + 1) * 4)).drop ((i + 1) * 4) = ensC (es.drop i) ++ cur.drop ((n + 1) * 4):=by
  rw [List.append_assoc,List.drop_left' l1]
 rw [e1,e2,ensC_append]
 show (ensC (es.take i) ++ e.cells ++ (ensC (es.drop i) ++ cur.drop ((n + 1) * 4))).take ((n + 1) * 4) = ensC (es.take i) ++ (e.cells ++ ensC (es.drop i))
 rw [← List.append_assoc,List.append_assoc (ensC (es.take i)) e.cells]
 refine List.take_left' ?_
 have:e.cells.length = 4:=rfl
 rw [List.length_append,List.length_append,l2,l3,this]
 omega

section
variable {W w:World} {g cap n x:Nat} {es:List En} {e:En} {Rs:List Res}

theorem Hd.row_apart {E size:Nat} {xs:List Value} {o:Obj} (h:Hd W w (RowR E size (.slice (some ⟨g,0,none⟩) n cap) n xs::Blk x o::Rs)):x ≠ g:=by
 obtain ⟨f1,⟨_,hf⟩,_,_,f2,h2,_,hd2,_⟩:=h.lies
 have e2:f2 = fun j=>if j = x then some o else none:=h2
 rcases hf with ⟨h1,_⟩ | ⟨g2,c2,cur,hv,_,_,_,_,rfl⟩
 · cases h1
 simp only [Value.slice.injEq,Option.some.injEq,Addr.mk.injEq,and_true,true_and] at hv
 obtain ⟨rfl,rfl⟩:=hv
 intro e
 subst e
 exact hd2 x (by rw [e2]; simp) (.inr (by simp))
theorem over_apart {w:World} {a b:Addr} {lb cb:Nat} (hne:a.block ≠ b.block) {tA tB:TypeId} {kA kB:Nat} (hsa:w.shape? a.block = some (tA,kA)) (hsb:w.shape? b.block = some (tB,kB)) (hkB:kB ≠ 0) (hfa:w.frozen? a = false) (hfe:w.frozen? { block:=a.block,off:=kA } = false) :
 (callFunc 115 #[.slice (some a) 1 1,.slice (some b) lb cb]).run Try.prog w = .ok (.value (.bool false)) w:=by
 obtain ⟨i,hi,hz,hsz,hby⟩:=info_E
 rw [run_callFunc_extern (e:=Extern.SlicesOverlaps.overlaps #[142,142] #[4]) Try.func115 (by kernel_rfl) (by kernel_rfl) (by kernel_rfl) (by kernel_rfl),
  Lib.run_overlaps_apart w 142 4 182 Try.underlying142 4 (fun w=>by simp [sizeOf,typeInfo,hi,hsz]) a b 1 1 lb cb hne tA tB kA kB hsa hsb hkB hfa hfe]
 rfl

set_option maxRecDepth 100000 in
set_option maxHeartbeats 8000000 in
theorem ins_shift {i:Nat} (hn:n = es.length) (hi:i < n) (hroom:n + 1 ≤ cap) (hsm:n ≤ 1000) (h:Hd W w (RowR 182 4 (.slice (some ⟨g,0,none⟩) n cap) n (ensC es)::Blk x (.cells e.cells.toArray 182 (0,0))::Rs)) :
 Calls Try.prog 111 #[.slice (some ⟨g,0,none⟩) n cap,.int .i64 i,.slice (some ⟨x,0,none⟩) 1 1] w fun e' w'=>e' = .returned (.slice (some ⟨g,0,none⟩) (n + 1) cap) ∧
  Hd W w' (RowR 182 4 (.slice (some ⟨g,0,none⟩) (n + 1) cap) (n + 1) (ensC (es.take i ++ e::es.drop i))::Blk x (.cells e.cells.toArray 182 (0,0))::Rs):=by
 obtain ⟨cur,hg,hcs,hnc,hcm,hct⟩:=h.row_heapS
 have hb:=h.swap.blk
 have hxg:=h.row_apart
 have hcl:cur.toList.length = cap * 4:=by simpa using hcs
 have hov:∀ lb cb p,(callFunc 115 #[.slice (some ⟨x,0,none⟩) 1 1,.slice (some ⟨g,p,none⟩) lb cb]).run Try.prog w = .ok (.value (.bool false)) w:=fun lb cb p =>
  over_apart (tA:=182) (tB:=182) (kA:=4) (kB:=cur.size) hxg (by simp [World.shape?,hb,En.cells]) (by simp [World.shape?,hg]) (by omega) (frozen_of_heap hb _) (frozen_of_heap hb _)
 obtain ⟨cur1,hcur1⟩:∃ c,(cur.toList.take ((i + 1) * 4) ++ ensC (es.drop i) ++ cur.toList.drop ((i + 1) * 4 + (ensC (es.drop i)).length)).toArray = c:=⟨_,rfl⟩
 have ld:(ensC (es.drop i)).length = (n - i) * 4:=by rw [ensC_length,List.length_drop,hn]
 have hcp1:∀ ty p q dl dc sl sc,p = (i + 1) * 4 → q = i * 4 → dl = n - i → sl = n + 1 - i → (Builtin.copy_ #[142,142] ty #[.slice (some ⟨g,p,none⟩) dl dc,.slice (some ⟨g,q,none⟩) sl sc]).run Try.prog w.drew = .ok (goInt ((n - i:Nat):Int)) (w.drew.setRow g cur1):=fun ty p q dl dc sl sc e1 e2 e3 e4=>by
  subst e1; subst e2; subst e3; subst e4
  have:=run_copy4 w.drew ty g ((i + 1) * 4) (n - i) dc ⟨g,i * 4,none⟩ (n + 1 - i) sc cur (ensC (es.drop i)) hg (by rw [ld]; simp only [Nat.min_def]; split <;> omega)
   (fun j v hj=>by
    rw [show ((⟨g,i * 4,none⟩:Addr).add j) = ⟨g,i * 4 + j,none⟩ by simp [Addr.add_lit]]
    show w.drew.cell? _ = some v
    rw [cell_of_heap (w:=w.drew) hg,← Array.getElem?_toList]
    refine get_of_take hct ?_
    rwa [← ensC_drop,List.getElem?_drop] at hj) (by rw [ld]; omega) ensC_one
  rw [hcur1,show Nat.min (n + 1 - i) (n - i) = n - i by simp only [Nat.min_def]; split <;> omega] at this
  exact this
 have hs1:cur1.size = cur.size:=by
  rw [← hcur1]
  simp only [List.size_toArray,List.length_append,List.length_take,List.length_drop,ld,Array.length_toList]
  omega
 have hg1:(w.drew.setRow g cur1).heap[g]? = some (.cells cur1 182 (0,0)):=setRow_heap _ g cur _ _ (0,0) hg
 obtain ⟨cur2,hcur2⟩:∃ c,(cur1.toList.take (i * 4) ++ e.cells ++ cur1.toList.drop (i * 4 + e.cells.length)).toArray = c:=⟨_,rfl⟩
 have hcp2:∀ ty q dl dc sc,q = i * 4 → dl = n + 1 - i → (Builtin.copy_ #[142,142] ty #[.slice (some ⟨g,q,none⟩) dl dc,.slice (some ⟨x,0,none⟩) 1 sc]).run Try.prog (w.drew.setRow g cur1) = .ok (goInt 1) ((w.drew.setRow g cur1).setRow g cur2):=fun ty q dl dc sc e1 e2=>by
  subst e1; subst e2
  have:=run_copy4 (w.drew.setRow g cur1) ty g (i * 4) (n + 1 - i) dc ⟨x,0,none⟩ 1 sc cur1 e.cells hg1 (by rw [show Nat.min 1 (n + 1 - i) = 1 by simp only [Nat.min_def]; split <;> omega]; rfl)
   (fun j v hj=>by
    rw [show ((⟨x,0,none⟩:Addr).add j) = ⟨x,j,none⟩ by simp [Addr.add_lit]]
    have hx2:(w.drew.setRow g cur1).heap[x]? = some (.cells e.cells.toArray 182 (0,0)):=by rw [setRow_other _ g x _ hxg]; exact hb
    rw [cell_of_heap hx2,List.getElem?_toArray]
    exact hj) (by rw [hs1,hcs]; show i * 4 + 4 ≤ cap * 4; omega) (fun v hv=>ensC_one (es:=[e]) v (by simpa [ensC] using hv))
  rw [hcur2,show Nat.min 1 (n + 1 - i) = 1 by simp only [Nat.min_def]; split <;> omega] at this
  exact this
 have hs2:cur2.size = cur1.size:=by
  rw [← hcur2]
  have:e.cells.length = 4:=rfl
  simp only [List.size_toArray,List.length_append,List.length_take,List.length_drop,this,Array.length_toList,hs1,hcs]
  omega
 have hfin:=ins_row (e:=e) hn (Nat.le_of_lt hi) (by rw [hcl]; omega) hct
 have HF:Hid (Hd W ((w.drew.setRow g cur1).setRow g cur2) (RowR 182 4 (.slice (some ⟨g,0,none⟩) (n + 1) cap) (n + 1) (ensC (es.take i ++ e::es.drop i))::Blk x (.cells e.cells.toArray 182 (0,0))::Rs)):=hid (by
  have h1:=Hd.row_setRow (w:=w.drew) (m:=n + 1) (ys:=cur1.toList.take ((n + 1) * 4)) (cur':=cur1) hg hs1 hroom rfl (by rw [List.length_take,Array.length_toList,hs1,hcs]; omega) h.dr
  refine Hd.row_setRow (m:=n + 1) hg1 hs2 hroom ?_ ?_ h1
  · rw [← hfin,← hcur2,← hcur1]
    have l2:(i + 1) * 4 + (n - i) * 4 = (n + 1) * 4:=by omega
    simp only [ld,l2]
    rw [show i * 4 + e.cells.length = (i + 1) * 4 by show i * 4 + 4 = _; omega]
  · rw [ensC_length,List.length_append,List.length_cons,List.length_take,List.length_drop]; omega)
 clear hfin hs1 hs2 hg1 hcur1 hcur2 h hcs hct hcl hg hb ld hn
 have zi0:(0:Int) ≤ (i:Int):=by omega
 have hz2:¬ ((i:Int) = (n:Int)):=by omega
 have hz3:((i:Int) == (n:Int)) = false:=by simp; omega
 have hcm2:cap ≤ 9223372036854775807:=by unfold maxLen at hcm; exact hcm
 have mixed:Try.prog.follows .mixedOrders = true:=by kernel_rfl
 have hw1:IntKind.i64.wrap ((i:Int) + 1) = (i:Int) + 1:=by rw [IntKind.wrap_i64]; omega
 have hb1:(0:Int) ≤ (i:Int) + 1:=by omega
 have htn:((i:Int) + 1).toNat = i + 1:=by omega
 have hb2:¬ (cap = i + 1):=by omega
 have hb3:(i:Int) ≤ (n:Int) + 1:=by omega
 have hb4:¬ (cap = i):=by omega
 have hb5:(i:Int) + 1 ≤ (n:Int) + 1:=by omega
 go_enter Try.func111,Try.ntmps111
 go_wp2_with (simp only [hov])
 go_region_law_o (refine step_copy_runI rfl _ _ 142 142 rfl _ _ (by simp [Act.eval,Act.put]) (by simp [Act.eval,Act.put]) (hcp1 _ _ _ _ _ _ _ (by omega) (by omega) (by omega) (by omega)) ?_)
 go_wp2_with (refine wpList_copy_runI _ rfl _ _ 142 142 rfl _ _ rfl rfl (hcp2 _ _ _ _ _ (by omega) (by omega)) ?_)
 go_ret
 exact ⟨rfl,HF.out⟩

theorem en_blk (h:w.heap[x]? = some (.cells e.cells.toArray 182 (0,0))):EnAt w (some ⟨x,0,none⟩) [e]:=fun i f hi=>by
 match i,hi with
 | 0,hi =>
  simp only [List.getElem?_cons_zero,Option.some.injEq] at hi
  subst hi
  refine ⟨x,0,rfl,fun j v hj=>?_⟩
  rw [cell_of_heap h,List.getElem?_toArray]
  simpa using hj

set_option maxRecDepth 100000 in
set_option maxHeartbeats 8000000 in
theorem ins_end {v:Value} (hn:n = es.length) (hsm:n ≤ 1000) (h:Hd W w (RowR 182 4 v n (ensC es)::Blk x (.cells e.cells.toArray 182 (0,0))::Rs)) :
 Calls Try.prog 111 #[v,.int .i64 n,.slice (some ⟨x,0,none⟩) 1 1] w fun e' w'=>∃ g' cap',e' = .returned (.slice (some ⟨g',0,none⟩) (n + 1) cap') ∧
  Hd W w' (RowR 182 4 (.slice (some ⟨g',0,none⟩) (n + 1) cap') (n + 1) (ensC (es ++ [e]))::Blk x (.cells e.cells.toArray 182 (0,0))::Rs):=by
 have HX:=hid (en_blk h.swap.blk)
 have H:=hid h
 obtain ⟨hl,⟨rfl,rfl⟩ | ⟨g,cap,cur,rfl,_,hc,h3,h4,h5,h6⟩⟩:=h.owns
 · clear hl h hn
   go_enter Try.func111,Try.ntmps111
   go_wp2_with (at_builtin; refine append_ens (es:=es) (fs:=[e]) rfl (.tmp 23) (.tmp 24) rfl (by simp) H.out HX.out (by rfl) (by rfl) (by simp) ?_; intro g3 c3 w3 h3; simp only [List.length_cons,List.length_nil,Nat.zero_add] at h3 ⊢; have H3:=hid h3; clear h3)
   go_ret
   exact ⟨_,_,rfl,H3.out⟩
 · have hcm:cap ≤ 9223372036854775807:=by unfold maxLen at h4; exact h4
   have zn:(0:Int) ≤ (n:Int):=by omega
   clear hl h hn hc h4 h5 h6
   go_enter Try.func111,Try.ntmps111
   go_wp2_with (at_builtin; refine append_ens (es:=es) (fs:=[e]) rfl (.tmp 23) (.tmp 24) rfl (by simp) H.out HX.out (by rfl) (by rfl) (by simp; omega) ?_; intro g3 c3 w3 h3; simp only [List.length_cons,List.length_nil,Nat.zero_add] at h3 ⊢; have H3:=hid h3; clear h3)
   all_goals
    go_ret
    exact ⟨_,_,rfl,H3.out⟩
end
end Go.Proofs.Ytpcfmafokkffgaa
namespace Go.Proofs.Ytpcfmafokkffgaa
open Go.RowKit Go.Lib

theorem grow_row {row A:List Value} {es:List En} {e:En} {i n:Nat} (hn:n = es.length) (hi:i ≤ n) (hA:A.length = i * 4) (hx:row.take (i * 4) = A) :
 ((row.take (i * 4) ++ e.cells ++ row.drop ((i + 1) * 4)).take ((i + 1) * 4) ++ ensC (es.drop i) ++ (row.take (i * 4) ++ e.cells ++ row.drop ((i + 1) * 4)).drop ((n + 1) * 4)).take ((n + 1) * 4) = A ++ (e.cells ++ ensC (es.drop i)):=by
 have l2:(ensC (es.drop i)).length = (n - i) * 4:=by rw [ensC_length,List.length_drop,hn]
 have l3:e.cells.length = 4:=rfl
 rw [hx]
 have e1:(A ++ e.cells ++ row.drop ((i + 1) * 4)).take ((i + 1) * 4) = A ++ e.cells:=List.take_left' (by rw [List.length_append,hA,l3]; omega)
 rw [e1,List.append_assoc A,List.take_left' (by rw [List.length_append,List.length_append,hA,l2,l3]; omega)]

section
variable {W w:World} {g cap n x:Nat} {es:List En} {e:En} {Rs:List Res}
theorem Hd.row_cells {E size:Nat} {cs:Array Value} (hs:cs.size = cap * size) (hn:n ≤ cap) (hm:cap ≤ maxLen) (h:Hd W w Rs):Hd W (w.alloc (.cells cs E (0,0))) (RowR E size (.slice (some ⟨w.heap.size,0,none⟩) n cap) n (cs.toList.take (n * size))::Rs):=by
 refine h.add ((Below.refl _ _).alloc (Nat.le_refl _) _) (fun j=>if j = w.heap.size then some (.cells cs E (0,0)) else none) ⟨by rw [List.length_take,Array.length_toList,hs]; exact Nat.min_eq_left (Nat.mul_le_mul_right _ hn),.inr ⟨w.heap.size,cap,cs,rfl,hn,hm,hs,rfl,rfl⟩⟩ (fun k o hk=>?_) (fun k hk=>?_)
 · dsimp only at hk
   split at hk
   · rename_i e1; subst e1; rw [heap_at rfl]; exact hk
   · cases hk
 · split at hk
   · omega
   · exact absurd rfl hk

set_option maxRecDepth 100000 in
set_option maxHeartbeats 8000000 in
theorem ins_grow {i:Nat} (hn:n = es.length) (hi:i < n) (hroom:cap < n + 1) (hsm:n ≤ 1000) (h:Hd W w (RowR 182 4 (.slice (some ⟨g,0,none⟩) n cap) n (ensC es)::Blk x (.cells e.cells.toArray 182 (0,0))::Rs)) :
 Calls Try.prog 111 #[.slice (some ⟨g,0,none⟩) n cap,.int .i64 i,.slice (some ⟨x,0,none⟩) 1 1] w fun e' w'=>∃ g' cap',e' = .returned (.slice (some ⟨g',0,none⟩) (n + 1) cap') ∧
  Hd W w' (RowR 182 4 (.slice (some ⟨g',0,none⟩) (n + 1) cap') (n + 1) (ensC (es.take i ++ e::es.drop i))::RowR 182 4 (.slice (some ⟨g,0,none⟩) n cap) n (ensC es)::Blk x (.cells e.cells.toArray 182 (0,0))::Rs):=by
 obtain ⟨cur,hg,hcs,hnc,hcm,hct⟩:=h.row_heapS
 have hb:=h.swap.blk
 have hgw:=(Array.getElem?_eq_some_iff.1 hg).1
 have hxw:=(Array.getElem?_eq_some_iff.1 hb).1
 obtain ⟨i0,hi0,hz0,hzs,hzb⟩:=info_E
 have lA:(ensC (es.take i)).length = i * 4:=by rw [ensC_length,List.length_take]; omega
 have ld:(ensC (es.drop i)).length = (n - i) * 4:=by rw [ensC_length,List.length_drop,hn]
 have hkk:(n:Int) + 1 - (i:Int) = ((n + 1 - i:Nat):Int):=by omega
 have hik:i + (n + 1 - i) = n + 1:=by omega
 have hold:(Builtin.firstCells i0.size i (.slice (some ⟨g,0,none⟩) i cap)).run Try.prog w.drew = .ok (ensC (es.take i)).toArray w.drew:=by
  rw [hzs]
  exact run_firstCells_some w.drew 4 i ⟨g,0,none⟩ i cap (ensC (es.take i)) lA (fun j v hj=>by
   rw [show ((⟨g,0,none⟩:Addr).add j) = ⟨g,j,none⟩ by simp [Addr.add_lit]]
   show w.drew.cell? _ = some v
   rw [cell_of_heap (w:=w.drew) hg,← Array.getElem?_toList]
   refine get_of_take hct ?_
   rw [← ensC_take,List.getElem?_take] at hj
   split at hj
   · exact hj
   · cases hj)
 have hrz:∀ ty,(Builtin.append_ #[142,3] ty #[.slice (some ⟨g,0,none⟩) i cap,.int .i64 ((n:Int) + 1 - (i:Int))]).run Try.prog w =
  .ok (.slice (some ⟨w.heap.size,0,none⟩) (n + 1) (grownCap w (n + 1) cap 182)) (w.drew.alloc (.cells ((ensC (es.take i)).toArray ++ Builtin.zeroCells (enV En.zero).cells (n + 1 - i) ++ Builtin.zeroCells (enV En.zero).cells (grownCap w (n + 1) cap 182 - (n + 1))) 182)):=fun ty=>by
  have h:=Lib.run_append_grow_zeros w 142 3 ty 182 i0 _ .i64 .i64 Try.underlying142 Try.underlying3 hi0 hz0 (some ⟨g,0,none⟩) i cap (ensC (es.take i)) hold (n + 1 - i) (by omega) (by omega) (by omega) (by omega) (by rw [hzb]; omega) (by rw [hzb,hik]; exact growslice_fits hroom (by omega))
  rw [hik] at h
  rw [hkk]
  exact h
 have hGn:n + 1 ≤ grownCap w (n + 1) cap 182:=grownCap_ge w _ _ _
 have hGm:=grownCap_le_maxLen w (n + 1) cap 182 (by unfold maxLen; omega)
 obtain ⟨G,hG⟩:∃ G,G = grownCap w (n + 1) cap 182:=⟨_,rfl⟩
 rw [← hG] at hrz hGn hGm
 obtain ⟨ROW,hROW⟩:∃ ROW:Array Value,ROW = (ensC (es.take i)).toArray ++ Builtin.zeroCells (enV En.zero).cells (n + 1 - i) ++ Builtin.zeroCells (enV En.zero).cells (G - (n + 1)):=⟨_,rfl⟩
 rw [← hROW] at hrz
 have hRs:ROW.size = G * 4:=by
  rw [hROW]
  simp [Builtin.zeroCells,Value.cells,enV,lA]
  omega
 have hRt:ROW.toList.take (i * 4) = ensC (es.take i):=by
  rw [hROW]
  simp only [Array.toList_append,List.append_assoc]
  exact List.take_left' lA
 have le4:e.cells.length = 4:=rfl
 have hRl:ROW.toList.length = G * 4:=by simpa using hRs
 obtain ⟨N,hN⟩:∃ N,w.heap.size = N:=⟨_,rfl⟩
 obtain ⟨ROW1,hROW1⟩:∃ c,(ROW.toList.take (i * 4) ++ e.cells ++ ROW.toList.drop (i * 4 + e.cells.length)).toArray = c:=⟨_,rfl⟩
 obtain ⟨ROW2,hROW2⟩:∃ c,(ROW1.toList.take ((i + 1) * 4) ++ ensC (es.drop i) ++ ROW1.toList.drop ((i + 1) * 4 + (ensC (es.drop i)).length)).toArray = c:=⟨_,rfl⟩
 have hs1:ROW1.size = ROW.size:=by
  rw [← hROW1]
  simp only [List.size_toArray,List.length_append,List.length_take,List.length_drop,le4,hRl,hRs]
  omega
 have hs2:ROW2.size = ROW1.size:=by
  rw [← hROW2]
  simp only [List.size_toArray,List.length_append,List.length_take,List.length_drop,ld,Array.length_toList,hs1,hRs]
  omega
 have hcpA:∀ (X:World),X.heap = (w.alloc (.cells ROW 182 (0,0))).heap → ∀ ty q dl dc sc,q = i * 4 → dl = n + 1 - i → (Builtin.copy_ #[142,142] ty #[.slice (some ⟨w.heap.size,q,none⟩) dl dc,.slice (some ⟨x,0,none⟩) 1 sc]).run Try.prog X = .ok (goInt 1) (X.setRow w.heap.size ROW1):=fun X hX ty q dl dc sc e1 e2=>by
  subst e1; subst e2
  have hgX:X.heap[w.heap.size]? = some (.cells ROW 182 (0,0)):=by rw [hX]; exact heap_at rfl
  have hbX:X.heap[x]? = some (.cells e.cells.toArray 182 (0,0)):=by rw [hX]; exact (((Below.refl w.heap.size w).alloc (Nat.le_refl _) _).block x hxw).trans hb
  have:=run_copy4 X ty w.heap.size (i * 4) (n + 1 - i) dc ⟨x,0,none⟩ 1 sc ROW e.cells hgX (by rw [show Nat.min 1 (n + 1 - i) = 1 by simp only [Nat.min_def]; split <;> omega]; rfl)
   (fun j v hj=>by
    rw [show ((⟨x,0,none⟩:Addr).add j) = ⟨x,j,none⟩ by simp [Addr.add_lit],cell_of_heap hbX,List.getElem?_toArray]
    exact hj) (by rw [hRs,le4]; omega) (fun v hv=>ensC_one (es:=[e]) v (by simpa [ensC] using hv))
  rw [hROW1,show Nat.min 1 (n + 1 - i) = 1 by simp only [Nat.min_def]; split <;> omega] at this
  exact this
 have hcpB:∀ (X:World),X.heap = ((w.alloc (.cells ROW 182 (0,0))).setRow w.heap.size ROW1).heap → ∀ ty p q dl dc sl sc,p = (i + 1) * 4 → q = i * 4 → dl = n - i → sl = n - i → (Builtin.copy_ #[142,142] ty #[.slice (some ⟨w.heap.size,p,none⟩) dl dc,.slice (some ⟨g,q,none⟩) sl sc]).run Try.prog X = .ok (goInt ((n - i:Nat):Int)) (X.setRow w.heap.size ROW2):=fun X hX ty p q dl dc sl sc e1 e2 e3 e4=>by
  subst e1; subst e2; subst e3; subst e4
  have hgX:X.heap[w.heap.size]? = some (.cells ROW1 182 (0,0)):=by rw [hX]; exact setRow_heap _ _ ROW _ _ (0,0) (heap_at rfl)
  have hgg:X.heap[g]? = some (.cells cur 182 (0,0)):=by
   rw [hX,setRow_other _ _ g _ (by omega)]
   exact (((Below.refl w.heap.size w).alloc (Nat.le_refl _) _).block g hgw).trans hg
  have:=run_copy4 X ty w.heap.size ((i + 1) * 4) (n - i) dc ⟨g,i * 4,none⟩ (n - i) sc ROW1 (ensC (es.drop i)) hgX (by rw [ld]; simp)
   (fun j v hj=>by
    rw [show ((⟨g,i * 4,none⟩:Addr).add j) = ⟨g,i * 4 + j,none⟩ by simp [Addr.add_lit],cell_of_heap hgg,← Array.getElem?_toList]
    refine get_of_take hct ?_
    rwa [← ensC_drop,List.getElem?_drop] at hj) (by rw [hs1,hRs,ld]; omega) ensC_one
  rw [hROW2] at this
  simpa using this
 have hfin:=grow_row (e:=e) (row:=ROW.toList) hn (Nat.le_of_lt hi) lA hRt
 have HF:Hid (Hd W ((((w.alloc (.cells ROW 182 (0,0))).drew.setRow w.heap.size ROW1).drew).setRow w.heap.size ROW2) (RowR 182 4 (.slice (some ⟨w.heap.size,0,none⟩) (n + 1) G) (n + 1) (ensC (es.take i ++ e::es.drop i))::RowR 182 4 (.slice (some ⟨g,0,none⟩) n cap) n (ensC es)::Blk x (.cells e.cells.toArray 182 (0,0))::Rs)):=hid (by
  have h0:=(h.row_cells (E:=182) hRs hGn hGm).dr
  have h1:=Hd.row_setRow (m:=n + 1) (cur':=ROW1) (ys:=ROW1.toList.take ((n + 1) * 4)) (show _ = some (.cells ROW 182 (0,0)) from heap_at (w:=w) rfl) hs1 hGn rfl (by rw [List.length_take,Array.length_toList,hs1,hRs]; omega) h0
  refine Hd.row_setRow (m:=n + 1) (cur:=ROW1) (cur':=ROW2) ?_ hs2 hGn ?_ ?_ h1.dr
  · exact setRow_heap (w.alloc (.cells ROW 182 (0,0))).drew _ ROW _ _ (0,0) (heap_at (w:=w) rfl)
  · rw [ensC_append]
    show _ = ensC (es.take i) ++ (e.cells ++ ensC (es.drop i))
    rw [← hfin,← hROW2,← hROW1]
    have l2:(i + 1) * 4 + (n - i) * 4 = (n + 1) * 4:=by omega
    have l4:i * 4 + 4 = (i + 1) * 4:=by omega
    simp only [ld,le4,l2,l4]
  · rw [ensC_length,List.length_append,List.length_cons,List.length_take,List.length_drop]; omega)
 have hG63:G ≤ 9223372036854775807:=by unfold maxLen at hGm; exact hGm
 have hcm2:cap ≤ 9223372036854775807:=by unfold maxLen at hcm; exact hcm
 have hGi:¬ (G = i):=by omega
 have hGim:¬ (G = i + 1):=by omega
 have hci:¬ (cap = i):=by omega
 have hz2:¬ ((i:Int) = (n:Int)):=by omega
 have hz3:(cap:Int) < (n:Int) + 1:=by omega
 have hw1:IntKind.i64.wrap ((i:Int) + 1) = (i:Int) + 1:=by rw [IntKind.wrap_i64]; omega
 have hb1:(0:Int) ≤ (i:Int) + 1:=by omega
 have hin:i ≤ n:=by omega
 have htn:((i:Int) + 1).toNat = i + 1:=by omega
 have hb3:(i:Int) ≤ (n:Int):=by omega
 have mixed:Try.prog.follows .mixedOrders = true:=by kernel_rfl
 clear hfin hs1 hs2 hROW1 hROW2 h hcs hct hg hb ld lA hn hkk hik hold hROW hG hRl hRt hRs le4 hN hgw hxw hi0 hz0 hzs hzb hcm hGm
 go_enter Try.func111,Try.ntmps111
 go_wp2_with (at_builtin; refine Lib.wpList_append_run _ rfl _ _ _ _ rfl _ _ rfl rfl _ _ (hrz _) ?_)
 rw [hcpA (w.alloc (.cells ROW 182 (0,0))).drew rfl _ _ _ _ _ rfl rfl]
 go_wp2_with fail
 go_region_law_o (refine step_copy_runI rfl _ _ 142 142 rfl (.slice (some ⟨w.heap.size,(i + 1) * 4,none⟩) (n - i) (G - (i + 1))) (.slice (some ⟨g,i * 4,none⟩) (n - i) (cap - i)) (by simp [Act.eval,Act.put]) (by simp [Act.eval,Act.put]) (hcpB (((w.alloc (.cells ROW 182 (0,0))).drew.setRow w.heap.size ROW1).drew) rfl _ _ _ _ _ _ _ rfl rfl rfl rfl) ?_)
 go_wp2_with fail
 go_ret
 exact ⟨_,_,rfl,HF.out⟩
end
end Go.Proofs.Ytpcfmafokkffgaa
namespace Go.Proofs.Ytpcfmafokkffgaa
open Go.RowKit

theorem insert_calls {W w:World} {n x i:Nat} {v:Value} {es:List En} {e:En} {Rs:List Res} (hn:n = es.length) (hi:i ≤ n) (hsm:n ≤ 1000) (h:Hd W w (RowR 182 4 v n (ensC es)::Blk x (.cells e.cells.toArray 182 (0,0))::Rs)) :
 Calls Try.prog 111 #[v,.int .i64 i,.slice (some ⟨x,0,none⟩) 1 1] w fun e' w'=>∃ g' cap',e' = .returned (.slice (some ⟨g',0,none⟩) (n + 1) cap') ∧
  Hd W w' (RowR 182 4 (.slice (some ⟨g',0,none⟩) (n + 1) cap') (n + 1) (ensC (es.take i ++ e::es.drop i))::Rs):=by
 by_cases hin:i = n
 · subst hin
   refine (ins_end hn hsm h).mono ?_
   rintro e' w' ⟨g',cap',rfl,hd⟩
   refine ⟨g',cap',rfl,?_⟩
   rw [hn,List.take_length,List.drop_length,← hn]
   exact hd.un2
 · obtain ⟨hl,⟨_,h0⟩ | ⟨g,cap,cur,rfl,_,hc,h3,h4,h5,h6⟩⟩:=h.owns
   · omega
   · by_cases hr:n + 1 ≤ cap
     · refine (ins_shift hn (by omega) hr hsm h).mono ?_
       rintro e' w' ⟨rfl,hd⟩
       exact ⟨g,cap,rfl,hd.un2⟩
     · refine (ins_grow hn (by omega) (by omega) hsm h).mono ?_
       rintro e' w' ⟨g',cap',rfl,hd⟩
       exact ⟨g',cap',rfl,hd.un2.un2⟩
end Go.Proofs.Ytpcfmafokkffgaa
namespace Go.Proofs.Ytpcfmafokkffgaa
open Go.RowKit Go.Lib

theorem EnAt.tail {w:World} {g o:Nat} {es:List En} (h:EnAt w (some ⟨g,o,none⟩) es):EnAt w (some ⟨g,o + 4,none⟩) (es.drop 1):=fun i e hi=>by
 obtain ⟨g2,o2,ha,hc⟩:=h (1 + i) e (by rwa [List.getElem?_drop] at hi)
 cases ha
 refine ⟨g,o + 4,rfl,fun j v hj=>?_⟩
 rw [show o + 4 + i * 4 + j = o + (1 + i) * 4 + j by omega]
 exact hc j v hj

theorem ensC_set (e:En):∀ (es:List En) (q:Nat),q < es.length → ((((ensC es).set (q * 4) (.int .i64 e.ep)).set (q * 4 + 1) (.int .i64 e.key)).set (q * 4 + 2) (.int .u64 e.nx)).set (q * 4 + 3) (.int .u64 e.bt) = ensC (es.set q e)
 | [],q,h=>by simp at h
 | u::es,0,_=>by simp [ensC,En.cells]
 | u::es,q + 1,h=>by
  have ih:=ensC_set e es q (by simpa using h)
  simp only [ensC,List.flatMap_cons,List.set_cons_succ,En.cells,List.cons_append,List.nil_append] at ih ⊢
  simp only [show (q + 1) * 4 = q * 4 + 1 + 1 + 1 + 1 by omega,show q * 4 + 1 + 1 + 1 + 1 + 1 = q * 4 + 1 + 1 + 1 + 1 + 1 from rfl,List.set_cons_succ]
  rw [← ih]

/-- A store into a row of the call's own. -/
theorem Hd.row_setS {W w:World} {E g n cap size:Nat} {xs:List Value} {Rs:List Res} (j:Nat) (v:Value) (h:Hd W w (RowR E size (.slice (some ⟨g,0,none⟩) n cap) n xs::Rs)):Hd W (w.setCell ⟨g,j,none⟩ v) (RowR E size (.slice (some ⟨g,0,none⟩) n cap) n (xs.set j v)::Rs):=by
 obtain ⟨cur,hb,c1,c2,c4,c3⟩:=h.row_heapS
 rw [setCell_eq_setRow w g j cur E (0,0) v hb]
 refine Hd.row_setRow hb (by simp) c2 (by rw [Array.toList_setIfInBounds,List.take_set,c3]) (by rw [List.length_set]; exact h.owns.1) h

/-- A slice of blocks that are made since. -/
def NewSl (W w:World) (v:Value):Prop:=∃ ad n cap,v = .slice ad n cap ∧ ∀ a,ad = some a → ∃ g o cur E,a = ⟨g,o,none⟩ ∧ W.heap.size ≤ g ∧ w.heap[g]? = some (.cells cur E (0,0))
theorem Hd.row_newSl {W w:World} {E size n:Nat} {v:Value} {xs:List Value} {Rs:List Res} (h:Hd W w (RowR E size v n xs::Rs)):NewSl W w v:=by
 obtain ⟨f,hR,hf,hlt,_⟩:=h.open
 obtain ⟨hl,⟨rfl,rfl,rfl⟩ | ⟨g,cap,cur,rfl,h1,h2,h3,h4,rfl⟩⟩:=hR
 · exact ⟨none,0,0,rfl,fun a e=>by cases e⟩
 · refine ⟨_,_,_,rfl,fun a e=>⟨g,0,cur,E,?_,(hlt g (by simp)).1,hf g _ (by simp)⟩⟩
   cases e; rfl
theorem NewSl.shift {W w:World} {g o n cap o' n' cap':Nat} (h:NewSl W w (.slice (some ⟨g,o,none⟩) n cap)):NewSl W w (.slice (some ⟨g,o',none⟩) n' cap'):=by
 obtain ⟨ad,k,c,e,h1⟩:=h
 cases e
 obtain ⟨g2,o2,cur,E,e,h2,h3⟩:=h1 _ rfl
 cases e
 exact ⟨_,_,_,rfl,fun a e=>⟨g,o',cur,E,by cases e; rfl,h2,h3⟩⟩

set_option maxRecDepth 100000 in
set_option maxHeartbeats 16000000 in
theorem put16_calls {es:List En} {v:Value} {w:World} (a k x y:Int) (hr:Rises es) (h:CaAt w v es) (hm:es.length ≤ 900) :
 Calls Try.prog 88 #[.agg #[v],.agg #[.int .i64 a,.int .i64 k,.int .u64 x,.int .u64 y]] w fun e' w'=>∃ v',e' = .returned (.tuple #[.agg #[v'],enV (kPut es ⟨a,k,x,y⟩).2.1,.bool (kPut es ⟨a,k,x,y⟩).2.2]) ∧ CaAt w' v' (kPut es ⟨a,k,x,y⟩).1 ∧ NewSl w w' v' ∧ Below w.heap.size w w':=by
 obtain ⟨ad,cap,rfl,hat,hnil⟩:=h.ex
 have HE:=hid hat
 have HR:=hid hr
 have HC:=hid h
 clear hat hr h
 go_enter Try.func88,Try.ntmps88
 go_wp2_with fail
 have H0:=hid ((((Hd.boxk (o:=.cells #[.slice ad es.length cap] 144 (0,0)) w.heap.size rfl (Hd.refl w)).boxk (o:=.cells #[.int .i64 a,.int .i64 k,.int .u64 x,.int .u64 y] 182 (0,0)) (w.heap.size + 1) (by simp)).boxk (o:=.cells #[.slice none 0 0] 144 (0,0)) (w.heap.size + 1 + 1) (by simp)).boxk (o:=.cells #[.int .i64 0,.int .i64 0,.int .u64 0,.int .u64 0] 182 (0,0)) (w.heap.size + 1 + 1 + 1) (by simp))
 refine (clone_calls (HC.out.later H0.out.below) (by omega)).mono ?_
 rintro e w1 ⟨l,rfl,hd⟩
 have H:=hid (H0.out.join hd)
 clear hd H0
 have hc:=H.out.drop.drop.drop.drop.blk
 have he:=H.out.drop.drop.drop.blk
 have c0:=(cell_of_heap hc 0).trans (show _ = some (.slice ad es.length cap) from rfl)
 have e0:=(cell_of_heap he 0).trans (show _ = some (.int .i64 a) from rfl)
 clear hc he
 go_wp2_with fail
 refine (place_calls a HR.out (HE.out.later H.out.below) rfl (by omega)).mono ?_
 rintro e w2 ⟨rfl,hb⟩
 replace H:=hid (H.out.still hb)
 clear hb c0 e0
 have he:=H.out.drop.drop.drop.blk
 obtain ⟨e0,e1,e2,e3⟩:=cells4 he
 clear he
 have hq:=lowOf_le a es
 by_cases his:isAt es a = true
 · obtain ⟨f,hf,hep⟩:=isAt_some his
   have KP:Hid (kPut es ⟨a,k,x,y⟩ = (es.set (lowOf a es) ⟨a,k,x,y⟩,En.zero,false)):=hid (by unfold kPut; rw [if_pos his])
   rw [his]
   obtain ⟨q,hqe⟩:∃ q,lowOf a es = q:=⟨_,rfl⟩
   rw [hqe] at hq hf KP ⊢
   have zl:q < es.length:=(List.getElem?_eq_some_iff.1 hf).1
   have zq0:(0:Int) ≤ (q:Int):=by omega
   have zq1:(q:Int) < (es.length:Int):=by omega
   obtain ⟨hl,⟨rfl,h0⟩ | ⟨g,c3,cur,rfl,_,hg,h3,h4,h5,h6⟩⟩:=H.out.owns
   · omega
   have gg:∀ j v,f.cells[j]? = some v → w2.cell? ⟨g,q * 4 + j,none⟩ = some v:=fun j v hj=>by
    rw [cell_of_heap hg,← Array.getElem?_toList]
    exact get_of_take h6 (ensC_get hf hj)
   have g0:=gg 0 _ rfl
   have g1:=gg 1 _ rfl
   have g2:=gg 2 _ rfl
   have g3:=gg 3 _ rfl
   rw [Nat.add_zero] at g0
   have gf:=frozen_of_heap hg
   have gl:=(Array.getElem?_eq_some_iff.1 hg).1
   have n5:=H.out.row_apart
   have n4:=H.out.un2.row_apart
   have n5':=n5.symm
   have n4':=n4.symm
   have b4:=H.out.drop.drop.blk
   have o0:=(cell_of_heap b4 0).trans (show _ = some (.slice none 0 0) from rfl)
   have o1:=frozen_of_heap b4
   have o2:=(Array.getElem?_eq_some_iff.1 b4).1
   have b5:=H.out.drop.blk
   obtain ⟨r0,r1,r2,r3⟩:=cells4 b5
   have rf:=frozen_of_heap b5
   have rl:=(Array.getElem?_eq_some_iff.1 b5).1
   have H2:=hid ((((H.out.row_setS (q * 4) (.int .i64 a)).row_setS (q * 4 + 1) (.int .i64 k)).row_setS (q * 4 + 2) (.int .u64 x)).row_setS (q * 4 + 3) (.int .u64 y))
   have ES:=hid (ensC_set ⟨a,k,x,y⟩ es q zl)
   clear gg hl hg h5 h6 b4 b5 his hep hqe H
   go_wp2_with fail
   refine bodyPost_ret (v:=.tuple #[.agg #[.slice (some ⟨g,0,none⟩) es.length c3],.agg #[.int .i64 0,.int .i64 0,.int .u64 0,.int .u64 0],.bool false]) (by simp [results,Try.results88,go_sem,o0,r0,r1,r2,r3]) rfl ?_
   rw [KP.out]
   have h2:=H2.out
   rw [ES.out] at h2
   have HH:=((((((h2.third.set 0 (.slice (some ⟨g,0,none⟩) es.length c3)).third.set 0 (.int .i64 0)).set 1 (.int .i64 0)).set 2 (.int .u64 0)).set 3 (.int .u64 0)))
   exact ⟨_,rfl,Hd.row_ca (by simp) HH.drop.drop,HH.drop.drop.row_newSl,HH.below⟩
 · have hif:isAt es a = false:=by simpa using his
   rw [hif]
   clear his
   obtain ⟨q,hqe⟩:∃ q,lowOf a es = q:=⟨_,rfl⟩
   rw [hqe] at hq ⊢
   obtain ⟨ES,hES⟩:∃ ES,es.take q ++ ⟨a,k,x,y⟩::es.drop q = ES:=⟨_,rfl⟩
   have lES:es.length + 1 = ES.length:=by rw [← hES]; simp; omega
   have KP:Hid (kPut es ⟨a,k,x,y⟩ = if es.length + 1 ≤ 4 then (ES,En.zero,false) else (ES.drop 1,ES.getD 0 En.zero,true)):=hid (by
    unfold kPut
    rw [if_neg (by simp [hif]),hqe,hES])
   have HES:=hid hES
   have HL:=hid lES
   clear hqe hES hif lES
   go_wp2_with fail
   refine (insert_calls (e:=⟨a,k,x,y⟩) rfl hq (by omega) H.out.bx).mono ?_
   rw [HES.out]
   rintro e w3 ⟨g,c3,rfl,hd⟩
   clear H e0 e1 e2 e3
   have H:=hid hd
   clear hd
   obtain ⟨cur,hg,hcs,hnc,hcm,hct⟩:=H.out.row_heapS
   have h4:=H.out.drop.drop.blk
   have o0:=(cell_of_heap h4 0).trans (show _ = some (.slice none 0 0) from rfl)
   have o1:=frozen_of_heap h4
   have o2:=(Array.getElem?_eq_some_iff.1 h4).1
   have h5:=H.out.drop.blk
   obtain ⟨r0,r1,r2,r3⟩:=cells4 h5
   have rf:=frozen_of_heap h5
   have rl:=(Array.getElem?_eq_some_iff.1 h5).1
   clear h4 h5
   by_cases h4:es.length + 1 ≤ 4
   · have d4:decide ((es.length:Int) + 1 ≤ 4) = true:=by simp; omega
     go_wp2_with fail
     refine bodyPost_ret (v:=.tuple #[.agg #[.slice (some ⟨g,0,none⟩) (es.length + 1) c3],.agg #[.int .i64 0,.int .i64 0,.int .u64 0,.int .u64 0],.bool false]) (by simp [results,Try.results88,go_sem,o0,r0,r1,r2,r3]) rfl ?_
     rw [KP.out,if_pos h4]
     have HH:=((((((H.out.third.set 0 (.slice (some ⟨g,0,none⟩) (es.length + 1) c3)).third.set 0 (.int .i64 0)).set 1 (.int .i64 0)).set 2 (.int .u64 0)).set 3 (.int .u64 0)))
     exact ⟨_,rfl,Hd.row_ca HL.out HH.drop.drop,HH.drop.drop.row_newSl,HH.below⟩
   · have d4:decide ((es.length:Int) + 1 ≤ 4) = false:=by simp; omega
     obtain ⟨⟨fa,fk,fx,fy⟩,hf⟩:∃ f,ES[0]? = some f:=⟨ES[0]'(by have:=HL.out; omega),List.getElem?_eq_getElem _⟩
     have HF:=hid hf
     have gg:∀ j v,([.int .i64 fa,.int .i64 fk,.int .u64 fx,.int .u64 fy]:List Value)[j]? = some v → w3.cell? ⟨g,j,none⟩ = some v:=fun j v hj=>by
      rw [cell_of_heap hg,← Array.getElem?_toList]
      have:=ensC_get (i:=0) hf (j:=j) hj
      rw [Nat.zero_mul,Nat.zero_add] at this
      exact get_of_take hct this
     have g0:=gg 0 _ rfl
     have g1:=gg 1 _ rfl
     have g2:=gg 2 _ rfl
     have g3:=gg 3 _ rfl
     have gl:=(Array.getElem?_eq_some_iff.1 hg).1
     have hb2:¬ (c3 = 1):=by omega
     have hb3:c3 ≤ 9223372036854775807:=by unfold maxLen at hcm; exact hcm
     have hb4:(1:Int) ≤ (es.length:Int) + 1:=by omega
     have n5:=H.out.row_apart
     have n4:=H.out.un2.row_apart
     have n5':=n5.symm
     have n4':=n4.symm
     clear gg hf hct hcs hg hcm
     go_wp2_with fail
     go_region
     go_wp2_with fail
     refine bodyPost_ret (v:=.tuple #[.agg #[.slice (some ⟨g,4,none⟩) es.length (c3 - 1)],.agg #[.int .i64 fa,.int .i64 fk,.int .u64 fx,.int .u64 fy],.bool true]) (by simp [results,Try.results88,go_sem,o0,r0,r1,r2,r3]) rfl ?_
     rw [KP.out,if_neg h4]
     have HH:=((((((H.out.third.set 0 (.slice (some ⟨g,4,none⟩) es.length (c3 - 1))).third.set 0 (.int .i64 fa)).set 1 (.int .i64 fk)).set 2 (.int .u64 fx)).set 3 (.int .u64 fy))).dr
     obtain ⟨ad2,cap2,hv,hE,_⟩:=(Hd.row_ca HL.out HH.drop.drop).ex
     simp only [Value.slice.injEq] at hv
     obtain ⟨rfl,_,rfl⟩:=hv
     have hl2:(ES.drop 1).length = es.length:=by rw [List.length_drop]; have:=HL.out; omega
     exact ⟨_,by rw [List.getD_eq_getElem?_getD,HF.out]; rfl,⟨_,_,by rw [hl2],hE.tail,fun e=>(by cases e)⟩,HH.drop.drop.row_newSl.shift,HH.below⟩
end Go.Proofs.Ytpcfmafokkffgaa
namespace Go.Proofs.Ytpcfmafokkffgaa
open Go.RowKit

theorem info_RE:∃ i,Try.prog.info? 160 = some i ∧ i.zero = some (enV En.zero) ∧ i.size = 4 ∧ i.bytes = 32:=info_parts (by kernel_rfl)

section
variable {W w:World} {Rs:List Res} {T E:TypeId}
/-- APPEND SOME ENTRIES that lie somewhere. -/
theorem append_ensG {ops:Array Oper} {rest:List Oper} {o:Oper} {a:Act} {Q:Exit → Act → World → Prop} {es fs:List En} {n c g p m:Nat} {v:Value} (hfl:m = fs.length)
 (ht:Try.prog.underlying T = some (.slice E)) (hinf:∃ i,Try.prog.info? E = some i ∧ i.zero = some (enV En.zero) ∧ i.size = 4 ∧ i.bytes = 32)
 (hgd:o.guard = none) (s x:Operand) (ho:o.op = .call { callee:=.builtin .append,args:=#[s,x],argTypes:=#[T,T] }) (hm:0 < fs.length) (h:Hd W w (RowR E 4 v n (ensC es)::Rs)) (hc:EnAt w (some ⟨g,p,none⟩) fs) (hs:a.eval s = v) (hx:a.eval x = .slice (some ⟨g,p,none⟩) m c) (hn:n + m ≤ 1048580)
 (hK:∀ g' cap w',Hd W w' (RowR E 4 (.slice (some ⟨g',0,none⟩) (n + m) cap) (n + m) (ensC (es ++ fs))::Rs) → wpList Try.prog ops Q rest (a.put o.dst (.slice (some ⟨g',0,none⟩) (n + m) cap)) w') :
 wpList Try.prog ops Q (o::rest) a w:=by
 subst hfl
 obtain ⟨i,hi,hz,hsz,hby⟩:=hinf
 refine wpList_append_lies _ hgd s x T ho 0 E i (enV En.zero) 4 32 ht hi hz hsz hby rfl (by decide) v n _ hs h.owns ⟨g,p,none⟩ fs.length c (ensC fs) hx (ensC_length fs) (fun j u hj=>?_) ensC_one hm (by simp only [maxLen]; omega) (by omega) (Nat.zero_le _) _ rfl ?_
 · obtain ⟨i,e,r,h1,h2,rfl⟩:=ensC_at hj
   obtain ⟨g2,p2,ha,hcl⟩:=hc i e h1
   simp only [Option.some.injEq,Addr.mk.injEq,and_true] at ha
   obtain ⟨rfl,rfl⟩:=ha
   rw [show ((⟨g,p,none⟩:Addr).add (i * 4 + r)) = ⟨g,p + i * 4 + r,none⟩ by simp [Addr.add_lit,Nat.add_assoc]]
   exact hcl r u h2
 · intro g' cap w' ho' hg hgg _
   refine hK g' cap w' ?_
   rw [ensC_append]
   exact h.grown ho' hg hgg
theorem en_lit {w:World} {x:Nat} {cs:Array Value} {e:En} (hcs:cs = e.cells.toArray) (h:w.heap[x]? = some (.cells cs E (0,0))):EnAt w (some ⟨x,0,none⟩) [e]:=fun i f hi=>by
 match i,hi with
 | 0,hi =>
  simp only [List.getElem?_cons_zero,Option.some.injEq] at hi
  subst hi
  refine ⟨x,0,rfl,fun j v hj=>?_⟩
  rw [cell_of_heap h,hcs,List.getElem?_toArray]
  simpa using hj
/-- APPEND ONE ENTRY. -/
theorem append_en {ops:Array Oper} {rest:List Oper} {o:Oper} {a:Act} {Q:Exit → Act → World → Prop} {es:List En} {n:Nat} {v:Value} (e:En) {cs:Array Value}
 (ht:Try.prog.underlying T = some (.slice E)) (hinf:∃ i,Try.prog.info? E = some i ∧ i.zero = some (enV En.zero) ∧ i.size = 4 ∧ i.bytes = 32)
 (hgd:o.guard = none) (s x:Operand) (ho:o.op = .call { callee:=.builtin .append,args:=#[s,x],argTypes:=#[T,T] }) (hcs:cs = e.cells.toArray) (h:Hd W w (RowR E 4 v n (ensC es)::Rs)) (hs:a.eval s = v) (hx:a.eval x = .slice (some ⟨w.heap.size,0,none⟩) 1 1) (hn:n ≤ 1000)
 (hK:∀ g' cap w',Hd W w' (RowR E 4 (.slice (some ⟨g',0,none⟩) (n + 1) cap) (n + 1) (ensC (es ++ [e]))::Rs) → wpList Try.prog ops Q rest (a.put o.dst (.slice (some ⟨g',0,none⟩) (n + 1) cap)) w') :
 wpList Try.prog ops Q (o::rest) a (w.alloc (.cells cs E (0,0))) :=
 append_ensG (fs:=[e]) rfl ht hinf hgd s x ho (by simp) h.al (en_lit hcs (heap_at rfl)) hs hx (by simp; omega) hK

/-- A row of entries lies there. -/
theorem Hd.row_en {n cap g:Nat} {es:List En} (hn:n = es.length) (h:Hd W w (RowR E 4 (.slice (some ⟨g,0,none⟩) n cap) n (ensC es)::Rs)):EnAt w (some ⟨g,0,none⟩) es:=by
 subst hn
 obtain ⟨hl,⟨h1,_⟩ | ⟨g2,cap2,cur,hv,_,hc,h3,h4,h5,h6⟩⟩:=h.owns
 · cases h1
 · cases hv
   refine fun i e hi=>⟨g,0,rfl,fun j v hj=>?_⟩
   rw [cell_of_heap hc,Nat.zero_add,← Array.getElem?_toList]
   exact get_of_take h6 (ensC_get hi hj)
end

end Go.Proofs.Ytpcfmafokkffgaa
namespace Go.Proofs.Ytpcfmafokkffgaa
open Go.RowKit

theorem without_step {es:List En} {j:Nat} {f:En} (n:Int) (h:es[j]? = some f):without (es.take (j + 1)) n = without (es.take j) n ++ (if f.ep = n then [] else [f]):=by
 rw [List.take_add_one,h]
 unfold without
 rw [List.filter_append]
 congr 1
 by_cases hf:f.ep = n <;> simp [hf]
set_option maxRecDepth 100000 in
set_option maxHeartbeats 8000000 in
theorem rdrop_calls {es:List En} {ad:Option Addr} {len cap:Nat} {w:World} (n:Int) (h:EnAt w ad es) (hl:len = es.length) (hm:len ≤ 900) :
 Calls Try.prog 94 #[.slice ad len cap,.int .i64 n] w fun e w'=>∃ g c,e = .returned (.slice (some ⟨g,0,none⟩) (without es n).length c) ∧
  Hd w w' [RowR 160 4 (.slice (some ⟨g,0,none⟩) (without es n).length c) (without es n).length (ensC (without es n))]:=by
 have H:=hid h
 have HL:=hid hl
 have H0:=hid ((Hd.refl w).row_newS (E:=160) (size:=4))
 clear h hl
 go_enter Try.func94,Try.ntmps94
 go_wp2_with fail
 go_loopw [5,6] (fun u i wr=>∃ (j m g c:Nat) (R:List En),j ≤ len ∧ i = .int .i64 j ∧ u = .slice (some ⟨g,0,none⟩) m c ∧ Hid (R = without (es.take j) n) ∧ Hid (m = R.length) ∧ m ≤ j ∧ Hid (Hd w wr [RowR 160 4 (.slice (some ⟨g,0,none⟩) m c) m (ensC R)])) (fun _ i _=>len - (intOf i).toNat)
 case atStart=>exact ⟨0,0,_,_,[],Nat.zero_le _,rfl,rfl,hid rfl,hid rfl,Nat.le_refl _,H0⟩
 case round =>
  clear H0
  obtain ⟨j,m,g,c,R,hj,rfl,rfl,hR,hmR,hmj,HB⟩:=hrel
  obtain ⟨wo,hwo⟩:∃ wo:World,wo = wr:=⟨_,rfl⟩
  rw [← hwo] at HB ⊢
  clear hwo wr
  by_cases hlt:j < len
  · have hd1:decide ((j:Int) < (len:Int)) = true:=by simp; omega
    have hd1':decide (j < len) = true:=by simp; omega
    have hml:j < es.length:=by rw [← HL.out]; omega
    obtain ⟨⟨a,k,x,y⟩,he⟩:∃ e,es[j]? = some e:=⟨es[j],List.getElem?_eq_getElem hml⟩
    obtain ⟨g2,o,rfl,hc⟩:=(H.out.later HB.out.below) j _ he
    have d0:=hc 0 _ rfl
    have d1:=hc 1 _ rfl
    have d2:=hc 2 _ rfl
    have d3:=hc 3 _ rfl
    rw [Nat.add_zero] at d0
    have hws:=without_step n he
    have zm0:(0:Int) ≤ (j:Int):=by omega
    have zm1:(j:Int) < (len:Int):=by omega
    clear hc he hml
    by_cases ha:a = n
    · have e1:(a == n) = true:=by simpa using ha
      have e2:decide (a = n) = true:=by simpa using ha
      have HW:=hid hws
      rw [if_pos ha,List.append_nil] at HW
      clear hws ha
      go_wp2_with fail
      go_roundw
      case rel=>exact ⟨j + 1,m,g,c,R,by omega,by go_num,rfl,hid (hR.out.trans HW.out.symm),hmR,by omega,HB⟩
      case measure=>simp [intOf]; omega
    · have e1:(a == n) = false:=by simpa using ha
      have e2:decide (a = n) = false:=by simpa using ha
      have HW:=hid hws
      rw [if_neg ha] at HW
      clear hws ha
      go_wp2_with (at_builtin; refine append_en ⟨a,k,x,y⟩ Try.underlying92 info_RE rfl (.tmp 21) (.tmp 26) rfl rfl HB.out (by rfl) (by rfl) (by omega) ?_; intro g3 c3 w3 h3; have H3:=hid h3; clear h3)
      go_roundw
      case rel=>exact ⟨j + 1,m + 1,g3,c3,R ++ [⟨a,k,x,y⟩],by omega,by go_num,rfl,hid (by rw [HW.out,hR.out]),hid (by rw [hmR.out]; simp),by omega,H3⟩
      case measure=>simp [intOf]; omega
  · obtain rfl:j = len:=by omega
    have hd1:decide ((j:Int) < (j:Int)) = false:=by simp
    have HE:Hid (R = without es n):=hid (by rw [hR.out,List.take_of_length_le (by rw [HL.out]; exact Nat.le_refl _)])
    clear hlt
    go_wp2_with fail
    go_ret
    rw [← HE.out,← hmR.out]
    exact ⟨g,c,rfl,HB.out⟩

theorem find_step {es:List En} {j:Nat} {f:En} (n:Int) (h:es[j]? = some f) (hno:(es.take j).find? (fun x=>decide (x.ep = n)) = none):(es.take (j + 1)).find? (fun x=>decide (x.ep = n)) = if f.ep = n then some f else none:=by
 rw [List.take_add_one,h,List.find?_append,hno]
 by_cases hf:f.ep = n <;> simp [hf]
theorem find_take {es:List En} {j:Nat} {f:En} {p:En → Bool} (h:(es.take j).find? p = some f):es.find? p = some f:=by
 rw [← List.take_append_drop j es,List.find?_append,h]; rfl

set_option maxRecDepth 100000 in
set_option maxHeartbeats 8000000 in
theorem rget_calls {es:List En} {ad:Option Addr} {len cap:Nat} {w:World} (n:Int) (h:EnAt w ad es) (hl:len = es.length) (hm:len ≤ 900) :
 Calls Try.prog 71 #[.slice ad len cap,.int .i64 n] w fun e w'=>e = .returned (.tuple #[enV (rGet es n).1,.bool (rGet es n).2]) ∧ Below w.heap.size w w':=by
 have H:=hid h
 have HL:=hid hl
 have H0:=hid (Hd.boxk (o:=.cells #[.int .i64 0,.int .i64 0,.int .u64 0,.int .u64 0] 160 (0,0)) w.heap.size rfl (Hd.refl w))
 clear h hl
 go_enter Try.func71,Try.ntmps71
 go_wp2_with fail
 go_loopw [6] (fun i wr=>∃ (j:Nat),j ≤ len ∧ i = .int .i64 j ∧ Hid ((es.take j).find? (fun x=>decide (x.ep = n)) = none) ∧ Hid (Hd w wr [Blk w.heap.size (.cells #[.int .i64 0,.int .i64 0,.int .u64 0,.int .u64 0] 160 (0,0))])) (fun i _=>len - (intOf i).toNat)
 case atStart=>exact ⟨0,Nat.zero_le _,rfl,hid rfl,H0⟩
 case round =>
  clear H0
  obtain ⟨j,hj,rfl,hF,HB⟩:=hrel
  obtain ⟨wo,hwo⟩:∃ wo:World,wo = wr:=⟨_,rfl⟩
  rw [← hwo] at HB ⊢
  clear hwo wr
  have hk:=HB.out.blk
  obtain ⟨r0,r1,r2,r3⟩:=cells4 hk
  have rf:=frozen_of_heap hk
  have rl:=(Array.getElem?_eq_some_iff.1 hk).1
  clear hk
  by_cases hlt:j < len
  · have hd1:decide ((j:Int) < (len:Int)) = true:=by simp; omega
    have hd1':decide (j < len) = true:=by simp; omega
    have hml:j < es.length:=by rw [← HL.out]; omega
    obtain ⟨⟨a,k,x,y⟩,he⟩:∃ e,es[j]? = some e:=⟨es[j],List.getElem?_eq_getElem hml⟩
    obtain ⟨g2,o,rfl,hc⟩:=(H.out.later HB.out.below) j _ he
    have d0:=hc 0 _ rfl
    have d1:=hc 1 _ rfl
    have d2:=hc 2 _ rfl
    have d3:=hc 3 _ rfl
    rw [Nat.add_zero] at d0
    have hws:=find_step n he hF.out
    have zm0:(0:Int) ≤ (j:Int):=by omega
    have zm1:(j:Int) < (len:Int):=by omega
    clear hc he hml
    by_cases ha:a = n
    · have e1:(a == n) = true:=by simpa using ha
      have e2:decide (a = n) = true:=by simpa using ha
      have HW:Hid (rGet es n = (⟨a,k,x,y⟩,true)):=hid (by unfold rGet; rw [find_take (hws.trans (if_pos ha))])
      clear hws ha
      go_wp2_with fail
      rw [HW.out]
      refine bodyPost_ret (v:=.tuple #[.agg #[.int .i64 a,.int .i64 k,.int .u64 x,.int .u64 y],.bool true]) (by simp [results,Try.results71,go_sem,r0,r1,r2,r3]) rfl ⟨rfl,?_⟩
      exact ((((HB.out.set 0 _).set 1 _).set 2 _).set 3 _).below
    · have e1:(a == n) = false:=by simpa using ha
      have e2:decide (a = n) = false:=by simpa using ha
      have HW:=hid (hws.trans (if_neg ha))
      clear hws ha
      go_wp2_with fail
      go_roundw
      case rel=>exact ⟨j + 1,by omega,by go_num,HW,HB⟩
      case measure=>simp [intOf]; omega
  · obtain rfl:j = len:=by omega
    have hd1:decide ((j:Int) < (j:Int)) = false:=by simp
    have HW:Hid (rGet es n = (En.zero,false)):=hid (by
     have:=hF.out
     rw [List.take_of_length_le (by rw [HL.out]; exact Nat.le_refl _)] at this
     unfold rGet; rw [this])
    clear hlt
    go_wp2_with fail
    rw [HW.out]
    refine bodyPost_ret (v:=.tuple #[.agg #[.int .i64 0,.int .i64 0,.int .u64 0,.int .u64 0],.bool false]) (by simp [results,Try.results71,go_sem,r0,r1,r2,r3]) rfl ⟨rfl,?_⟩
    exact ((((HB.out.set 0 _).set 1 _).set 2 _).set 3 _).below

end Go.Proofs.Ytpcfmafokkffgaa
namespace Go.Proofs.Ytpcfmafokkffgaa
open Go.RowKit

theorem below_without (es:List En) (n:Int):below (without es n) n = below es n:=by
 unfold below without
 rw [List.filter_filter]
 congr 1
 funext x
 by_cases h:x.ep < n <;> simp [h]
 omega
/-- Where the ones below end. -/
theorem cut_without {es:List En} {n:Int} {j:Nat} (hr:Rises es) (hj:j ≤ (without es n).length) (h1:∀ k e,k < j → (without es n)[k]? = some e → e.ep < n) (h2:∀ e,(without es n)[j]? = some e → ¬ e.ep < n) :
 (without es n).take j = below es n ∧ (without es n).drop j = above es n:=by
 obtain ⟨p1,p2,_⟩:=parts_of n (without_rises hr n)
 have hlow:=lowOf_eq hj h1 h2
 rw [hlow,below_without] at p1
 have hs:without es n = below es n ++ above es n:=(parts_of n hr).2.2
 rw [hs,p1]
 exact ⟨List.take_left,List.drop_left⟩
theorem EnAt.drop {w:World} {g o:Nat} {es:List En} (h:EnAt w (some ⟨g,o,none⟩) es) (j:Nat):EnAt w (some ⟨g,o + j * 4,none⟩) (es.drop j):=fun i e hi=>by
 obtain ⟨g2,o2,ha,hc⟩:=h (j + i) e (by rwa [List.getElem?_drop] at hi)
 cases ha
 refine ⟨g,o + j * 4,rfl,fun r v hr=>?_⟩
 rw [show o + j * 4 + i * 4 + r = o + (j + i) * 4 + r by omega]
 exact hc r v hr

/-- A list of the document's, as a value. -/
structure LaAt (w:World) (v:Value) (es:List En):Prop where
 ex:∃ ad cap,v = .slice ad es.length cap ∧ EnAt w ad es ∧ (ad = none → cap = 0 ∧ es = [])
theorem LaAt.later {w w':World} {v:Value} {es:List En} (h:LaAt w v es) (hb:Below w.heap.size w w'):LaAt w' v es:=by
 obtain ⟨ad,cap,rfl,h1,h2⟩:=h.ex
 exact ⟨ad,cap,rfl,h1.later hb,h2⟩

set_option maxRecDepth 100000 in
set_option maxHeartbeats 16000000 in
theorem rput16_calls {es:List En} {v:Value} {w:World} (a k x y:Int) (hr:Rises es) (h:LaAt w v es) (hm:es.length ≤ 800) :
 Calls Try.prog 75 #[v,.agg #[.int .i64 a,.int .i64 k,.int .u64 x,.int .u64 y]] w fun e' w'=>∃ v',e' = .returned (.tuple #[v',enV (rPut es ⟨a,k,x,y⟩).2.1,.bool (rPut es ⟨a,k,x,y⟩).2.2]) ∧ LaAt w' v' (rPut es ⟨a,k,x,y⟩).1 ∧ NewSl w w' v' ∧ Below w.heap.size w w':=by
 obtain ⟨ad,cap,rfl,hat,_⟩:=h.ex
 have HE:=hid hat
 have HR:=hid hr
 clear hat hr h
 go_enter Try.func75,Try.ntmps75
 go_wp2_with fail
 have H0:=hid ((Hd.boxk (o:=.cells #[.int .i64 a,.int .i64 k,.int .u64 x,.int .u64 y] 160 (0,0)) w.heap.size rfl (Hd.refl w)).boxk (o:=.cells #[.int .i64 0,.int .i64 0,.int .u64 0,.int .u64 0] 160 (0,0)) (w.heap.size + 1) (by simp))
 refine (rdrop_calls a (HE.out.later H0.out.below) rfl (by omega)).mono ?_
 obtain ⟨RS,hRS⟩:∃ RS,without es a = RS:=⟨_,rfl⟩
 obtain ⟨n,hn⟩:∃ n,RS.length = n:=⟨_,rfl⟩
 have hn8:n ≤ 800:=by
  have:=List.length_filter_le (fun x:En=>decide (x.ep ≠ a)) es
  have e2:(without es a).length ≤ es.length:=this
  rw [hRS] at e2; omega
 rw [hRS,hn]
 rintro e w1 ⟨gr,cr,rfl,hd⟩
 have H1:=hid ((H0.out.join hd).row_newS (E:=160) (size:=4))
 have HRS:=hid hRS
 have HN:=hid hn
 clear hd H0 hRS hn
 go_wp2_with fail
 go_loopw [8,9] (fun u i wr=>∃ (j g c:Nat),j ≤ n ∧ i = .int .i64 j ∧ u = .slice (some ⟨g,0,none⟩) j c ∧ Hid (∀ k e,k < j → RS[k]? = some e → e.ep < a) ∧ Hid (Hd w wr [RowR 160 4 (.slice (some ⟨g,0,none⟩) j c) j (ensC (RS.take j)),RowR 160 4 (.slice (some ⟨gr,0,none⟩) n cr) n (ensC RS),Blk (w.heap.size + 1) (.cells #[.int .i64 0,.int .i64 0,.int .u64 0,.int .u64 0] 160 (0,0)),Blk w.heap.size (.cells #[.int .i64 a,.int .i64 k,.int .u64 x,.int .u64 y] 160 (0,0))])) (fun _ i _=>n - (intOf i).toNat)
 case atStart=>exact ⟨0,_,_,Nat.zero_le _,rfl,rfl,hid fun k e hk=>by omega,H1⟩
 case round =>
  clear H1
  obtain ⟨j,g,c,hj,rfl,rfl,hF,HB⟩:=hrel
  obtain ⟨wo,hwo⟩:∃ wo:World,wo = wr:=⟨_,rfl⟩
  rw [← hwo] at HB ⊢
  clear hwo wr
  have mixed:Try.prog.follows .mixedOrders = true:=by kernel_rfl
  have hk:=HB.out.drop.drop.drop.blk
  obtain ⟨b0,b1,b2,b3⟩:=cells4 hk
  clear hk
  have zj0:(0:Int) ≤ (j:Int):=by omega
  -- behind the loop
  have out:(∀ e,RS[j]? = some e → ¬ e.ep < a) → Hid (RS.take j = below es a ∧ RS.drop j = above es a ∧ ins es ⟨a,k,x,y⟩ = RS.take j ++ [⟨a,k,x,y⟩] ++ RS.drop j):=fun h2=>hid (by
   have:=cut_without (es:=es) (n:=a) (j:=j) HR.out (by rw [HRS.out,HN.out]; exact hj) (by rw [HRS.out]; exact hF.out) (by rw [HRS.out]; exact h2)
   rw [HRS.out] at this
   refine ⟨this.1,this.2,?_⟩
   rw [this.1,this.2]
   simp [ins])
  have goes:j < n → ∃ f,RS[j]? = some f:=fun h=>⟨RS[j]'(by rw [HN.out]; exact h),List.getElem?_eq_getElem _⟩
  by_cases hgo:∃ f,RS[j]? = some f ∧ f.ep < a
  · obtain ⟨⟨fa,fk,fx,fy⟩,hf,hlt⟩:=hgo
    have hjn:j < n:=by have:=(List.getElem?_eq_some_iff.1 hf).1; rw [HN.out] at this; exact this
    have hd1:decide ((j:Int) < (n:Int)) = true:=by simp; omega
    have hd1':decide (j < n) = true:=by simp; omega
    obtain ⟨g2,o,hga,hc⟩:=(Hd.row_en HN.out.symm HB.out.drop) j _ hf
    simp only [Option.some.injEq,Addr.mk.injEq,and_true] at hga
    obtain ⟨rfl,rfl⟩:=hga
    have d0:=hc 0 _ rfl
    have d1:=hc 1 _ rfl
    have d2:=hc 2 _ rfl
    have d3:=hc 3 _ rfl
    rw [Nat.zero_add] at d1 d2 d3
    rw [Nat.add_zero,Nat.zero_add] at d0
    have zj1:(j:Int) < (n:Int):=by omega
    have hd2:decide (fa < a) = true:=by simpa using hlt
    have HF2:Hid (∀ k e,k < j + 1 → RS[k]? = some e → e.ep < a):=hid fun k e hk he=>by
     by_cases hkj:k = j
     · subst hkj; rw [hf] at he; cases he; exact hlt
     · exact hF.out k e (by omega) he
    have HT:Hid (RS.take (j + 1) = RS.take j ++ [⟨fa,fk,fx,fy⟩]):=hid (by rw [List.take_add_one,hf]; rfl)
    clear hc hf hlt out goes
    go_wp2_with fail
    go_region
    go_wp2_with (at_builtin; refine append_en ⟨fa,fk,fx,fy⟩ Try.underlying92 info_RE rfl (.tmp 32) (.tmp 37) rfl rfl HB.out.dr (by rfl) (by rfl) (by omega) ?_; intro g3 c3 w3 h3; have H3:=hid h3; clear h3)
    go_roundw
    case rel=>exact ⟨j + 1,g3,c3,by omega,by go_num,rfl,HF2,hid (by rw [HT.out]; exact H3.out)⟩
    case measure=>simp [intOf]; omega
  · have HO:=out fun e he hlt=>hgo ⟨e,he,hlt⟩
    by_cases hlt:j < n
    · skip
      obtain ⟨⟨fa,fk,fx,fy⟩,hf⟩:=goes hlt
      have hd1:decide ((j:Int) < (n:Int)) = true:=by simp; omega
      have hd1':decide (j < n) = true:=by simp; omega
      have hd2:decide (fa < a) = false:=by simpa using fun h=>hgo ⟨_,hf,h⟩
      obtain ⟨g2,o,hga,hc⟩:=(Hd.row_en HN.out.symm HB.out.drop) j _ hf
      simp only [Option.some.injEq,Addr.mk.injEq,and_true] at hga
      obtain ⟨rfl,rfl⟩:=hga
      have d0:=hc 0 _ rfl
      have d1:=hc 1 _ rfl
      have d2:=hc 2 _ rfl
      have d3:=hc 3 _ rfl
      rw [Nat.zero_add] at d1 d2 d3
      rw [Nat.add_zero,Nat.zero_add] at d0
      have zj1:(j:Int) < (n:Int):=by omega
      obtain ⟨_,_,_,hnc,hcm,_⟩:=HB.out.drop.row_heapS
      have hncr:¬ (cr = j):=by omega
      have hjn1:(j:Int) ≤ (n:Int):=by omega
      have hcm2:cr ≤ 9223372036854775807:=by unfold maxLen at hcm; exact hcm
      clear hc hf out goes hgo hcm
      obtain ⟨ES,hES⟩:∃ ES,RS.take j ++ [⟨a,k,x,y⟩] ++ RS.drop j = ES:=⟨_,rfl⟩
      have HL:Hid (ES.length = n + 1):=hid (by rw [← hES]; simp [HN.out]; omega)
      have KP:Hid (rPut es ⟨a,k,x,y⟩ = if n + 1 ≤ 4 then (ES,En.zero,false) else (ES.drop 1,ES.getD 0 En.zero,true)):=hid (by unfold rPut; rw [HO.out.2.2,hES,HL.out])
      have HES:=hid hES
      clear hES
      by_cases h4:n + 1 ≤ 4
      · have d4:decide ((4:Int) < (n:Int) + 1) = false:=by simp; omega
        go_wp2_with fail
        go_region
        go_wp2_with (at_builtin; refine append_en ⟨a,k,x,y⟩ Try.underlying92 info_RE rfl (.tmp 41) (.tmp 43) rfl rfl HB.out.dr (by rfl) (by rfl) (by omega) ?_; intro g3 c3 w3 h3; have H3:=hid h3; clear h3 b0 b1 b2 b3; have hE:=hid ((Hd.row_en HN.out.symm H3.out.drop).drop j); rw [Nat.zero_add] at hE; go_wp2_with (at_builtin; refine append_ensG (es:=RS.take j ++ [⟨a,k,x,y⟩]) (fs:=RS.drop j) (by rw [List.length_drop,HN.out]) Try.underlying92 info_RE rfl (.tmp 45) (.tmp 48) rfl (by rw [List.length_drop,HN.out]; omega) H3.out hE.out (by rfl) (by rfl) (by omega) ?_; intro g4 c4 w4 h4; rw [HES.out,show j + 1 + (n - j) = n + 1 by omega] at h4; rw [show j + 1 + (n - j) = n + 1 by omega]; have H4:=hid h4.swap.drop; clear h4 hE H3; have hk:=H4.out.drop.blk; have r0:=(cell_of_heap hk 0).trans (show _ = some (.int .i64 0) from rfl); have r1:=(cell_of_heap hk 1).trans (show _ = some (.int .i64 0) from rfl); have r2:=(cell_of_heap hk 2).trans (show _ = some (.int .u64 0) from rfl); have r3:=(cell_of_heap hk 3).trans (show _ = some (.int .u64 0) from rfl); have rf:=frozen_of_heap hk; have rl:=(Array.getElem?_eq_some_iff.1 hk).1; clear hk))
        refine bodyPost_ret (v:=.tuple #[.slice (some ⟨g4,0,none⟩) (n + 1) c4,.agg #[.int .i64 0,.int .i64 0,.int .u64 0,.int .u64 0],.bool false]) (by simp [results,Try.results75,go_sem,r0,r1,r2,r3]) rfl ?_
        rw [KP.out,if_pos h4]
        have HH:=((((H4.out.swap.set 0 (.int .i64 0)).set 1 (.int .i64 0)).set 2 (.int .u64 0)).set 3 (.int .u64 0)).swap
        exact ⟨_,rfl,⟨_,_,by rw [HL.out],Hd.row_en HL.out.symm HH,fun e=>by cases e⟩,HH.row_newSl,HH.below⟩
      · have d4:decide ((4:Int) < (n:Int) + 1) = true:=by simp; omega
        obtain ⟨⟨ea,ek,ex,ey⟩,hf⟩:∃ f,ES[0]? = some f:=⟨ES[0]'(by have:=HL.out; omega),List.getElem?_eq_getElem _⟩
        have HF0:=hid hf
        clear hf
        go_wp2_with fail
        go_region
        go_wp2_with (at_builtin; refine append_en ⟨a,k,x,y⟩ Try.underlying92 info_RE rfl (.tmp 41) (.tmp 43) rfl rfl HB.out.dr (by rfl) (by rfl) (by omega) ?_; intro g3 c3 w3 h3; have H3:=hid h3; clear h3 b0 b1 b2 b3; have hE:=hid ((Hd.row_en HN.out.symm H3.out.drop).drop j); rw [Nat.zero_add] at hE; go_wp2_with (at_builtin; refine append_ensG (es:=RS.take j ++ [⟨a,k,x,y⟩]) (fs:=RS.drop j) (by rw [List.length_drop,HN.out]) Try.underlying92 info_RE rfl (.tmp 45) (.tmp 48) rfl (by rw [List.length_drop,HN.out]; omega) H3.out hE.out (by rfl) (by rfl) (by omega) ?_; intro g4 c4 w4 h4; rw [HES.out,show j + 1 + (n - j) = n + 1 by omega] at h4; rw [show j + 1 + (n - j) = n + 1 by omega]; have H4:=hid h4.swap.drop; clear h4 hE H3; have hk:=H4.out.drop.blk; have r0:=(cell_of_heap hk 0).trans (show _ = some (.int .i64 0) from rfl); have r1:=(cell_of_heap hk 1).trans (show _ = some (.int .i64 0) from rfl); have r2:=(cell_of_heap hk 2).trans (show _ = some (.int .u64 0) from rfl); have r3:=(cell_of_heap hk 3).trans (show _ = some (.int .u64 0) from rfl); have rf:=frozen_of_heap hk; have rl:=(Array.getElem?_eq_some_iff.1 hk).1; clear hk; have hnc4:=H4.out.row_heapS; obtain ⟨cur,hg,hcs,hnc4,hcm4,hct⟩:=hnc4; obtain ⟨_,_,hga,hc⟩:=(Hd.row_en HL.out.symm H4.out) 0 _ HF0.out; cases hga; have s0:=hc 0 _ rfl; have s1:=hc 1 _ rfl; have s2:=hc 2 _ rfl; have s3:=hc 3 _ rfl; simp only [Nat.zero_mul,Nat.zero_add,Nat.add_zero] at s0 s1 s2 s3; have gl:=(Array.getElem?_eq_some_iff.1 hg).1; have hb2:¬ (c4 = 1):=(by omega); have hb3:c4 ≤ 9223372036854775807:=(by unfold maxLen at hcm4; exact hcm4); have hb4:(1:Int) ≤ (n:Int) + 1:=(by omega); have n5:=H4.out.row_apart; have n5':=n5.symm; clear hc hct hcs hg hcm4))
        go_region
        go_wp2_with fail
        refine bodyPost_ret (v:=.tuple #[.slice (some ⟨g4,4,none⟩) n (c4 - 1),.agg #[.int .i64 ea,.int .i64 ek,.int .u64 ex,.int .u64 ey],.bool true]) (by simp [results,Try.results75,go_sem,r0,r1,r2,r3]) rfl ?_
        rw [KP.out,if_neg h4]
        have HH:=((((H4.out.swap.set 0 (.int .i64 ea)).set 1 (.int .i64 ek)).set 2 (.int .u64 ex)).set 3 (.int .u64 ey)).swap.dr
        exact ⟨_,by rw [List.getD_eq_getElem?_getD,HF0.out]; rfl,⟨_,_,by rw [List.length_drop,HL.out]; rfl,(Hd.row_en HL.out.symm HH).tail,fun e=>by cases e⟩,HH.row_newSl.shift,HH.below⟩
    · skip
      obtain rfl:j = n:=by omega
      have hd1:decide ((j:Int) < (j:Int)) = false:=by simp
      obtain ⟨_,_,_,hnc,hcm,_⟩:=HB.out.drop.row_heapS
      have hcm2:cr ≤ 9223372036854775807:=by unfold maxLen at hcm; exact hcm
      obtain ⟨inf,hinf,_⟩:=info_RE
      have Hinf:=hid hinf
      clear hinf out goes hgo hlt hcm
      obtain ⟨ES,hES⟩:∃ ES,RS.take j ++ [⟨a,k,x,y⟩] ++ RS.drop j = ES:=⟨_,rfl⟩
      have HL:Hid (ES.length = j + 1):=hid (by rw [← hES]; simp [HN.out])
      have KP:Hid (rPut es ⟨a,k,x,y⟩ = if j + 1 ≤ 4 then (ES,En.zero,false) else (ES.drop 1,ES.getD 0 En.zero,true)):=hid (by unfold rPut; rw [HO.out.2.2,hES,HL.out])
      have HES:=hid hES
      clear hES
      by_cases h4:j + 1 ≤ 4
      · have d4:decide ((4:Int) < (j:Int) + 1) = false:=by simp; omega
        go_wp2_with fail
        go_region
        go_wp2_with (at_builtin; refine append_en ⟨a,k,x,y⟩ Try.underlying92 info_RE rfl (.tmp 41) (.tmp 43) rfl rfl HB.out.dr (by rfl) (by rfl) (by omega) ?_; intro g3 c3 w3 h3; have H3:=hid h3; clear h3 b0 b1 b2 b3; obtain ⟨_,_,_,hnc3,_,_⟩:=H3.out.row_heapS; go_wp2_with (at_builtin; refine append_zero Try.underlying92 Hinf.out rfl (.tmp 45) (.tmp 48) rfl (by rfl) hnc3 (by rfl) ?_; obtain ⟨g4,hg4⟩:∃ g4,g3 = g4:=⟨_,rfl⟩; obtain ⟨c4,hc4⟩:∃ c4,c3 = c4:=⟨_,rfl⟩; obtain ⟨w4,hw4⟩:∃ w4,w3 = w4:=⟨_,rfl⟩; rw [hg4,hc4,hw4] at H3; rw [hg4,hc4,hw4]; have H4:=hid (by have h:=H3.out.swap.drop; rwa [show RS.take j ++ [⟨a,k,x,y⟩] = ES by rw [← HES.out,List.drop_eq_nil_of_le (by rw [HN.out]; exact Nat.le_refl _),List.append_nil]] at h:Hd w w4 [RowR 160 4 (.slice (some ⟨g4,0,none⟩) (j + 1) c4) (j + 1) (ensC ES),Blk (w.heap.size + 1) (.cells #[.int .i64 0,.int .i64 0,.int .u64 0,.int .u64 0] 160 (0,0)),Blk w.heap.size (.cells #[.int .i64 a,.int .i64 k,.int .u64 x,.int .u64 y] 160 (0,0))]); clear H3 hg4 hc4 hw4 hnc3; have hk:=H4.out.drop.blk; have r0:=(cell_of_heap hk 0).trans (show _ = some (.int .i64 0) from rfl); have r1:=(cell_of_heap hk 1).trans (show _ = some (.int .i64 0) from rfl); have r2:=(cell_of_heap hk 2).trans (show _ = some (.int .u64 0) from rfl); have r3:=(cell_of_heap hk 3).trans (show _ = some (.int .u64 0) from rfl); have rf:=frozen_of_heap hk; have rl:=(Array.getElem?_eq_some_iff.1 hk).1; clear hk))
        all_goals
         refine bodyPost_ret (v:=.tuple #[.slice (some ⟨g4,0,none⟩) (j + 1) c4,.agg #[.int .i64 0,.int .i64 0,.int .u64 0,.int .u64 0],.bool false]) (by simp [results,Try.results75,go_sem,r0,r1,r2,r3]) rfl ?_
         rw [KP.out,if_pos h4]
         have HH:=((((H4.out.swap.set 0 (.int .i64 0)).set 1 (.int .i64 0)).set 2 (.int .u64 0)).set 3 (.int .u64 0)).swap
         exact ⟨_,rfl,⟨_,_,by rw [HL.out],Hd.row_en HL.out.symm HH,fun e=>by cases e⟩,HH.row_newSl,HH.below⟩
      · have d4:decide ((4:Int) < (j:Int) + 1) = true:=by simp; omega
        obtain ⟨⟨ea,ek,ex,ey⟩,hf⟩:∃ f,ES[0]? = some f:=⟨ES[0]'(by have:=HL.out; omega),List.getElem?_eq_getElem _⟩
        have HF0:=hid hf
        clear hf
        go_wp2_with fail
        go_region
        go_wp2_with (at_builtin; refine append_en ⟨a,k,x,y⟩ Try.underlying92 info_RE rfl (.tmp 41) (.tmp 43) rfl rfl HB.out.dr (by rfl) (by rfl) (by omega) ?_; intro g3 c3 w3 h3; have H3:=hid h3; clear h3 b0 b1 b2 b3; obtain ⟨_,_,_,hnc3,_,_⟩:=H3.out.row_heapS; go_wp2_with (at_builtin; refine append_zero Try.underlying92 Hinf.out rfl (.tmp 45) (.tmp 48) rfl (by rfl) hnc3 (by rfl) ?_; obtain ⟨g4,hg4⟩:∃ g4,g3 = g4:=⟨_,rfl⟩; obtain ⟨c4,hc4⟩:∃ c4,c3 = c4:=⟨_,rfl⟩; obtain ⟨w4,hw4⟩:∃ w4,w3 = w4:=⟨_,rfl⟩; rw [hg4,hc4,hw4] at H3; rw [hg4,hc4,hw4]; have H4:=hid (by have h:=H3.out.swap.drop; rwa [show RS.take j ++ [⟨a,k,x,y⟩] = ES by rw [← HES.out,List.drop_eq_nil_of_le (by rw [HN.out]; exact Nat.le_refl _),List.append_nil]] at h:Hd w w4 [RowR 160 4 (.slice (some ⟨g4,0,none⟩) (j + 1) c4) (j + 1) (ensC ES),Blk (w.heap.size + 1) (.cells #[.int .i64 0,.int .i64 0,.int .u64 0,.int .u64 0] 160 (0,0)),Blk w.heap.size (.cells #[.int .i64 a,.int .i64 k,.int .u64 x,.int .u64 y] 160 (0,0))]); clear H3 hg4 hc4 hw4 hnc3; have hk:=H4.out.drop.blk; have r0:=(cell_of_heap hk 0).trans (show _ = some (.int .i64 0) from rfl); have r1:=(cell_of_heap hk 1).trans (show _ = some (.int .i64 0) from rfl); have r2:=(cell_of_heap hk 2).trans (show _ = some (.int .u64 0) from rfl); have r3:=(cell_of_heap hk 3).trans (show _ = some (.int .u64 0) from rfl); have rf:=frozen_of_heap hk; have rl:=(Array.getElem?_eq_some_iff.1 hk).1; clear hk; have hnc4:=H4.out.row_heapS; obtain ⟨cur,hg,hcs,hnc4,hcm4,hct⟩:=hnc4; obtain ⟨_,_,hga,hc⟩:=(Hd.row_en HL.out.symm H4.out) 0 _ HF0.out; cases hga; have s0:=hc 0 _ rfl; have s1:=hc 1 _ rfl; have s2:=hc 2 _ rfl; have s3:=hc 3 _ rfl; simp only [Nat.zero_mul,Nat.zero_add,Nat.add_zero] at s0 s1 s2 s3; have gl:=(Array.getElem?_eq_some_iff.1 hg).1; have hb2:¬ (c4 = 1):=(by omega); have hb3:c4 ≤ 9223372036854775807:=(by unfold maxLen at hcm4; exact hcm4); have hb4:(1:Int) ≤ (j:Int) + 1:=(by omega); have n5:=H4.out.row_apart; have n5':=n5.symm; clear hc hct hcs hg hcm4))
        all_goals go_region
        all_goals go_wp2_with fail
        all_goals
         refine bodyPost_ret (v:=.tuple #[.slice (some ⟨g4,4,none⟩) j (c4 - 1),.agg #[.int .i64 ea,.int .i64 ek,.int .u64 ex,.int .u64 ey],.bool true]) (by simp [results,Try.results75,go_sem,r0,r1,r2,r3]) rfl ?_
         rw [KP.out,if_neg h4]
         have HH:=((((H4.out.swap.set 0 (.int .i64 ea)).set 1 (.int .i64 ek)).set 2 (.int .u64 ex)).set 3 (.int .u64 ey)).swap.dr
         exact ⟨_,by rw [List.getD_eq_getElem?_getD,HF0.out]; rfl,⟨_,_,by rw [List.length_drop,HL.out]; rfl,(Hd.row_en HL.out.symm HH).tail,fun e=>by cases e⟩,HH.row_newSl.shift,HH.below⟩
end Go.Proofs.Ytpcfmafokkffgaa
namespace Go.Proofs.Ytpcfmafokkffgaa
open Go.RowKit

theorem info_I:∃ i,Try.prog.info? 3 = some i ∧ i.zero = some (.int .i64 0) ∧ i.size = 1 ∧ i.bytes = 8:=info_parts (by kernel_rfl)

/-- A list of numbers, as a value. -/
structure NsAt (w:World) (v:Value) (ks:List Int):Prop where
 ex:∃ ad cap,v = .slice ad ks.length cap ∧ IntsAt w ad ks
theorem Hd.row_ns {W w:World} {n:Nat} {v:Value} {ks:List Int} {Rs:List Res} (hn:n = ks.length) (h:Hd W w (RowR 3 1 v n (nums .i64 ks)::Rs)):NsAt w v ks:=by
 subst hn
 obtain ⟨hl,⟨rfl,h0⟩ | ⟨g,cap,cur,rfl,_,hc,h3,h4,h5,h6⟩⟩:=h.owns
 · have:ks = []:=List.eq_nil_of_length_eq_zero h0
   subst this
   exact ⟨none,0,rfl,.inl rfl⟩
 · refine ⟨_,cap,rfl,.inr ⟨g,0,rfl,fun j hj=>?_⟩⟩
   rw [cell_of_heap hc,Nat.zero_add,← Array.getElem?_toList]
   exact get_of_take h6 (nums_get hj)

theorem keys_step {es:List En} {j:Nat} {f:En} (h:es[j]? = some f):kKeys (es.take (j + 1)) = kKeys (es.take j) ++ [f.key]:=by
 rw [List.take_add_one,h]; simp [kKeys]

set_option maxHeartbeats 1000000 in
theorem key_calls (a k x y:Int) (w:World) :
 Calls Try.prog 96 #[.agg #[.int .i64 a,.int .i64 k,.int .u64 x,.int .u64 y]] w fun e w'=>e = .returned (.int .i64 k) ∧ Below w.heap.size w w':=by
 go_enter Try.func96,Try.ntmps96
 go_wp2_with fail
 go_ret
 exact ⟨rfl,(Below.refl _ _).alloc (Nat.le_refl _) _⟩

set_option maxRecDepth 100000 in
set_option maxHeartbeats 8000000 in
theorem mapped_calls {es:List En} {ad:Option Addr} {len cap:Nat} {w:World} (h:EnAt w ad es) (hl:len = es.length) (hm:len ≤ 900) :
 Calls Try.prog 95 #[.slice ad len cap,.func (.func 96) #[] #[]] w fun e w'=>∃ u,e = .returned u ∧ Hd w w' [RowR 3 1 u len (nums .i64 (kKeys es))]:=by
 have H:=hid h
 have HL:=hid hl
 have H0:=hid ((Hd.refl w).row_nilS (E:=3) (size:=1))
 obtain ⟨i0,hi0,hz0,hs0,hy0⟩:=info_I
 have Hi0:=hid hi0
 have Hz0:=hid hz0
 have Hs0:=hid hs0
 have Hy0:=hid hy0
 clear h hl hi0 hz0 hs0 hy0
 go_enter Try.func95,Try.ntmps95
 go_wp2_with fail
 go_loopw [5,10] (fun u i wr=>∃ (j:Nat),j ≤ len ∧ i = .int .i64 j ∧ Hid (Hd w wr [RowR 3 1 u j (nums .i64 (kKeys (es.take j)))])) (fun _ i _=>len - (intOf i).toNat)
 case atStart=>exact ⟨0,Nat.zero_le _,rfl,H0⟩
 case round =>
  clear H0
  obtain ⟨j,hj,rfl,HB⟩:=hrel
  obtain ⟨wo,hwo⟩:∃ wo:World,wo = wr:=⟨_,rfl⟩
  rw [← hwo] at HB ⊢
  clear hwo wr
  by_cases hlt:j < len
  · have hd1:decide ((j:Int) < (len:Int)) = true:=by simp; omega
    have hd1':decide (j < len) = true:=by simp; omega
    have hml:j < es.length:=by rw [← HL.out]; omega
    obtain ⟨⟨a,k,x,y⟩,he⟩:∃ e,es[j]? = some e:=⟨es[j],List.getElem?_eq_getElem hml⟩
    obtain ⟨g2,o,rfl,hc⟩:=(H.out.later HB.out.below) j _ he
    have d0:=hc 0 _ rfl
    have d1:=hc 1 _ rfl
    have d2:=hc 2 _ rfl
    have d3:=hc 3 _ rfl
    rw [Nat.add_zero] at d0
    have HW:=hid (keys_step he)
    have zm0:(0:Int) ≤ (j:Int):=by omega
    have zm1:(j:Int) < (len:Int):=by omega
    clear hc he hml
    go_wp2_with fail
    refine (key_calls a k x y _).mono ?_
    rintro e w2 ⟨rfl,hb⟩
    have H2:=hid (HB.out.al.still hb)
    clear hb d0 d1 d2 d3
    go_wp2_with (at_builtin; refine append_num (k:=.i64) Try.underlying33 Hi0.out Hz0.out Hs0.out Hy0.out (by decide) rfl (.tmp 14) (.tmp 18) rfl H2.out (by rfl) k (by rfl) (by omega) ?_; intro g3 c3 w3 h3; have H3:=hid h3; clear h3)
    go_roundw
    case rel=>exact ⟨j + 1,by omega,by go_num,hid (by rw [HW.out]; exact H3.out)⟩
    case measure=>simp [intOf]; omega
  · obtain rfl:j = len:=by omega
    have hd1:decide ((j:Int) < (j:Int)) = false:=by simp
    obtain ⟨ua,uc,rfl⟩:=HB.out.row_form
    clear hlt
    go_wp2_with fail
    go_ret
    refine ⟨_,rfl,?_⟩
    have:=HB.out
    rwa [List.take_of_length_le (by rw [HL.out]; exact Nat.le_refl _)] at this

set_option maxRecDepth 100000 in
set_option maxHeartbeats 8000000 in
theorem rkeys_calls {es:List En} {v:Value} {w:World} (h:LaAt w v es) (hm:es.length ≤ 900) :
 Calls Try.prog 77 #[v] w fun e w'=>∃ u,e = .returned u ∧ NsAt w' u (kKeys es) ∧ Below w.heap.size w w':=by
 obtain ⟨ad,cap,rfl,hat,_⟩:=h.ex
 have H:=hid hat
 obtain ⟨len,hl⟩:∃ len,len = es.length:=⟨_,rfl⟩
 rw [← hl] at hm ⊢
 have HL:=hid hl
 have H0:=hid ((Hd.refl w).row_new (E:=3))
 obtain ⟨i0,hi0,hz0,hs0,hy0⟩:=info_I
 have Hi0:=hid hi0
 have Hz0:=hid hz0
 have Hs0:=hid hs0
 have Hy0:=hid hy0
 clear h hl hat hi0 hz0 hs0 hy0
 go_enter Try.func77,Try.ntmps77
 go_wp2_with fail
 go_loopw [3,4] (fun u i wr=>∃ (j:Nat),j ≤ len ∧ i = .int .i64 j ∧ Hid (Hd w wr [RowR 3 1 u j (nums .i64 (kKeys (es.take j)))])) (fun _ i _=>len - (intOf i).toNat)
 case atStart=>exact ⟨0,Nat.zero_le _,rfl,H0⟩
 case round =>
  clear H0
  obtain ⟨j,hj,rfl,HB⟩:=hrel
  obtain ⟨wo,hwo⟩:∃ wo:World,wo = wr:=⟨_,rfl⟩
  rw [← hwo] at HB ⊢
  clear hwo wr
  by_cases hlt:j < len
  · have hd1:decide ((j:Int) < (len:Int)) = true:=by simp; omega
    have hd1':decide (j < len) = true:=by simp; omega
    have hml:j < es.length:=by rw [← HL.out]; omega
    obtain ⟨⟨a,k,x,y⟩,he⟩:∃ e,es[j]? = some e:=⟨es[j],List.getElem?_eq_getElem hml⟩
    obtain ⟨g2,o,rfl,hc⟩:=(H.out.later HB.out.below) j _ he
    have d1:=hc 1 _ rfl
    have HW:=hid (keys_step he)
    have zm0:(0:Int) ≤ (j:Int):=by omega
    have zm1:(j:Int) < (len:Int):=by omega
    clear hc he hml
    go_wp2_with (at_builtin; refine append_num (k:=.i64) Try.underlying33 Hi0.out Hz0.out Hs0.out Hy0.out (by decide) rfl (.tmp 12) (.tmp 18) rfl HB.out (by rfl) k (by rfl) (by omega) ?_; intro g3 c3 w3 h3; have H3:=hid h3; clear h3)
    go_roundw
    case rel=>exact ⟨j + 1,by omega,by go_num,hid (by rw [HW.out]; exact H3.out)⟩
    case measure=>simp [intOf]; omega
  · obtain rfl:j = len:=by omega
    have hd1:decide ((j:Int) < (j:Int)) = false:=by simp
    obtain ⟨ua,uc,rfl⟩:=HB.out.row_form
    clear hlt
    go_wp2_with fail
    go_ret
    have h2:=HB.out
    rw [List.take_of_length_le (by rw [HL.out]; exact Nat.le_refl _)] at h2
    exact ⟨_,rfl,h2.row_ns (by rw [HL.out]; simp [kKeys]),h2.below⟩
end Go.Proofs.Ytpcfmafokkffgaa
namespace Go.Proofs.Ytpcfmafokkffgaa
open Go.RowKit

/-- A cache, or a list of the document's, in a block of its own. -/
def CaR (v:Value) (es:List En):Res:=fun f =>
 (v = .slice none 0 0 ∧ es = [] ∧ f = fun _=>none) ∨
 ∃ g o cap cur E,v = .slice (some ⟨g,o,none⟩) es.length cap ∧ (∀ (i:Nat) (e:En),es[i]? = some e → ∀ (j:Nat) (u:Value),e.cells[j]? = some u → (cur:Array Value)[o + i * 4 + j]? = some u) ∧ f = fun k=>if k = g then some (.cells cur E (0,0)) else none

section
variable {W w w':World} {Rs:List Res} {es es':List En} {v:Value} {ga gk gx gy:Int} {b:Bool}
theorem Hd.ca (h:Hd W w (CaR v es::Rs)):CaAt w v es:=by
 obtain ⟨f,hR,hf,_⟩:=h.open
 rcases hR with ⟨rfl,rfl,_⟩ | ⟨g,o,cap,cur,E,rfl,hc,rfl⟩
 · exact CaAt.nil
 · refine ⟨_,cap,rfl,fun i e hi=>⟨g,o,rfl,fun j u hj=>?_⟩,fun h=>(by cases h)⟩
   rw [cell_of_heap (hf g (.cells cur E (0,0)) (by simp))]
   exact hc i e hi j u hj
theorem Hd.la (h:Hd W w (CaR v es::Rs)):LaAt w v es:=by
 obtain ⟨ad,cap,e,h1,h2⟩:=h.ca.ex
 exact ⟨ad,cap,e,h1,h2⟩
theorem Hd.addCa {ad:Option Addr} {cap:Nat} (h:Hd W w Rs) (hb:Below w.heap.size w w') (hc:EnAt w' ad es) (h0:ad = none → cap = 0 ∧ es = []) (hn:NewSl w w' (.slice ad es.length cap)):Hd W w' (CaR (.slice ad es.length cap) es::Rs):=by
 cases ad with
 | none =>
  obtain ⟨rfl,rfl⟩:=h0 rfl
  exact h.add hb (fun _=>none) (.inl ⟨rfl,rfl,rfl⟩) (fun k o hk=>by cases hk) (fun k hk=>absurd rfl hk)
 | some a =>
  obtain ⟨ad2,n2,c2,e,h1⟩:=hn
  cases e
  obtain ⟨g,o,cur,E,rfl,hg,hcur⟩:=h1 _ rfl
  refine h.add hb (fun k=>if k = g then some (.cells cur E (0,0)) else none) (.inr ⟨g,o,cap,cur,E,rfl,fun i e hi j u hj=>?_,rfl⟩) (fun k o hk=>?_) (fun k hk=>?_)
  · obtain ⟨g2,o2,ha,hcl⟩:=hc i e hi
    cases ha
    have:=hcl j u hj
    rwa [cell_of_heap hcur] at this
  · dsimp only at hk
    split at hk
    · rename_i e1; subst e1; rw [hcur]; exact hk
    · cases hk
  · split at hk
    · rename_i e1; subst e1; exact hg
    · exact absurd rfl hk
theorem Hd.addCaAt (h:Hd W w Rs) (hb:Below w.heap.size w w') (hc:CaAt w' v es) (hn:NewSl w w' v):∃ ad cap,v = .slice ad es.length cap ∧ Hd W w' (CaR (.slice ad es.length cap) es::Rs):=by
 obtain ⟨ad,cap,rfl,h1,h0⟩:=hc.ex
 exact ⟨ad,cap,rfl,h.addCa hb h1 h0 hn⟩
theorem Hd.addCaNil (h:Hd W w Rs):Hd W w (CaR (.slice none 0 0) []::Rs):=h.add (Below.refl _ _) (fun _=>none) (.inl ⟨rfl,rfl,rfl⟩) (fun k o hk=>by cases hk) (fun k hk=>absurd rfl hk)

theorem put16_is (a k x y:Int) (hk:kPut es ⟨a,k,x,y⟩ = (es',⟨ga,gk,gx,gy⟩,b)) (hr:Rises es) (hm:es.length ≤ 900) (hc:CaAt w v es) (h:Hd W w Rs) :
 Calls Try.prog 88 #[.agg #[v],.agg #[.int .i64 a,.int .i64 k,.int .u64 x,.int .u64 y]] w fun e' w'=>∃ ad cap,e' = .returned (.tuple #[.agg #[.slice ad es'.length cap],.agg #[.int .i64 ga,.int .i64 gk,.int .u64 gx,.int .u64 gy],.bool b]) ∧ Hd W w' (CaR (.slice ad es'.length cap) es'::Rs):=by
 refine (put16_calls a k x y hr hc hm).mono ?_
 rw [hk]
 rintro e w' ⟨v',rfl,h1,h2,h3⟩
 obtain ⟨ad,cap,rfl,hd⟩:=h.addCaAt h3 h1 h2
 exact ⟨ad,cap,rfl,hd⟩
theorem rput16_is (a k x y:Int) (hk:rPut es ⟨a,k,x,y⟩ = (es',⟨ga,gk,gx,gy⟩,b)) (hr:Rises es) (hm:es.length ≤ 800) (hc:LaAt w v es) (h:Hd W w Rs) :
 Calls Try.prog 75 #[v,.agg #[.int .i64 a,.int .i64 k,.int .u64 x,.int .u64 y]] w fun e' w'=>∃ ad cap,e' = .returned (.tuple #[.slice ad es'.length cap,.agg #[.int .i64 ga,.int .i64 gk,.int .u64 gx,.int .u64 gy],.bool b]) ∧ Hd W w' (CaR (.slice ad es'.length cap) es'::Rs):=by
 refine (rput16_calls a k x y hr hc hm).mono ?_
 rw [hk]
 rintro e w' ⟨v',rfl,h1,h2,h3⟩
 obtain ⟨ad,cap,rfl,h4,h0⟩:=h1.ex
 exact ⟨ad,cap,rfl,h.addCa h3 h4 h0 h2⟩
theorem get16_is (n:Int) (hk:kGet es n = (⟨ga,gk,gx,gy⟩,b)) (hr:Rises es) (hm:es.length ≤ 900) (hc:CaAt w v es) (h:Hd W w Rs) :
 Calls Try.prog 89 #[.agg #[v],.int .i64 n] w fun e w'=>e = .returned (.tuple #[.agg #[.int .i64 ga,.int .i64 gk,.int .u64 gx,.int .u64 gy],.bool b]) ∧ Hd W w' Rs:=by
 refine (get16_calls n hr hc (by omega)).mono ?_
 rw [hk]
 exact fun e w' h'=>⟨h'.1,h.still h'.2⟩
theorem rget16_is (n:Int) (hk:rGet es n = (⟨ga,gk,gx,gy⟩,b)) (hm:es.length ≤ 900) (hc:LaAt w v es) (h:Hd W w Rs) :
 Calls Try.prog 71 #[v,.int .i64 n] w fun e w'=>e = .returned (.tuple #[.agg #[.int .i64 ga,.int .i64 gk,.int .u64 gx,.int .u64 gy],.bool b]) ∧ Hd W w' Rs:=by
 obtain ⟨ad,cap,rfl,hat,_⟩:=hc.ex
 refine (rget_calls n hat rfl hm).mono ?_
 rw [hk]
 exact fun e w' h'=>⟨h'.1,h.still h'.2⟩
theorem rkeys16_is (hm:es.length ≤ 900) (hc:LaAt w v es) (h:Hd W w Rs) :
 Calls Try.prog 77 #[v] w fun e w'=>∃ ad cap,e = .returned (.slice ad (kKeys es).length cap) ∧ IntsAt w' ad (kKeys es) ∧ Below w.heap.size w w' ∧ Hd W w' Rs:=by
 refine (rkeys_calls hc hm).mono ?_
 rintro e w' ⟨u,rfl,h1,h2⟩
 obtain ⟨ad,cap,rfl,h3⟩:=h1.ex
 exact ⟨ad,cap,rfl,h3,h2,h.still h2⟩
end

end Go.Proofs.Ytpcfmafokkffgaa
