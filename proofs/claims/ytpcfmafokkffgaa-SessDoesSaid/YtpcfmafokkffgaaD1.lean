/-
  Walks and laws that the proof stands on, one behind another: Pure Heap TermA TermB Sto Eq TermC May Row Inv Reg. For every input.
-/
import Derived.Test.YtpcfmafokkffgaaProg
import Derived.WalkKit
import Derived.BigQuiet
import Derived.Deep.QuietTactic
import Derived.WalkLawsBesides
import Derived.Handy
import Derived.Deep.RegionLaw
import Derived.Deep.AppendLies
namespace Go.Proofs.Ytpcfmafokkffgaa

structure T where
 k:Int
 s:ByteArray
 n:Int
 a:Int
 b:Int
 c:Int

theorem T.ext' {x y:T} (h1:x.k = y.k) (h2:x.s = y.s) (h3:x.n = y.n) (h4:x.a = y.a) (h5:x.b = y.b) (h6:x.c = y.c):x = y:=by
 cases x; cases y; simp_all

instance:DecidableEq T:=fun x y =>
 if h:x.k = y.k ∧ x.s = y.s ∧ x.n = y.n ∧ x.a = y.a ∧ x.b = y.b ∧ x.c = y.c then
  isTrue (T.ext' h.1 h.2.1 h.2.2.1 h.2.2.2.1 h.2.2.2.2.1 h.2.2.2.2.2)
 else isFalse fun e=>h (by subst e; exact ⟨rfl,rfl,rfl,rfl,rfl,rfl⟩)

def zeroT:T:=⟨0,⟨#[]⟩,0,0,0,0⟩

/-- How many parts a kind has. -/
def many (k:Int):Nat :=
 if k = 3 ∨ k = 5 ∨ k = 9 then 1 else if k = 4 ∨ k = 6 ∨ k = 7 ∨ k = 8 ∨ k = 11 then 2 else if k = 10 then 3 else 0

def T.parts (t:T):List Int:=[t.a,t.b,t.c].take (many t.k)

theorem many_le (k:Int):many k ≤ 3:=by unfold many; split <;> (try split) <;> (try split) <;> omega

theorem parts_length (t:T):t.parts.length = many t.k:=by
 have:=many_le t.k
 simp only [T.parts,List.length_take,List.length_cons,List.length_nil]
 omega

/-- A term with what its kind has alone. -/
def T.only (t:T):T :=
 { k:=t.k,s:=if t.k = 1 then t.s else ⟨#[]⟩,n:=if t.k = 2 ∨ t.k = 9 ∨ t.k = 10 then t.n else 0,
   a:=if 1 ≤ many t.k then t.a else 0,b:=if 2 ≤ many t.k then t.b else 0,c:=if 3 ≤ many t.k then t.c else 0 }

/-- May a term be, where there are so many? -/
def T.may (len:Int) (t:T):Prop :=
 1 ≤ t.k ∧ t.k ≤ 11 ∧ t = t.only ∧ t.s.size ≤ 1000 ∧ ¬ (t.k = 4 ∧ t.b < t.a) ∧ ∀ p ∈ t.parts,1 ≤ p ∧ p ≤ len

instance (len:Int) (t:T):Decidable (t.may len):=by unfold T.may; exact inferInstance

/-- The place of a term. -/
def find (t:T):List T → Option Nat
 | []=>none
 | u::L=>if u = t then some 0 else (find t L).map (· + 1)

theorem find_some {t:T}:∀ {L:List T} {i:Nat},find t L = some i → L[i]? = some t
 | [],_,h=>by simp [find] at h
 | u::L,i,h=>by
  simp only [find] at h
  split at h
  · rename_i e
    simp only [Option.some.injEq] at h
    subst h; subst e; rfl
  · cases hf:find t L with
    | none=>simp [hf] at h
    | some j =>
     simp only [hf,Option.map_some,Option.some.injEq] at h
     subst h
     simpa using find_some hf

theorem find_none {t:T}:∀ {L:List T},find t L = none ↔ t ∉ L
 | []=>by simp [find]
 | u::L=>by
  have ih:=@find_none t L
  simp only [find]
  split
  · rename_i e; simp [e]
  · rename_i e
    simp only [Option.map_eq_none_iff,ih,List.mem_cons,not_or]
    exact ⟨fun h=>⟨fun e'=>e e'.symm,h⟩,fun h=>h.2⟩

theorem find_lt {t:T} {L:List T} {i:Nat} (h:find t L = some i):i < L.length :=
 (List.getElem?_eq_some_iff.1 (find_some h)).1

/-- What is put, with room for m: the name; what is wrong; the terms then. -/
def put (m:Int) (L:List T) (t:T):Int × Int × List T :=
 if t.may L.length then
  match find t L with
  | some i=>((i:Int) + 1,0,L)
  | none=>if m ≤ L.length then (0,4,L) else ((L.length:Int) + 1,0,L ++ [t])
 else (0,1,L)

/-- The term of a name. -/
def get (L:List T) (x:Int):Option T:=if 1 ≤ x then L[(x - 1).toNat]? else none
def getT (L:List T) (x:Int):T:=(get L x).getD zeroT
def getB (L:List T) (x:Int):Bool:=(get L x).isSome

/-- How deep a term is, of parts that are so deep. -/
def deepest (ds:List Int) (ps:List Int):Int:=ps.foldl (fun m p=>max m (ds.getD p.toNat 0)) 0
/-- How deep the terms are, behind 0. -/
def depths (L:List T):List Int:=L.foldl (fun ds t=>ds ++ [deepest ds t.parts + 1]) [0]
def depth (L:List T) (x:Int):Int:=if 1 ≤ x ∧ x ≤ L.length then (depths L).getD x.toNat 0 else 0

theorem depths_snoc (L:List T) (t:T):depths (L ++ [t]) = depths L ++ [deepest (depths L) t.parts + 1]:=by
 simp [depths,List.foldl_append]

theorem depths_length (L:List T):(depths L).length = L.length + 1:=by
 have h:∀ (L:List T) (ds:List Int),(L.foldl (fun ds t=>ds ++ [deepest ds t.parts + 1]) ds).length = ds.length + L.length:=by
  intro L
  induction L with
  | nil=>intro ds; simp
  | cons t L ih=>intro ds; simp only [List.foldl_cons,ih,List.length_append,List.length_cons,List.length_nil]; omega
 rw [depths,h]; simp; omega

/-- A store as puts make it: each term may be where it came, none twice. -/
structure Good (L:List T):Prop where
 may:∀ (i:Nat) (t:T),L[i]? = some t → t.may i
 nodup:∀ (i j:Nat) (t:T),L[i]? = some t → L[j]? = some t → i = j

theorem good_nil:Good []:=⟨fun i t h=>by simp at h,fun i j t h=>by simp at h⟩

theorem T.may_mono {t:T} {m n:Int} (h:t.may m) (hmn:m ≤ n):t.may n :=
 ⟨h.1,h.2.1,h.2.2.1,h.2.2.2.1,h.2.2.2.2.1,fun p hp=>⟨(h.2.2.2.2.2 p hp).1,Int.le_trans (h.2.2.2.2.2 p hp).2 hmn⟩⟩

theorem Good.snoc {L:List T} {t:T} (h:Good L) (hm:t.may L.length) (hn:t ∉ L):Good (L ++ [t]):=by
 refine ⟨fun i u hi=>?_,fun i j u hi hj=>?_⟩
 · rw [List.getElem?_append] at hi
   split at hi
   · exact h.may i u hi
   · rename_i hlt
     have:i - L.length = 0:=by
      have:=(List.getElem?_eq_some_iff.1 hi).1
      simp at this; omega
     simp only [this,List.getElem?_cons_zero,Option.some.injEq] at hi
     rw [← hi]
     exact T.may_mono hm (by omega)
 · have key:∀ i,(L ++ [t])[i]? = some u → (i < L.length ∧ L[i]? = some u) ∨ (i = L.length ∧ u = t):=by
    intro i hi
    rw [List.getElem?_append] at hi
    split at hi
    · rename_i hlt; exact .inl ⟨hlt,hi⟩
    · rename_i hlt
      have h0:i - L.length = 0:=by
       have:=(List.getElem?_eq_some_iff.1 hi).1
       simp at this; omega
      simp only [h0,List.getElem?_cons_zero,Option.some.injEq] at hi
      exact .inr ⟨by omega,hi.symm⟩
   rcases key i hi with ⟨h1,h2⟩ | ⟨h1,h2⟩ <;> rcases key j hj with ⟨h3,h4⟩ | ⟨h3,h4⟩
   · exact h.nodup i j u h2 h4
   · subst h4; exact absurd (List.mem_of_getElem? h2) hn
   · subst h2; exact absurd (List.mem_of_getElem? h4) hn
   · omega

end Go.Proofs.Ytpcfmafokkffgaa
namespace Go.Proofs.Ytpcfmafokkffgaa
open Go.RowKit

/-- A part of the heap. -/
abbrev Frag:=Nat → Option Obj
/-- A thing in memory: what its part of the heap looks like. -/
abbrev Res:=Frag → Prop

def FragIn (f:Frag) (w:World):Prop:=∀ k o,f k = some o → w.heap[k]? = some o

/-- The things Rs lie in w, each apart from the others and from the blocks 'used'. -/
def Lies (w:World):(Nat → Prop) → List Res → Prop
 | _,[]=>True
 | used,R::Rs=>∃ f:Frag,R f ∧ FragIn f w ∧ (∀ k,f k ≠ none → ¬ used k) ∧ Lies w (fun k=>used k ∨ f k ≠ none) Rs

theorem Lies.congr {w:World}:∀ {Rs:List Res} {u v:Nat → Prop},(∀ k,v k → u k) → Lies w u Rs → Lies w v Rs
 | [],_,_,_,_=>trivial
 | _::_,_,_,huv,⟨f,hR,hf,hd,hr⟩=>⟨f,hR,hf,fun k hk hv=>hd k hk (huv k hv),Lies.congr (fun k hk=>hk.imp (huv k) id) hr⟩

theorem Lies.swap {w:World} {u:Nat → Prop} {A B:Res} {Rs:List Res} (h:Lies w u (A::B::Rs)):Lies w u (B::A::Rs):=by
 obtain ⟨f,hA,hf,hd,g,hB,hg,he,hr⟩:=h
 refine ⟨g,hB,hg,fun k hk hu=>he k hk (.inl hu),f,hA,hf,fun k hk hu=>?_,Lies.congr (fun k hk=>?_) hr⟩
 · rcases hu with hu | hu
   · exact hd k hk hu
   · exact he k hu (.inr hk)
 · rcases hk with (hk | hk) | hk
   · exact .inl (.inl hk)
   · exact .inr hk
   · exact .inl (.inr hk)

theorem Lies.cons_mono {w:World} {u:Nat → Prop} {A:Res} {Rs Ss:List Res} (h:∀ v,Lies w v Rs → Lies w v Ss) (hA:Lies w u (A::Rs)):Lies w u (A::Ss):=by
 obtain ⟨f,h1,h2,h3,h4⟩:=hA
 exact ⟨f,h1,h2,h3,h _ h4⟩

/-- What lies apart from what has turned still lies there. -/
theorem Lies.keep {w w':World}:∀ {Rs:List Res} {u:Nat → Prop},(∀ k,¬ u k → k < w.heap.size → w'.heap[k]? = w.heap[k]?) → Lies w u Rs → Lies w' u Rs
 | [],_,_,_=>trivial
 | _::_,u,hw,⟨f,hR,hf,hd,hr⟩=>by
  refine ⟨f,hR,fun k o hk=>?_,hd,Lies.keep (fun k hk hlt=>hw k (fun hu=>hk (.inl hu)) hlt) hr⟩
  have hh:=hf k o hk
  have hlt:k < w.heap.size:=(Array.getElem?_eq_some_iff.1 hh).1
  rw [hw k (fun hu=>hd k (by rw [hk]; simp) hu) hlt]
  exact hh

/-- More may be counted as used, if it is new. -/
theorem Lies.grow {w:World}:∀ {Rs:List Res} {u v:Nat → Prop},(∀ k,v k → u k ∨ w.heap.size ≤ k) → Lies w u Rs → Lies w v Rs
 | [],_,_,_,_=>trivial
 | _::_,u,v,huv,⟨f,hR,hf,hd,hr⟩=>by
  refine ⟨f,hR,hf,fun k hk hv=>?_,Lies.grow (fun k hk=>?_) hr⟩
  · rcases huv k hv with h | h
    · exact hd k hk h
    · cases hfk:f k with
      | none=>exact hk hfk
      | some o=>have:=(Array.getElem?_eq_some_iff.1 (hf k o hfk)).1; omega
  · rcases hk with hk | hk
    · rcases huv k hk with h | h
      · exact .inl (.inl h)
      · exact .inr h
    · exact .inl (.inr hk)

structure Hd (W w:World) (Rs:List Res):Prop where
 below:Below W.heap.size W w
 lies:Lies w (fun k=>k < W.heap.size) Rs

section
variable {W w w':World} {A B C D E R S:Res} {Rs Ss:List Res}

theorem Hd.refl (W:World):Hd W W []:=⟨Below.refl _ _,trivial⟩

theorem Hd.swap (h:Hd W w (A::B::Rs)):Hd W w (B::A::Rs):=⟨h.below,h.lies.swap⟩
theorem Hd.under (h:∀ v,Lies w v Rs → Lies w v Ss) (k:Hd W w (A::Rs)):Hd W w (A::Ss):=⟨k.below,Lies.cons_mono h k.lies⟩
/-- The third comes first. -/
theorem Hd.third (h:Hd W w (A::B::C::Rs)):Hd W w (C::A::B::Rs):=(h.under fun _=>Lies.swap).swap
theorem Hd.drop (h:Hd W w (A::Rs)):Hd W w Rs:=by
 obtain ⟨hb,f,_,_,_,hr⟩:=h
 exact ⟨hb,Lies.congr (fun _=>.inl) hr⟩
/-- A call that leaves all that was there as it was. -/
theorem Hd.still (h:Hd W w Rs) (hb:Below w.heap.size w w'):Hd W w' Rs :=
 ⟨h.below.trans (hb.mono h.below.size),h.lies.keep fun k _ hk=>hb.block k hk⟩

/-- THE FIRST THING IS OPENED: its part of the heap; and what is to be shown to shut it again. -/
theorem Hd.open (h:Hd W w (R::Rs)):∃ f:Frag,R f ∧ FragIn f w ∧ (∀ k,f k ≠ none → W.heap.size ≤ k ∧ k < w.heap.size) ∧
 ∀ (w':World) (S:Res) (g:Frag),S g → FragIn g w' → (∀ k,g k ≠ none → f k ≠ none ∨ w.heap.size ≤ k) → w'.os = w.os → w'.tape = w.tape → w'.output = w.output → w.heap.size ≤ w'.heap.size →
  (∀ k,k < w.heap.size → f k = none → w'.heap[k]? = w.heap[k]?) → Hd W w' (S::Rs):=by
 obtain ⟨hb,f,hR,hf,hd,hr⟩:=h
 have hlt:∀ k,f k ≠ none → k < w.heap.size:=fun k hk=>by
  cases hfk:f k with
  | none=>exact absurd hfk hk
  | some o=>exact (Array.getElem?_eq_some_iff.1 (hf k o hfk)).1
 refine ⟨f,hR,hf,fun k hk=>⟨Nat.le_of_not_lt (hd k hk),hlt k hk⟩,?_⟩
 intro w' S g hS hg hgk h1 h2 h3 h4 h5
 refine ⟨⟨h1.trans hb.os,h2.trans hb.tape,h3.trans hb.output,Nat.le_trans hb.size h4,fun k hk=>?_⟩,g,hS,hg,fun k hk hlt'=>?_,?_⟩
 · rw [h5 k (Nat.lt_of_lt_of_le hk hb.size) (Classical.byContradiction fun hne=>hd k hne hk)]
   exact hb.block k hk
 · rcases hgk k hk with h | h
   · exact hd k h hlt'
   · have:=hb.size; omega
 · have hg':Lies w (fun k=>k < W.heap.size ∨ f k ≠ none ∨ g k ≠ none) Rs:=by
    refine Lies.grow (fun k hk=>?_) hr
    rcases hk with hk | hk | hk
    · exact .inl (.inl hk)
    · exact .inl (.inr hk)
    · exact (hgk k hk).imp (fun h=>.inr h) id
   have hk':Lies w' (fun k=>k < W.heap.size ∨ f k ≠ none ∨ g k ≠ none) Rs :=
    hg'.keep fun k hk hlt=>h5 k hlt (Classical.byContradiction fun hne=>hk (.inr (.inl hne)))
   exact hk'.congr fun k hk=>hk.imp id .inr

/-- A new thing, in new blocks. -/
theorem Hd.add (h:Hd W w Rs) (hb:Below w.heap.size w w') (g:Frag) (hS:S g) (hg:FragIn g w') (hn:∀ k,g k ≠ none → w.heap.size ≤ k):Hd W w' (S::Rs):=by
 refine ⟨(h.still hb).below,g,hS,hg,fun k hk hlt=>?_,?_⟩
 · have:=hn k hk; have:=h.below.size; omega
 · have h1:Lies w (fun k=>k < W.heap.size ∨ g k ≠ none) Rs:=h.lies.grow fun k hk=>hk.imp id (hn k)
   exact h1.keep fun k _ hk=>hb.block k hk
end

theorem hid {p:Prop} (h:p):Hid p:=h
theorem bcell {W w1:World} (hb:Below W.heap.size W w1):(∀ b o,b < W.heap.size → w1.cell? ⟨b,o,none⟩ = W.cell? ⟨b,o,none⟩) ∧ (∀ b o,b < W.heap.size → w1.frozen? ⟨b,o,none⟩ = W.frozen? ⟨b,o,none⟩) :=
 ⟨fun b o h=>hb.cell (p:=⟨b,o,none⟩) h,fun b o h=>hb.frozen (p:=⟨b,o,none⟩) h⟩
theorem cell_of_heap {w:World} {b:Nat} {cs:Array Value} {t:TypeId} {fr:Nat × Nat} (h:w.heap[b]? = some (.cells cs t fr)) (j:Nat):w.cell? ⟨b,j,none⟩ = cs[j]?:=by
 simp [World.cell?,h]
theorem frozen_of_heap {w:World} {b:Nat} {cs:Array Value} {t:TypeId} (h:w.heap[b]? = some (.cells cs t (0,0))) (j:Nat):w.frozen? ⟨b,j,none⟩ = false:=by
 simp [World.frozen?,h]
theorem heap_at {w:World} {o:Obj} {k:Nat} (h:k = w.heap.size):(w.alloc o).heap[k]? = some o:=by subst h; exact heap_alloc_new w o
theorem cells_at {w:World} {k:Nat} {cs cs':Array Value} {t:TypeId} {fr:Nat × Nat} (h:w.heap[k]? = some (.cells cs t fr)) (e:cs = cs'):w.heap[k]? = some (.cells cs' t fr):=by rw [h,e]

/-- A world in which all that W held is as it was. -/
structure Later (W:World) where
 w:World
 below:Below W.heap.size W w

instance (W:World):Nonempty (Later W):=⟨⟨W,Below.refl _ _⟩⟩

/-- A REGION THAT DRAWS ITS ORDER, OF READS AND OF CALLS THAT LEAVE WHAT IS THERE AS IT WAS: one walk in the text's order. -/
theorem wp_region_calm {P:Program} {id:Nat} {Q:Exit → Act → World → Prop} {a:Act} {W:World} {l:List Oper} (hm:P.follows .mixedOrders = true) (hB:Region.lexB .any l.toArray = true)
 (h:wpQuiet P l.toArray (fun w'=>∃ x:Later W,w' = x.w) (fun a'=>∀ w',(∃ x:Later W,w' = x.w) → Q .normal a' w') l a):(Code.region id l.toArray true).wp P Q a W :=
 wp_region_quiet (C:=fun w'=>∃ x:Later W,w' = x.w) hm hB ⟨⟨W.drew,(Below.refl _ _).drew⟩,rfl⟩ (by simpa using h)

theorem Calls.calm {P:Program} {f:FuncId} {args:Array Value} {W:World} {x:Later W} {v:Value}
 (h:Calls P f args x.w fun e w'=>e = .returned v ∧ Below x.w.heap.size x.w w'):Calls P f args x.w fun e w''=>e = .returned v ∧ ∃ y:Later W,w'' = y.w :=
 h.mono fun _ w' ⟨he,hb⟩=>⟨he,⟨w',x.below.trans (hb.mono x.below.size)⟩,rfl⟩
theorem Calls.calm_same {P:Program} {f:FuncId} {args:Array Value} {W:World} {x:Later W} {v:Value}
 (h:Calls P f args x.w fun e w'=>e = .returned v ∧ x.w = w'):Calls P f args x.w fun e w''=>e = .returned v ∧ ∃ y:Later W,w'' = y.w :=
 h.mono fun _ _ ⟨he,hb⟩=>⟨he,x,hb.symm⟩
theorem Later.cell {W:World} (x:Later W) {a:Addr} {v:Value} (h:W.cell? a = some v):x.w.cell? a = some v:=(x.below.cell (World.block_lt_of_cell? W a h)).trans h
end Go.Proofs.Ytpcfmafokkffgaa
namespace Go.Proofs.Ytpcfmafokkffgaa
open Go.RowKit

def ints (xs:List Int):List Value:=xs.map (Value.int .i64)

/-- New ints, in a block of their own; or none. -/
structure IntsNew (w w':World) (a:Option Addr) (xs:List Int):Prop where
 below:Below w.heap.size w w'
 lies:(xs = [] ∧ a = none) ∨ ∃ b,a = some ⟨b,0,none⟩ ∧ w.heap.size ≤ b ∧ w'.heap[b]? = some (.cells (ints xs).toArray 3 (0,0))

theorem ret_slice {a:Option Addr} {n m:Nat} (h:n = m):Ending.returned (.slice a n n) = .returned (.slice a m m):=by rw [h]

set_option maxHeartbeats 1000000 in
theorem parts_calls (k:Int) (s:ByteArray) (n a b c:Int) (w:World) :
 Calls Try.prog 58 #[.agg #[.int .i64 k,.string s,.int .u64 n,.int .i64 a,.int .i64 b,.int .i64 c]] w fun e w' =>
  ∃ ad,e = .returned (.slice ad (many k) (many k)) ∧ IntsNew w w' ad (T.parts ⟨k,s,n,a,b,c⟩):=by
 go_enter Try.func58,Try.ntmps58
 go_wp2
 all_goals go_ret
 all_goals simp only [beq_iff_eq,beq_eq_false_iff_ne,ne_eq] at *
 all_goals
  first
   | (refine ⟨some ⟨w.heap.size + 1,0,none⟩,ret_slice (by simp [many, *]),((Below.refl _ _).alloc (Nat.le_refl _) _).alloc (by simp) _,.inr ⟨w.heap.size + 1,rfl,by omega,cells_at (heap_at (by simp)) ?_⟩⟩; simp [T.parts,many,ints, *]; done)
   | (refine ⟨none,ret_slice (by simp [many, *]),(Below.refl _ _).alloc (Nat.le_refl _) _,.inl ⟨?_,rfl⟩⟩; simp [T.parts,many, *]; done)
end Go.Proofs.Ytpcfmafokkffgaa
namespace Go.Proofs.Ytpcfmafokkffgaa
open Go.RowKit

def T.val (t:T):Value:=.agg #[.int .i64 t.k,.string t.s,.int .u64 t.n,.int .i64 t.a,.int .i64 t.b,.int .i64 t.c]
theorem parts_calls0 (k:Int) (s:ByteArray) (n a b c:Int) (w:World) (hm:many k = 0) :
 Calls Try.prog 58 #[.agg #[.int .i64 k,.string s,.int .u64 n,.int .i64 a,.int .i64 b,.int .i64 c]] w fun e w' =>
  ∃ ad,e = .returned (.slice ad 0 0) ∧ Below w.heap.size w w':=by
 refine (parts_calls k s n a b c w).mono ?_
 rintro e w' ⟨ad,rfl,hb,_⟩
 exact ⟨ad,by rw [hm],hb⟩
theorem parts_calls1 (k:Int) (s:ByteArray) (n a b c:Int) (w:World) (hm:many k = 1) :
 Calls Try.prog 58 #[.agg #[.int .i64 k,.string s,.int .u64 n,.int .i64 a,.int .i64 b,.int .i64 c]] w fun e w' =>
  ∃ g,e = .returned (.slice (some ⟨g,0,none⟩) 1 1) ∧ Below w.heap.size w w' ∧ w'.cell? ⟨g,0,none⟩ = some (.int .i64 a) ∧ w.heap.size ≤ g:=by
 refine (parts_calls k s n a b c w).mono ?_
 rintro e w' ⟨ad,rfl,hb,hl⟩
 simp only [T.parts,hm,List.take,ints,List.map] at *
 rcases hl with ⟨h,_⟩ | ⟨g,rfl,hg,h⟩
 · simp at h
 · exact ⟨g,rfl,hb,by rw [cell_of_heap h]; rfl,hg⟩
theorem parts_calls2 (k:Int) (s:ByteArray) (n a b c:Int) (w:World) (hm:many k = 2) :
 Calls Try.prog 58 #[.agg #[.int .i64 k,.string s,.int .u64 n,.int .i64 a,.int .i64 b,.int .i64 c]] w fun e w' =>
  ∃ g,e = .returned (.slice (some ⟨g,0,none⟩) 2 2) ∧ Below w.heap.size w w' ∧ w'.cell? ⟨g,0,none⟩ = some (.int .i64 a) ∧ w'.cell? ⟨g,1,none⟩ = some (.int .i64 b) ∧ w.heap.size ≤ g:=by
 refine (parts_calls k s n a b c w).mono ?_
 rintro e w' ⟨ad,rfl,hb,hl⟩
 simp only [T.parts,hm,List.take,ints,List.map] at *
 rcases hl with ⟨h,_⟩ | ⟨g,rfl,hg,h⟩
 · simp at h
 · exact ⟨g,rfl,hb,by rw [cell_of_heap h]; rfl,by rw [cell_of_heap h]; rfl,hg⟩
theorem parts_calls3 (k:Int) (s:ByteArray) (n a b c:Int) (w:World) (hm:many k = 3) :
 Calls Try.prog 58 #[.agg #[.int .i64 k,.string s,.int .u64 n,.int .i64 a,.int .i64 b,.int .i64 c]] w fun e w' =>
  ∃ g,e = .returned (.slice (some ⟨g,0,none⟩) 3 3) ∧ Below w.heap.size w w' ∧ w'.cell? ⟨g,0,none⟩ = some (.int .i64 a) ∧ w'.cell? ⟨g,1,none⟩ = some (.int .i64 b) ∧ w'.cell? ⟨g,2,none⟩ = some (.int .i64 c) ∧ w.heap.size ≤ g:=by
 refine (parts_calls k s n a b c w).mono ?_
 rintro e w' ⟨ad,rfl,hb,hl⟩
 simp only [T.parts,hm,List.take,ints,List.map] at *
 rcases hl with ⟨h,_⟩ | ⟨g,rfl,hg,h⟩
 · simp at h
 · exact ⟨g,rfl,hb,by rw [cell_of_heap h]; rfl,by rw [cell_of_heap h]; rfl,by rw [cell_of_heap h]; rfl,hg⟩
set_option maxHeartbeats 1000000 in
theorem only_1 (s:ByteArray) (n a b c:Int) (w:World)   :
 Calls Try.prog 80 #[.agg #[.int .i64 1,.string s,.int .u64 n,.int .i64 a,.int .i64 b,.int .i64 c]] w fun e w' =>
  e = .returned (T.val ⟨1,s,0,0,0,0⟩) ∧ Below w.heap.size w w':=by
 have Hm:Hid (many 1 = 0):=hid rfl
 go_enter Try.func80,Try.ntmps80
 go_wp2_with fail
 refine (parts_calls0 _ _ _ _ _ _ _ Hm.out).mono ?_
 rintro e w1 ⟨ad,rfl,hb⟩
 obtain ⟨hc,hf⟩:=bcell hb
 have hz:=hb.size
 simp at hz hc hf
 go_wp2_with fail
 refine wp_loop_rounds 1 ?_
 rw [rounds_succ]; go_wp2
 refine bodyPost_ret (v:=T.val ⟨1,s,0,0,0,0⟩) (by simp [results,Try.results80,go_sem,T.val,hc]) rfl ⟨rfl,?_⟩
 have hb0:Below w.heap.size w w1:=(((((Below.refl _ _).alloc (Nat.le_refl _) _).alloc (by simp) _).alloc (by simp; omega) _).trans (hb.mono (by simp; omega)))
 clear hc hf
 repeat (first | with_reducible exact hb0 | refine Below.setCell ?_ (by dsimp only; omega) _)

set_option maxHeartbeats 1000000 in
theorem only_2 (s:ByteArray) (n a b c:Int) (w:World)   :
 Calls Try.prog 80 #[.agg #[.int .i64 2,.string s,.int .u64 n,.int .i64 a,.int .i64 b,.int .i64 c]] w fun e w' =>
  e = .returned (T.val ⟨2,⟨#[]⟩,n,0,0,0⟩) ∧ Below w.heap.size w w':=by
 have Hm:Hid (many 2 = 0):=hid rfl
 go_enter Try.func80,Try.ntmps80
 go_wp2_with fail
 refine (parts_calls0 _ _ _ _ _ _ _ Hm.out).mono ?_
 rintro e w1 ⟨ad,rfl,hb⟩
 obtain ⟨hc,hf⟩:=bcell hb
 have hz:=hb.size
 simp at hz hc hf
 go_wp2_with fail
 refine wp_loop_rounds 1 ?_
 rw [rounds_succ]; go_wp2
 refine bodyPost_ret (v:=T.val ⟨2,⟨#[]⟩,n,0,0,0⟩) (by simp [results,Try.results80,go_sem,T.val,hc]) rfl ⟨rfl,?_⟩
 have hb0:Below w.heap.size w w1:=(((((Below.refl _ _).alloc (Nat.le_refl _) _).alloc (by simp) _).alloc (by simp; omega) _).trans (hb.mono (by simp; omega)))
 clear hc hf
 repeat (first | with_reducible exact hb0 | refine Below.setCell ?_ (by dsimp only; omega) _)

set_option maxHeartbeats 1000000 in
theorem only_c (k:Int) (s:ByteArray) (n a b c:Int) (w:World) (hm:many k = 1) (h1:(k == 1) = false) (h2:(k == 2) = false) (h9:(k == 9) = false) (h10:(k == 10) = false) :
 Calls Try.prog 80 #[.agg #[.int .i64 k,.string s,.int .u64 n,.int .i64 a,.int .i64 b,.int .i64 c]] w fun e w' =>
  e = .returned (T.val ⟨k,⟨#[]⟩,0,a,0,0⟩) ∧ Below w.heap.size w w':=by
 have Hm:=hid hm; clear hm
 have i0:∀ (x y z:Option Addr) (w:World),(Instr.index 193 (.agg #[.pointer x,.pointer y,.pointer z]) (.int .i64 0)).run Try.prog w = .ok (.pointer x) w:=fun _ _ _ _=>by kernel_rfl
 go_enter Try.func80,Try.ntmps80
 go_wp2_with fail
 refine (parts_calls1 _ _ _ _ _ _ _ Hm.out).mono ?_
 rintro e w1 ⟨g,rfl,hb,hc0,hg⟩
 obtain ⟨hc,hf⟩:=bcell hb
 have hz:=hb.size
 simp at hz hg hc hf
 go_wp2_with fail
 refine wp_loop_rounds 2 ?_
 rw [rounds_succ]; go_wp2
 rw [rounds_succ]; go_wp2
 refine bodyPost_ret (v:=T.val ⟨k,⟨#[]⟩,0,a,0,0⟩) (by simp [results,Try.results80,go_sem,T.val,hc]) rfl ⟨rfl,?_⟩
 have hb0:Below w.heap.size w w1:=(((((Below.refl _ _).alloc (Nat.le_refl _) _).alloc (by simp) _).alloc (by simp; omega) _).trans (hb.mono (by simp; omega)))
 clear hc hf
 repeat (first | with_reducible exact hb0 | refine Below.setCell ?_ (by dsimp only; omega) _)

set_option maxHeartbeats 1000000 in
theorem only_d (k:Int) (s:ByteArray) (n a b c:Int) (w:World) (hm:many k = 2) (h1:(k == 1) = false) (h2:(k == 2) = false) (h9:(k == 9) = false) (h10:(k == 10) = false) :
 Calls Try.prog 80 #[.agg #[.int .i64 k,.string s,.int .u64 n,.int .i64 a,.int .i64 b,.int .i64 c]] w fun e w' =>
  e = .returned (T.val ⟨k,⟨#[]⟩,0,a,b,0⟩) ∧ Below w.heap.size w w':=by
 have Hm:=hid hm; clear hm
 have i0:∀ (x y z:Option Addr) (w:World),(Instr.index 193 (.agg #[.pointer x,.pointer y,.pointer z]) (.int .i64 0)).run Try.prog w = .ok (.pointer x) w:=fun _ _ _ _=>by kernel_rfl
 have i1:∀ (x y z:Option Addr) (w:World),(Instr.index 193 (.agg #[.pointer x,.pointer y,.pointer z]) (.int .i64 1)).run Try.prog w = .ok (.pointer y) w:=fun _ _ _ _=>by kernel_rfl
 go_enter Try.func80,Try.ntmps80
 go_wp2_with fail
 refine (parts_calls2 _ _ _ _ _ _ _ Hm.out).mono ?_
 rintro e w1 ⟨g,rfl,hb,hc0,hc1,hg⟩
 obtain ⟨hc,hf⟩:=bcell hb
 have hz:=hb.size
 simp at hz hg hc hf
 go_wp2_with fail
 refine wp_loop_rounds 3 ?_
 rw [rounds_succ]; go_wp2
 rw [rounds_succ]; go_wp2
 rw [rounds_succ]; go_wp2
 refine bodyPost_ret (v:=T.val ⟨k,⟨#[]⟩,0,a,b,0⟩) (by simp [results,Try.results80,go_sem,T.val,hc]) rfl ⟨rfl,?_⟩
 have hb0:Below w.heap.size w w1:=(((((Below.refl _ _).alloc (Nat.le_refl _) _).alloc (by simp) _).alloc (by simp; omega) _).trans (hb.mono (by simp; omega)))
 clear hc hf
 repeat (first | with_reducible exact hb0 | refine Below.setCell ?_ (by dsimp only; omega) _)

set_option maxHeartbeats 1000000 in
theorem only_9 (s:ByteArray) (n a b c:Int) (w:World)   :
 Calls Try.prog 80 #[.agg #[.int .i64 9,.string s,.int .u64 n,.int .i64 a,.int .i64 b,.int .i64 c]] w fun e w' =>
  e = .returned (T.val ⟨9,⟨#[]⟩,n,a,0,0⟩) ∧ Below w.heap.size w w':=by
 have Hm:Hid (many 9 = 1):=hid rfl
 have i0:∀ (x y z:Option Addr) (w:World),(Instr.index 193 (.agg #[.pointer x,.pointer y,.pointer z]) (.int .i64 0)).run Try.prog w = .ok (.pointer x) w:=fun _ _ _ _=>by kernel_rfl
 go_enter Try.func80,Try.ntmps80
 go_wp2_with fail
 refine (parts_calls1 _ _ _ _ _ _ _ Hm.out).mono ?_
 rintro e w1 ⟨g,rfl,hb,hc0,hg⟩
 obtain ⟨hc,hf⟩:=bcell hb
 have hz:=hb.size
 simp at hz hg hc hf
 go_wp2_with fail
 refine wp_loop_rounds 2 ?_
 rw [rounds_succ]; go_wp2
 rw [rounds_succ]; go_wp2
 refine bodyPost_ret (v:=T.val ⟨9,⟨#[]⟩,n,a,0,0⟩) (by simp [results,Try.results80,go_sem,T.val,hc]) rfl ⟨rfl,?_⟩
 have hb0:Below w.heap.size w w1:=(((((Below.refl _ _).alloc (Nat.le_refl _) _).alloc (by simp) _).alloc (by simp; omega) _).trans (hb.mono (by simp; omega)))
 clear hc hf
 repeat (first | with_reducible exact hb0 | refine Below.setCell ?_ (by dsimp only; omega) _)

set_option maxHeartbeats 1000000 in
theorem only_10 (s:ByteArray) (n a b c:Int) (w:World)   :
 Calls Try.prog 80 #[.agg #[.int .i64 10,.string s,.int .u64 n,.int .i64 a,.int .i64 b,.int .i64 c]] w fun e w' =>
  e = .returned (T.val ⟨10,⟨#[]⟩,n,a,b,c⟩) ∧ Below w.heap.size w w':=by
 have Hm:Hid (many 10 = 3):=hid rfl
 have i0:∀ (x y z:Option Addr) (w:World),(Instr.index 193 (.agg #[.pointer x,.pointer y,.pointer z]) (.int .i64 0)).run Try.prog w = .ok (.pointer x) w:=fun _ _ _ _=>by kernel_rfl
 have i1:∀ (x y z:Option Addr) (w:World),(Instr.index 193 (.agg #[.pointer x,.pointer y,.pointer z]) (.int .i64 1)).run Try.prog w = .ok (.pointer y) w:=fun _ _ _ _=>by kernel_rfl
 have i2:∀ (x y z:Option Addr) (w:World),(Instr.index 193 (.agg #[.pointer x,.pointer y,.pointer z]) (.int .i64 2)).run Try.prog w = .ok (.pointer z) w:=fun _ _ _ _=>by kernel_rfl
 go_enter Try.func80,Try.ntmps80
 go_wp2_with fail
 refine (parts_calls3 _ _ _ _ _ _ _ Hm.out).mono ?_
 rintro e w1 ⟨g,rfl,hb,hc0,hc1,hc2,hg⟩
 obtain ⟨hc,hf⟩:=bcell hb
 have hz:=hb.size
 simp at hz hg hc hf
 go_wp2_with fail
 refine wp_loop_rounds 4 ?_
 rw [rounds_succ]; go_wp2
 rw [rounds_succ]; go_wp2
 rw [rounds_succ]; go_wp2
 rw [rounds_succ]; go_wp2
 refine bodyPost_ret (v:=T.val ⟨10,⟨#[]⟩,n,a,b,c⟩) (by simp [results,Try.results80,go_sem,T.val,hc]) rfl ⟨rfl,?_⟩
 have hb0:Below w.heap.size w w1:=(((((Below.refl _ _).alloc (Nat.le_refl _) _).alloc (by simp) _).alloc (by simp; omega) _).trans (hb.mono (by simp; omega)))
 clear hc hf
 repeat (first | with_reducible exact hb0 | refine Below.setCell ?_ (by dsimp only; omega) _)

set_option maxHeartbeats 1000000 in
theorem only_o (k:Int) (s:ByteArray) (n a b c:Int) (w:World) (hm:many k = 0) (h1:(k == 1) = false) (h2:(k == 2) = false) (h9:(k == 9) = false) (h10:(k == 10) = false) :
 Calls Try.prog 80 #[.agg #[.int .i64 k,.string s,.int .u64 n,.int .i64 a,.int .i64 b,.int .i64 c]] w fun e w' =>
  e = .returned (T.val ⟨k,⟨#[]⟩,0,0,0,0⟩) ∧ Below w.heap.size w w':=by
 have Hm:=hid hm; clear hm
 go_enter Try.func80,Try.ntmps80
 go_wp2_with fail
 refine (parts_calls0 _ _ _ _ _ _ _ Hm.out).mono ?_
 rintro e w1 ⟨ad,rfl,hb⟩
 obtain ⟨hc,hf⟩:=bcell hb
 have hz:=hb.size
 simp at hz hc hf
 go_wp2_with fail
 refine wp_loop_rounds 1 ?_
 rw [rounds_succ]; go_wp2
 refine bodyPost_ret (v:=T.val ⟨k,⟨#[]⟩,0,0,0,0⟩) (by simp [results,Try.results80,go_sem,T.val,hc]) rfl ⟨rfl,?_⟩
 have hb0:Below w.heap.size w w1:=(((((Below.refl _ _).alloc (Nat.le_refl _) _).alloc (by simp) _).alloc (by simp; omega) _).trans (hb.mono (by simp; omega)))
 clear hc hf
 repeat (first | with_reducible exact hb0 | refine Below.setCell ?_ (by dsimp only; omega) _)

theorem only_calls (k:Int) (s:ByteArray) (n a b c:Int) (w:World) :
 Calls Try.prog 80 #[.agg #[.int .i64 k,.string s,.int .u64 n,.int .i64 a,.int .i64 b,.int .i64 c]] w fun e w' =>
  e = .returned (T.val (T.only ⟨k,s,n,a,b,c⟩)) ∧ Below w.heap.size w w':=by
 by_cases k1:k = 1
 · subst k1; exact only_1 s n a b c w
 by_cases k2:k = 2
 · subst k2; exact only_2 s n a b c w
 by_cases k9:k = 9
 · subst k9; exact only_9 s n a b c w
 by_cases k10:k = 10
 · subst k10; exact only_10 s n a b c w
 have e1:(k == 1) = false:=by simpa using k1
 have e2:(k == 2) = false:=by simpa using k2
 have e9:(k == 9) = false:=by simpa using k9
 have e10:(k == 10) = false:=by simpa using k10
 have hm:many k = 0 ∨ many k = 1 ∨ many k = 2:=by
  unfold many; split
  · simp
  · split
    · simp
    · simp
 rcases hm with h | h | h
 · have:=only_o k s n a b c w h e1 e2 e9 e10
   simpa [T.only,k1,k2,k9,k10,h] using this
 · have:=only_c k s n a b c w h e1 e2 e9 e10
   simpa [T.only,k1,k2,k9,k10,h] using this
 · have:=only_d k s n a b c w h e1 e2 e9 e10
   simpa [T.only,k1,k2,k9,k10,h] using this
end Go.Proofs.Ytpcfmafokkffgaa
namespace Go.Proofs.Ytpcfmafokkffgaa
open Go.RowKit

def T.cells (t:T):List Value:=[.int .i64 t.k,.string t.s,.int .u64 t.n,.int .i64 t.a,.int .i64 t.b,.int .i64 t.c]
def cellsOf (L:List T):List Value:=L.flatMap T.cells

/-- The entries of the map of names. -/
def Names (es:Array MapEntry) (L:List T):Prop :=
 es.toList.map (fun e=>(e.key,e.val)) = L.mapIdx fun i t=>(T.val t,.int .i64 (i + 1))

def stoHead (lb db mb lc dc:Nat) (n:Nat) (m:Int):Obj :=
 .cells #[.slice (some ⟨lb,0,none⟩) n lc,.slice (some ⟨db,0,none⟩) n dc,.map (some mb),.int .i64 m] 118 (0,0)

structure StoOk (b lb db mb lc dc:Nat) (lcur dcur:Array Value) (es:Array MapEntry) (L:List T) (m:Int):Prop where
 good:Good L
 m0:0 ≤ m
 m1:m ≤ 1048576
 len:(L.length:Int) ≤ m
 apart:b ≠ lb ∧ b ≠ db ∧ b ≠ mb ∧ lb ≠ db ∧ lb ≠ mb ∧ db ≠ mb
 lsize:lcur.size = lc * 6
 lcap:L.length + 1 ≤ lc
 lmax:lc ≤ maxLen
 lcells:lcur.toList.take ((L.length + 1) * 6) = cellsOf (zeroT::L)
 dsize:dcur.size = dc
 dcap:L.length + 1 ≤ dc
 dmax:dc ≤ maxLen
 dcells:dcur.toList.take (L.length + 1) = ints (depths L)
 names:Names es L

def stoFrag (b lb db mb lc dc ck:Nat) (lcur dcur:Array Value) (es:Array MapEntry) (n:Nat) (m:Int):Frag:=fun k =>
 if k = b then some (stoHead lb db mb lc dc n m) else if k = lb then some (.cells lcur 47 (0,0))
 else if k = db then some (.cells dcur 3 (0,0)) else if k = mb then some (.map es ck) else none

theorem stoFrag_in {b lb db mb lc dc ck:Nat} {lcur dcur:Array Value} {es:Array MapEntry} {n:Nat} {m:Int} {w:World} (h0:w.heap[b]? = some (stoHead lb db mb lc dc n m)) (h1:w.heap[lb]? = some (.cells lcur 47 (0,0)))
 (h2:w.heap[db]? = some (.cells dcur 3 (0,0))) (h3:w.heap[mb]? = some (.map es ck)):FragIn (stoFrag b lb db mb lc dc ck lcur dcur es n m) w:=by
 intro k o hk
 unfold stoFrag at hk
 split at hk
 · rename_i e; subst e; rw [h0]; exact hk
 · split at hk
   · rename_i e; subst e; rw [h1]; exact hk
   · split at hk
     · rename_i e; subst e; rw [h2]; exact hk
     · split at hk
       · rename_i e; subst e; rw [h3]; exact hk
       · cases hk

theorem stoFrag_at {b lb db mb lc dc ck:Nat} {lcur dcur:Array Value} {es:Array MapEntry} {n:Nat} {m:Int} {k:Nat} (h:stoFrag b lb db mb lc dc ck lcur dcur es n m k ≠ none):k = b ∨ k = lb ∨ k = db ∨ k = mb:=by
 unfold stoFrag at h
 split at h
 · exact .inl ‹_›
 · split at h
   · exact .inr (.inl ‹_›)
   · split at h
     · exact .inr (.inr (.inl ‹_›))
     · split at h
       · exact .inr (.inr (.inr ‹_›))
       · exact absurd rfl h

def Sto (b:Nat) (L:List T) (m:Int):Res:=fun f =>
 ∃ lb db mb lc dc ck lcur dcur es,f = stoFrag b lb db mb lc dc ck lcur dcur es (L.length + 1) m ∧ StoOk b lb db mb lc dc lcur dcur es L m

/-- What the walk reads of it. -/
structure StoAt (w:World) (b:Nat) (L:List T) (m:Int) (lb db mb lc dc:Nat):Prop where
 good:Good L
 m0:0 ≤ m
 m1:m ≤ 1048576
 len:(L.length:Int) ≤ m
 c0:w.cell? ⟨b,0,none⟩ = some (.slice (some ⟨lb,0,none⟩) (L.length + 1) lc)
 c1:w.cell? ⟨b,1,none⟩ = some (.slice (some ⟨db,0,none⟩) (L.length + 1) dc)
 c2:w.cell? ⟨b,2,none⟩ = some (.map (some mb))
 c3:w.cell? ⟨b,3,none⟩ = some (.int .i64 m)
 fz:∀ j,w.frozen? ⟨b,j,none⟩ = false
 cl:∀ (i:Nat) (t:T),(zeroT::L)[i]? = some t → ∀ j v,t.cells[j]? = some v → w.cell? ⟨lb,i * 6 + j,none⟩ = some v
 cd:∀ (i:Nat),i ≤ L.length → w.cell? ⟨db,i,none⟩ = some (.int .i64 ((depths L).getD i 0))
 lt:b < w.heap.size
 llt:lb < w.heap.size
 dlt:db < w.heap.size
 mlt:mb < w.heap.size
 hm:∃ es ck,w.heap[mb]? = some (.map es ck) ∧ Names es L

theorem cellsOf_get {L:List T} {i:Nat} {t:T} (h:L[i]? = some t) {j:Nat} {v:Value} (hj:t.cells[j]? = some v):(cellsOf L)[i * 6 + j]? = some v:=by
 induction L generalizing i with
 | nil=>simp at h
 | cons u L ih =>
  have hlt:j < 6:=by have:=(List.getElem?_eq_some_iff.1 hj).1; simpa [T.cells] using this
  cases i with
  | zero =>
   simp only [List.getElem?_cons_zero,Option.some.injEq] at h
   subst h
   simp only [cellsOf,List.flatMap_cons,Nat.zero_mul,Nat.zero_add]
   rw [List.getElem?_append_left (by simpa [T.cells] using hlt)]
   exact hj
  | succ i =>
   simp only [List.getElem?_cons_succ] at h
   have:=ih h
   simp only [cellsOf,List.flatMap_cons]
   rw [List.getElem?_append_right (by simp [T.cells]; omega)]
   have e:(i + 1) * 6 + j - u.cells.length = i * 6 + j:=by simp [T.cells]; omega
   rw [e]; exact this

theorem cellsOf_length (L:List T):(cellsOf L).length = L.length * 6:=by
 induction L with
 | nil=>rfl
 | cons u L ih=>simp only [cellsOf,List.flatMap_cons,List.length_append,List.length_cons] at *; rw [ih]; simp [T.cells]; omega

theorem get_of_take {l k:List Value} {n j:Nat} {v:Value} (h:l.take n = k) (hj:k[j]? = some v):l[j]? = some v:=by
 subst h
 rw [List.getElem?_take] at hj
 split at hj
 · exact hj
 · cases hj

theorem stoAt_of {w:World} {b lb db mb lc dc ck:Nat} {lcur dcur:Array Value} {es:Array MapEntry} {L:List T} {m:Int} (hf:FragIn (stoFrag b lb db mb lc dc ck lcur dcur es (L.length + 1) m) w)
 (h:StoOk b lb db mb lc dc lcur dcur es L m):StoAt w b L m lb db mb lc dc:=by
 obtain ⟨a1,a2,a3,a4,a5,a6⟩:=h.apart
 have h0:w.heap[b]? = some (stoHead lb db mb lc dc (L.length + 1) m):=hf b _ (by simp [stoFrag])
 have h1:w.heap[lb]? = some (.cells lcur 47 (0,0)):=hf lb _ (by simp [stoFrag,Ne.symm a1])
 have h2:w.heap[db]? = some (.cells dcur 3 (0,0)):=hf db _ (by simp [stoFrag,Ne.symm a2,Ne.symm a4])
 have h3:w.heap[mb]? = some (.map es ck):=hf mb _ (by simp [stoFrag,Ne.symm a3,Ne.symm a5,Ne.symm a6])
 refine ⟨h.good,h.m0,h.m1,h.len,by rw [cell_of_heap h0]; rfl,by rw [cell_of_heap h0]; rfl,by rw [cell_of_heap h0]; rfl,by rw [cell_of_heap h0]; rfl,fun j=>frozen_of_heap h0 j,?_,?_,(Array.getElem?_eq_some_iff.1 h0).1,(Array.getElem?_eq_some_iff.1 h1).1,(Array.getElem?_eq_some_iff.1 h2).1,(Array.getElem?_eq_some_iff.1 h3).1,es,ck,h3,h.names⟩
 · intro i t hi j v hj
   rw [cell_of_heap h1,← Array.getElem?_toList]
   exact get_of_take h.lcells (cellsOf_get hi hj)
 · intro i hi
   rw [cell_of_heap h2,← Array.getElem?_toList]
   refine get_of_take h.dcells ?_
   have hlt:i < (depths L).length:=by rw [depths_length]; omega
   simp [ints,List.getElem?_eq_getElem hlt,List.getD]

theorem Hd.sto {W w:World} {b:Nat} {L:List T} {m:Int} {Rs:List Res} (h:Hd W w (Sto b L m::Rs)):∃ lb db mb lc dc,StoAt w b L m lb db mb lc dc:=by
 obtain ⟨f,⟨lb,db,mb,lc,dc,ck,lcur,dcur,es,rfl,hok⟩,hf,_⟩:=h.open
 exact ⟨lb,db,mb,lc,dc,stoAt_of hf hok⟩

set_option maxHeartbeats 400000 in
theorem len_calls' {b:Nat} {L:List T} {m:Int} {lb db mb lc dc:Nat} {w:World} (h:StoAt w b L m lb db mb lc dc) :
 Calls Try.prog 18 #[.pointer (some ⟨b,0,none⟩)] w fun e w'=>e = .returned (.int .i64 L.length) ∧ w = w':=by
 have h0:=h.c0
 have h1:L.length ≤ 1048576:=by have:=h.m1; have:=h.len; omega
 clear h
 go_enter Try.func18,Try.ntmps18
 go_wp2
 go_ret
 exact ⟨by first | rfl | (congr 2; omega),rfl⟩
end Go.Proofs.Ytpcfmafokkffgaa
namespace Go.Proofs.Ytpcfmafokkffgaa
open Go.RowKit

theorem bytes_eq {s s':ByteArray}:s.toList = s'.toList ↔ s = s':=by
 constructor
 · intro h
   rw [ByteArray.toList_eq,ByteArray.toList_eq] at h
   obtain ⟨⟨x⟩⟩:=s
   obtain ⟨⟨y⟩⟩:=s'
   simp at h
   rw [h]
 · intro h; rw [h]

set_option maxHeartbeats 400000 in
theorem eqlIn_T (k n a b c k' n' a' b' c':Int) (s s':ByteArray) (w:World) :
 (Op.equalIn 10000 47 (.agg #[.int .i64 k,.string s,.int .u64 n,.int .i64 a,.int .i64 b,.int .i64 c]) (.agg #[.int .i64 k',.string s',.int .u64 n',.int .i64 a',.int .i64 b',.int .i64 c'])).run Try.prog w = .ok (decide ((⟨k,s,n,a,b,c⟩:T) = ⟨k',s',n',a',b',c'⟩)) w:=by
 go_simp
 simp only [bytes_eq]
 by_cases h1:k = k' <;> by_cases h2:s = s' <;> by_cases h3:n = n' <;> by_cases h4:a = a' <;> by_cases h5:b = b' <;> by_cases h6:c = c' <;> simp [h1,h2,h3,h4,h5,h6]

theorem equal_T (x y:T) (w:World):(Op.equal 47 (T.val x) (T.val y)).run Try.prog w = .ok (decide (x = y)) w:=by
 obtain ⟨k,s,n,a,b,c⟩:=x
 obtain ⟨k',s',n',a',b',c'⟩:=y
 exact eqlIn_T k n a b c k' n' a' b' c' s s' w

theorem neq_T (x y:T) (w:World):(binOp .neq 47 (T.val x) (T.val y)).run Try.prog w = .ok (.bool (!decide (x = y))) w:=by
 obtain ⟨k,s,n,a,b,c⟩:=x
 obtain ⟨k',s',n',a',b',c'⟩:=y
 rw [T.val,T.val,run_neq_struct,eqlIn_T]
 rfl

/-- The key's own check. -/
theorem checkKey_T (x:T) (e:Bool) (w:World):(Instr.checkKey e 10000 47 (T.val x)).run Try.prog w = .ok () w:=by
 obtain ⟨k,s,n,a,b,c⟩:=x
 simp only [T.val]
 kernel_rfl

/-- The names of a list that begins behind so many. -/
def namesFrom:Nat → List T → List (Value × Value)
 | _,[]=>[]
 | i,t::L=>(T.val t,.int .i64 ((i:Int) + 1))::namesFrom (i + 1) L

theorem namesFrom_snoc (t:T):∀ (L:List T) (i:Nat),namesFrom i (L ++ [t]) = namesFrom i L ++ [(T.val t,.int .i64 ((i:Int) + L.length + 1))]
 | [],i=>by simp [namesFrom]
 | u::L,i=>by
  simp only [List.cons_append,namesFrom,namesFrom_snoc t L (i + 1),List.length_cons]
  congr 4
  simp; omega

theorem names_eq (L:List T):(L.mapIdx fun i t=>(T.val t,Value.int .i64 ((i:Int) + 1))) = namesFrom 0 L:=by
 have h:∀ (L:List T) (k:Nat),(L.mapIdx fun i t=>(T.val t,Value.int .i64 (((i + k:Nat):Int) + 1))) = namesFrom k L:=by
  intro L
  induction L with
  | nil=>intro k; rfl
  | cons u L ih =>
   intro k
   rw [List.mapIdx_cons]
   have:=ih (k + 1)
   simp only [namesFrom,Nat.zero_add]
   rw [← this]
   congr 1
   refine congrArg (fun f=>List.mapIdx f L) ?_
   funext i t
   rw [show i + 1 + k = i + (k + 1) from by omega]
 simpa using h L 0

theorem findAsking_T (t:T) (w:World):∀ (es:List MapEntry) (L:List T) (i j:Nat),es.map (fun e=>(e.key,e.val)) = namesFrom i L →
 (Instr.findAsking 47 (T.val t) es j).run Try.prog w = .ok ((find t L).map fun k=>(j + k,.int .i64 ((i:Int) + k + 1))) w
 | [],L,i,j,h=>by
  cases L with
  | nil=>simp [Instr.findAsking,find]
  | cons u L=>simp [namesFrom] at h
 | e::es,L,i,j,h=>by
  cases L with
  | nil=>simp [namesFrom] at h
  | cons u L =>
   simp only [List.map_cons,namesFrom,List.cons.injEq,Prod.mk.injEq] at h
   obtain ⟨⟨h1,h2⟩,h3⟩:=h
   have ih:=findAsking_T t w es L (i + 1) (j + 1) h3
   simp only [Instr.findAsking,Sem.run_bind,h1,equal_T,Result.andThen_ok,find]
   by_cases hu:t = u
   · subst hu
     simp [h2]
   · have hu':¬ u = t:=fun e=>hu e.symm
     simp only [hu,decide_false,Bool.false_eq_true,if_false,hu',ih]
     cases find t L with
     | none=>rfl
     | some k =>
      simp only [Option.map_some,Result.ok.injEq,Option.some.injEq,Prod.mk.injEq,Value.int.injEq,true_and,and_true]
      constructor <;> omega

theorem findKey_T (t:T) (w:World) (es:Array MapEntry) (L:List T) (h:Names es L) :
 (Instr.findKey 47 (T.val t) es.toList).run Try.prog w = .ok ((find t L).map fun k=>(k,.int .i64 ((k:Int) + 1))) w:=by
 have h':es.toList.map (fun e=>(e.key,e.val)) = namesFrom 0 L:=by rw [← names_eq]; exact h
 have hu:Try.prog.underlying 47 = some (.struct (Try.prog.fieldsOf 47)):=by kernel_rfl
 have key:=findAsking_T t w es.toList L 0 0 h'
 simp only [Nat.zero_add,Int.natCast_zero,Int.zero_add] at key
 unfold Instr.findKey
 simp only [Sem.run_bind,run_underlying hu,Result.andThen_ok]
 cases hes:es.toList with
 | nil =>
  have:L = []:=by
   cases L with
   | nil=>rfl
   | cons u L=>rw [hes] at h'; simp [namesFrom] at h'
  subst this
  simp [Instr.findNow,find]
 | cons e es' =>
  rw [hes] at key h'
  obtain ⟨u,L',rfl⟩:∃ u L',L = u::L':=by
   cases L with
   | nil=>simp [namesFrom] at h'
   | cons u L=>exact ⟨u,L,rfl⟩
  simp only [List.map_cons,namesFrom,List.cons.injEq,Prod.mk.injEq] at h'
  have:Instr.findNow (.struct (Try.prog.fieldsOf 47)) (T.val t) (e::es') 0 = none:=by
   simp only [Instr.findNow,Instr.sameNow]
  rw [this]
  exact key

theorem lookup_T (t:T) (w:World) {mb:Nat} {es:Array MapEntry} {ck:Nat} {L:List T} (hm:w.heap[mb]? = some (.map es ck)) (h:Names es L) :
 (Instr.lookup 116 (.map (some mb)) (T.val t) true).run Try.prog w = .ok (.tuple #[.int .i64 (match find t L with | some k=>(k:Int) + 1 | none=>0),.bool (find t L).isSome]) w:=by
 have hu:Try.prog.underlying 116 = some (.map 47 3):=by kernel_rfl
 have hz:∀ w,(zeroValue 3).run Try.prog w = .ok (.int .i64 0) w:=fun w=>by kernel_rfl
 unfold Instr.lookup
 simp only [Sem.run_bind,run_underlying hu,Result.andThen_ok,getObj,Sem.run,hm,Sem.run_pure,checkKey_T,findKey_T t w es L h]
 cases find t L with
 | none=>simp [hz]
 | some k=>simp

/-- A map's block, written anew. -/
def setMap (w:World) (mb:Nat) (o:Obj):World:={ w with heap:=w.heap.setIfInBounds mb o }

theorem mapUpdate_T (t:T) (v:Int) (w:World) {mb:Nat} {es:Array MapEntry} {ck:Nat} {L:List T} (hm:w.heap[mb]? = some (.map es ck)) (h:Names es L) (hn:find t L = none) :
 (Instr.mapUpdate 116 (.map (some mb)) (T.val t) (.int .i64 v)).run Try.prog w = .ok () (setMap w mb (.map (es.push { key:=T.val t,val:=.int .i64 v,born:=ck }) (ck + 1))):=by
 have hu:Try.prog.underlying 116 = some (.map 47 3):=by kernel_rfl
 have hk:=findKey_T t w es L h
 rw [hn] at hk
 unfold Instr.mapUpdate
 simp only [Sem.run_bind,run_underlying hu,Result.andThen_ok,getObj,setObj,Sem.run,hm,checkKey_T,hk,Option.map_none]
 rfl

theorem names_push {es:Array MapEntry} {L:List T} {t:T} {ck:Nat} (h:Names es L):Names (es.push { key:=T.val t,val:=.int .i64 ((L.length:Int) + 1),born:=ck }) (L ++ [t]):=by
 have h':es.toList.map (fun e=>(e.key,e.val)) = namesFrom 0 L:=by rw [← names_eq]; exact h
 unfold Names
 rw [names_eq,namesFrom_snoc]
 simp [h']
end Go.Proofs.Ytpcfmafokkffgaa
namespace Go.Proofs.Ytpcfmafokkffgaa
open Go.RowKit

theorem getT_in {L:List T} {i:Nat} {t:T} (h:L[i]? = some t):getT L ((i:Int) + 1) = t ∧ getB L ((i:Int) + 1) = true:=by
 have e:((i:Int) + 1 - 1).toNat = i:=by omega
 have:get L ((i:Int) + 1) = some t:=by simp only [get]; rw [if_pos (by omega),e]; exact h
 simp [getT,getB,this]

theorem getT_out {L:List T} {x:Int} (h:x < 1 ∨ (L.length:Int) < x):getT L x = zeroT ∧ getB L x = false:=by
 have:get L x = none:=by
  unfold get
  split
  · rw [List.getElem?_eq_none]; omega
  · rfl
 simp [getT,getB,this]

set_option maxHeartbeats 400000 in
theorem get_low {b:Nat} {x:Int} {w:World} (hx:x < 1) :
 Calls Try.prog 49 #[.pointer (some ⟨b,0,none⟩),.int .i64 x] w fun e w'=>e = .returned (.tuple #[T.val zeroT,.bool false]) ∧ Below w.heap.size w w':=by
 have hd:decide (x < 1) = true:=by simpa using hx
 go_enter Try.func49,Try.ntmps49
 go_wp2
 refine bodyPost_ret (v:=.tuple #[T.val zeroT,.bool false]) (by simp [results,Try.results49,go_sem,T.val,zeroT]) rfl ⟨rfl,?_⟩
 exact (Below.refl _ _).alloc (Nat.le_refl _) _

set_option maxHeartbeats 400000 in
theorem get_high {b:Nat} {L:List T} {m:Int} {lb db mb lc dc:Nat} {x:Int} {w:World} (h:StoAt w b L m lb db mb lc dc) (hx:(L.length:Int) < x) (h1:¬ x < 1) :
 Calls Try.prog 49 #[.pointer (some ⟨b,0,none⟩),.int .i64 x] w fun e w'=>e = .returned (.tuple #[T.val zeroT,.bool false]) ∧ Below w.heap.size w w':=by
 have hd:decide (x < 1) = false:=by simpa using h1
 have hd2:decide ((L.length:Int) < x) = true:=by simpa using hx
 have h0:=h.c0
 have hlt:=h.lt
 have h1:L.length ≤ 1048576:=by have:=h.m1; have:=h.len; omega
 clear h
 go_enter Try.func49,Try.ntmps49
 go_wp2
 refine bodyPost_ret (v:=.tuple #[T.val zeroT,.bool false]) (by simp [results,Try.results49,go_sem,T.val,zeroT]) rfl ⟨rfl,?_⟩
 exact (Below.refl _ _).alloc (Nat.le_refl _) _

set_option maxHeartbeats 400000 in
theorem get_mid {b:Nat} {L:List T} {m:Int} {lb db mb lc dc:Nat} {i:Nat} {t:T} {w:World} (h:StoAt w b L m lb db mb lc dc) (hi:L[i]? = some t) :
 Calls Try.prog 49 #[.pointer (some ⟨b,0,none⟩),.int .i64 ((i:Int) + 1)] w fun e w'=>e = .returned (.tuple #[T.val t,.bool true]) ∧ Below w.heap.size w w':=by
 have hlen:i < L.length:=(List.getElem?_eq_some_iff.1 hi).1
 have hd:decide ((i:Int) + 1 < 1) = false:=by simp; omega
 have hd2:decide ((L.length:Int) < (i:Int) + 1) = false:=by simp; omega
 have h0:=h.c0
 have hlt:=h.lt
 have h1:L.length ≤ 1048576:=by have:=h.m1; have:=h.len; omega
 have hllt:=h.llt
 have hc:=h.cl (i + 1) t (by simpa using hi)
 obtain ⟨k,s,n,a,b',c⟩:=t
 have g0:=hc 0 _ rfl
 have g1:=hc 1 _ rfl
 have g2:=hc 2 _ rfl
 have g3:=hc 3 _ rfl
 have g4:=hc 4 _ rfl
 have g5:=hc 5 _ rfl
 simp only [Nat.add_zero] at g0
 clear h hc hi
 go_enter Try.func49,Try.ntmps49
 go_wp2
 refine bodyPost_ret (v:=.tuple #[T.val (⟨k,s,n,a,b',c⟩:T),.bool true]) (by simp [results,Try.results49,go_sem,T.val]) rfl ⟨rfl,?_⟩
 exact (Below.refl _ _).alloc (Nat.le_refl _) _

theorem nat_of_range {x:Int} {n:Nat} (h1:1 ≤ x) (h2:x ≤ n):∃ i:Nat,i < n ∧ x = (i:Int) + 1:=⟨(x - 1).toNat,by omega,by omega⟩

theorem get_calls {b:Nat} {L:List T} {m:Int} {lb db mb lc dc:Nat} (x:Int) {w:World} (h:StoAt w b L m lb db mb lc dc) :
 Calls Try.prog 49 #[.pointer (some ⟨b,0,none⟩),.int .i64 x] w fun e w'=>e = .returned (.tuple #[T.val (getT L x),.bool (getB L x)]) ∧ Below w.heap.size w w':=by
 by_cases h1:x < 1
 · obtain ⟨e1,e2⟩:=getT_out (L:=L) (.inl h1)
   rw [e1,e2]; exact get_low h1
 by_cases h2:(L.length:Int) < x
 · obtain ⟨e1,e2⟩:=getT_out (L:=L) (.inr h2)
   rw [e1,e2]; exact get_high h h2 h1
 obtain ⟨i,hi,rfl⟩:=nat_of_range (x:=x) (n:=L.length) (by omega) (by omega)
 have hg:L[i]? = some L[i]:=List.getElem?_eq_getElem hi
 obtain ⟨e1,e2⟩:=getT_in hg
 rw [e1,e2]; exact get_mid h hg





set_option maxHeartbeats 400000 in
theorem new_calls {W w:World} {Rs:List Res} {x:Int} (h:Hd W w Rs) (h0:0 ≤ x) (h1:x ≤ 1048576) :
 Calls Try.prog 23 #[.int .i64 x] w fun e w'=>∃ b,e = .returned (.tuple #[.pointer (some ⟨b,0,none⟩),.int .i64 0]) ∧ Hd W w' (Sto b [] x::Rs):=by
 have hd:decide (x < 0) = false:=by simp; omega
 have hd2:decide (1048576 < x) = false:=by simp; omega
 have hmm:=@run_makeMap Try.prog
 have Hh:=hid h; clear h
 go_enter Try.func23,Try.ntmps23
 go_wp2
 go_ret2
 refine ⟨w.heap.size + 1 + 1 + 1,rfl,?_⟩
 refine Hh.out.add (((((Below.refl _ _).alloc (Nat.le_refl _) _).alloc (by simp) _).alloc (by simp <;> omega) _).alloc (by simp <;> omega) _)
  (stoFrag (w.heap.size + 1 + 1 + 1) w.heap.size (w.heap.size + 1) (w.heap.size + 1 + 1) 1 1 0 #[.int .i64 0,.string ⟨#[]⟩,.int .u64 0,.int .i64 0,.int .i64 0,.int .i64 0] #[.int .i64 0] #[] 1 x)
  ⟨_,_,_,_,_,_,_,_,_,rfl,⟨good_nil,h0,h1,by simpa using h0,⟨by omega,by omega,by omega,by omega,by omega,by omega⟩,rfl,by simp,by simp [maxLen],rfl,rfl,by simp,by simp [maxLen],rfl,rfl⟩⟩
  (stoFrag_in (heap_at (by simp)) ?_ ?_ ?_) (fun k hk=>by rcases stoFrag_at hk with h | h | h | h <;> omega)
 · rw [Below.heap_alloc _ _ _ (by simp <;> omega),Below.heap_alloc _ _ _ (by simp <;> omega),Below.heap_alloc _ _ _ (by simp)]; exact heap_at rfl
 · rw [Below.heap_alloc _ _ _ (by simp <;> omega),Below.heap_alloc _ _ _ (by simp)]; exact heap_at (by simp)
 · rw [Below.heap_alloc _ _ _ (by simp)]; exact heap_at (by simp)
end Go.Proofs.Ytpcfmafokkffgaa
namespace Go.Proofs.Ytpcfmafokkffgaa
open Go.RowKit

theorem StoAt.later {w w':World} {b:Nat} {L:List T} {m:Int} {lb db mb lc dc:Nat} (h:StoAt w b L m lb db mb lc dc) (hb:Below w.heap.size w w'):StoAt w' b L m lb db mb lc dc:=by
 have hs:=hb.size
 refine ⟨h.good,h.m0,h.m1,h.len,(hb.cell h.lt).trans h.c0,(hb.cell h.lt).trans h.c1,(hb.cell h.lt).trans h.c2,(hb.cell h.lt).trans h.c3,fun j=>(hb.frozen h.lt).trans (h.fz j),
  fun i t hi j v hj=>(hb.cell h.llt).trans (h.cl i t hi j v hj),fun i hi=>(hb.cell h.dlt).trans (h.cd i hi),Nat.lt_of_lt_of_le h.lt hs,Nat.lt_of_lt_of_le h.llt hs,Nat.lt_of_lt_of_le h.dlt hs,Nat.lt_of_lt_of_le h.mlt hs,?_⟩
 obtain ⟨es,ck,h1,h2⟩:=h.hm
 exact ⟨es,ck,(hb.block _ h.mlt).trans h1,h2⟩

theorem ints_cell {w:World} {g:Nat} {xs:List Int} {t:TypeId} (h:w.heap[g]? = some (.cells (ints xs).toArray t (0,0))) {j:Nat} (hj:j < xs.length):w.cell? ⟨g,j,none⟩ = some (.int .i64 (xs.getD j 0)):=by
 rw [cell_of_heap h]
 simp [ints,List.getElem?_eq_getElem hj,List.getD]

/-- Are the parts names of what is there? -/
def partsIn (len:Int) (ps:List Int):Bool:=ps.all fun p=>decide (1 ≤ p) && decide (p ≤ len)

theorem partsIn_no {len:Int} {ps:List Int} {j:Nat} (hj:j < ps.length) (h:ps.getD j 0 < 1 ∨ len < ps.getD j 0):partsIn len ps = false:=by
 unfold partsIn
 rw [List.all_eq_false]
 refine ⟨ps.getD j 0,?_,?_⟩
 · rw [show ps.getD j 0 = ps[j] from by simp [List.getD,List.getElem?_eq_getElem hj]]
   exact List.getElem_mem hj
 · generalize ps.getD j 0 = p at *
   rcases h with h | h <;> simp <;> omega

theorem partsIn_yes {len:Int} {ps:List Int} (h:∀ j,j < ps.length → 1 ≤ ps.getD j 0 ∧ ps.getD j 0 ≤ len):partsIn len ps = true:=by
 unfold partsIn
 rw [List.all_eq_true]
 intro p hp
 obtain ⟨j,hj,rfl⟩:=List.getElem_of_mem hp
 have:=h j hj
 rw [show ps.getD j 0 = ps[j] from by simp [List.getD,List.getElem?_eq_getElem hj]] at this
 simp; exact this

set_option maxHeartbeats 2000000 in
theorem may_pass {b:Nat} {L:List T} {m:Int} {lb db mb lc dc:Nat} (k:Int) (s:ByteArray) (n a b' c:Int) {w:World} (h:StoAt w b L m lb db mb lc dc)
 (h1:decide (k < 1) = false) (h2:decide (12 ≤ k) = false) (h3:T.only ⟨k,s,n,a,b',c⟩ = ⟨k,s,n,a,b',c⟩) (h4:decide (1000 < (s.size:Int)) = false) (h5:(k == 4) = false) :
 Calls Try.prog 57 #[.pointer (some ⟨b,0,none⟩),T.val ⟨k,s,n,a,b',c⟩] w fun e w'=>e = .returned (.bool (partsIn L.length (T.parts ⟨k,s,n,a,b',c⟩))) ∧ Below w.heap.size w w':=by
 have Hq:Hid (∀ w,Calls Try.prog 80 #[.agg #[.int .i64 k,.string s,.int .u64 n,.int .i64 a,.int .i64 b',.int .i64 c]] w fun e w' =>
  e = .returned (.agg #[.int .i64 k,.string s,.int .u64 n,.int .i64 a,.int .i64 b',.int .i64 c]) ∧ Below w.heap.size w w'):=hid fun w=>by
  have hq:=only_calls k s n a b' c w
  rw [h3] at hq
  exact hq
 clear h3
 simp only [T.val]
 go_enter Try.func57,Try.ntmps57
 go_wp2_with fail
 obtain ⟨w2,hw2⟩:∃ w2,w2 = w.alloc (.cells #[.int .i64 k,.string s,.int .u64 n,.int .i64 a,.int .i64 b',.int .i64 c] 47):=⟨_,rfl⟩
 have hbox:w2.heap[w.heap.size]? = some (.cells #[.int .i64 k,.string s,.int .u64 n,.int .i64 a,.int .i64 b',.int .i64 c] 47):=by rw [hw2]; exact heap_at rfl
 rw [← hw2]
 generalize hB:w.heap.size = B at *
 have c0:∀ x:Later w2,x.w.cell? ⟨B,0,none⟩ = some (.int .i64 k):=fun x=>x.cell (by rw [cell_of_heap hbox]; rfl)
 have c1:∀ x:Later w2,x.w.cell? ⟨B,1,none⟩ = some (.string s):=fun x=>x.cell (by rw [cell_of_heap hbox]; rfl)
 have c2:∀ x:Later w2,x.w.cell? ⟨B,2,none⟩ = some (.int .u64 n):=fun x=>x.cell (by rw [cell_of_heap hbox]; rfl)
 have c3:∀ x:Later w2,x.w.cell? ⟨B,3,none⟩ = some (.int .i64 a):=fun x=>x.cell (by rw [cell_of_heap hbox]; rfl)
 have c4:∀ x:Later w2,x.w.cell? ⟨B,4,none⟩ = some (.int .i64 b'):=fun x=>x.cell (by rw [cell_of_heap hbox]; rfl)
 have c5:∀ x:Later w2,x.w.cell? ⟨B,5,none⟩ = some (.int .i64 c):=fun x=>x.cell (by rw [cell_of_heap hbox]; rfl)
 clear hbox
 have Hw:=hid hw2
 clear hw2
 refine wp_region_calm (by kernel_rfl) (by kernel_rfl) ?_
 repeat (go_big_quiet_step ((go_at_call 80; exact Calls.calm (Hq.out _))))
 refine wpQuiet_nil ?_
 intro w3 hw3
 obtain ⟨⟨w3,hb3⟩,rfl⟩:=hw3
 have d0:=c0 ⟨w3,hb3⟩
 have d1:=c1 ⟨w3,hb3⟩
 have d2:=c2 ⟨w3,hb3⟩
 have d3:=c3 ⟨w3,hb3⟩
 have d4:=c4 ⟨w3,hb3⟩
 have d5:=c5 ⟨w3,hb3⟩
 clear c0 c1 c2 c3 c4 c5
 dsimp only at d0 d1 d2 d3 d4 d5 ⊢
 go_wp2_with fail
 refine (parts_calls k s n a b' c _).mono ?_
 rintro e w4 ⟨ad,rfl,hb4,hl⟩
 go_wp2_with fail
 have hbw:Below w.heap.size w w4:=by
  have e1:Below w.heap.size w w2:=by rw [Hw.out]; exact (Below.refl _ _).alloc (Nat.le_refl _) _
  have e2:=e1.trans (hb3.mono e1.size)
  exact e2.trans (hb4.mono e2.size)
 have h':=h.later hbw
 have hbB:Below B w w4:=by rw [← hB]; exact hbw
 clear h d0 d1 d2 d3 d4 d5 hb4 hb3
 have hpl:(T.parts ⟨k,s,n,a,b',c⟩).length = many k:=parts_length _
 generalize hps:T.parts ⟨k,s,n,a,b',c⟩ = ps at *
 have Hpl:=hid hpl
 have Hps:=hid hps
 clear hps hpl
 have hm3:=many_le k
 generalize many k = q at *
 go_loop [42] (fun i=>∃ j:Nat,j ≤ q ∧ i = .int .i64 j ∧ Hid (∀ r,r < j → 1 ≤ ps.getD r 0 ∧ ps.getD r 0 ≤ L.length)) (fun i=>q - (intOf i).toNat)
 case atStart=>exact ⟨0,Nat.zero_le _,rfl,hid fun r hr=>by omega⟩
 case round =>
  obtain ⟨j,hj,rfl,hin⟩:=hrel
  by_cases hlt:j < q
  · have hlen:j < ps.length:=by rw [Hpl.out]; exact hlt
    obtain ⟨g,rfl,hc⟩:∃ g,ad = some ⟨g,0,none⟩ ∧ w4.cell? ⟨g,j,none⟩ = some (.int .i64 (ps.getD j 0)):=by
     rcases hl with ⟨h,_⟩ | ⟨g,h1,_,h2⟩
     · rw [h] at hlen; simp at hlen
     · exact ⟨g,h1,ints_cell h2 hlen⟩
    have Hno:=fun h=>hid (partsIn_no (len:=L.length) hlen h)
    have hstep:1 ≤ ps.getD j 0 → ps.getD j 0 ≤ L.length → Hid (∀ r,r < j + 1 → 1 ≤ ps.getD r 0 ∧ ps.getD r 0 ≤ L.length):=fun h1 h2=>hid fun r hr=>by
     by_cases hrj:r < j
     · exact hin.out r hrj
     · obtain rfl:r = j:=by omega
       exact ⟨h1,h2⟩
    clear hl hlen hin
    generalize ps.getD j 0 = p at *
    by_cases hp1:p < 1
    · have hd:decide (p < 1) = true:=by simpa using hp1
      have Hno':=Hno (.inl hp1)
      clear Hno hstep
      go_wp2_with fail
      go_ret
      exact ⟨by rw [Hps.out,Hno'.out]; rfl,by first | exact hbw | exact hbB⟩
    · have hd:decide (p < 1) = false:=by simpa using hp1
      by_cases hp2:(L.length:Int) < p
      · have hd2:decide ((L.length:Int) < p) = true:=by simpa using hp2
        have Hno':=Hno (.inr hp2)
        clear Hno hstep
        go_wp2_with (go_at_call 18; refine (len_calls' h').mono ?_; rintro e w' ⟨rfl,rfl⟩)
        go_ret
        exact ⟨by rw [Hps.out,Hno'.out]; rfl,by first | exact hbw | exact hbB⟩
      · have hd2:decide ((L.length:Int) < p) = false:=by simpa using hp2
        have hst:=hstep (by omega) (by omega)
        clear Hno hstep
        go_wp2_with (go_at_call 18; refine (len_calls' h').mono ?_; rintro e w' ⟨rfl,rfl⟩)
        go_round
        case rel=>exact ⟨j + 1,by omega,by go_num,hst⟩
        case measure=>simp [intOf]; omega
  · obtain rfl:j = q:=by omega
    have Hyes:=hid (partsIn_yes (len:=L.length) (ps:=ps) fun r hr=>hin.out r (by rw [← Hpl.out]; exact hr))
    go_wp2_with fail
    go_ret
    exact ⟨by rw [Hps.out,Hyes.out]; rfl,by first | exact hbw | exact hbB⟩
set_option maxHeartbeats 2000000 in
theorem may_pass4 {b:Nat} {L:List T} {m:Int} {lb db mb lc dc:Nat} (k:Int) (s:ByteArray) (n a b' c:Int) {w:World} (h:StoAt w b L m lb db mb lc dc)
 (h1:decide (k < 1) = false) (h2:decide (12 ≤ k) = false) (h3:T.only ⟨k,s,n,a,b',c⟩ = ⟨k,s,n,a,b',c⟩) (h4:decide (1000 < (s.size:Int)) = false) (h5:(k == 4) = true) (h6:decide (b' < a) = false) :
 Calls Try.prog 57 #[.pointer (some ⟨b,0,none⟩),T.val ⟨k,s,n,a,b',c⟩] w fun e w'=>e = .returned (.bool (partsIn L.length (T.parts ⟨k,s,n,a,b',c⟩))) ∧ Below w.heap.size w w':=by
 have Hq:Hid (∀ w,Calls Try.prog 80 #[.agg #[.int .i64 k,.string s,.int .u64 n,.int .i64 a,.int .i64 b',.int .i64 c]] w fun e w' =>
  e = .returned (.agg #[.int .i64 k,.string s,.int .u64 n,.int .i64 a,.int .i64 b',.int .i64 c]) ∧ Below w.heap.size w w'):=hid fun w=>by
  have hq:=only_calls k s n a b' c w
  rw [h3] at hq
  exact hq
 clear h3
 simp only [T.val]
 go_enter Try.func57,Try.ntmps57
 go_wp2_with fail
 obtain ⟨w2,hw2⟩:∃ w2,w2 = w.alloc (.cells #[.int .i64 k,.string s,.int .u64 n,.int .i64 a,.int .i64 b',.int .i64 c] 47):=⟨_,rfl⟩
 have hbox:w2.heap[w.heap.size]? = some (.cells #[.int .i64 k,.string s,.int .u64 n,.int .i64 a,.int .i64 b',.int .i64 c] 47):=by rw [hw2]; exact heap_at rfl
 rw [← hw2]
 generalize hB:w.heap.size = B at *
 have c0:∀ x:Later w2,x.w.cell? ⟨B,0,none⟩ = some (.int .i64 k):=fun x=>x.cell (by rw [cell_of_heap hbox]; rfl)
 have c1:∀ x:Later w2,x.w.cell? ⟨B,1,none⟩ = some (.string s):=fun x=>x.cell (by rw [cell_of_heap hbox]; rfl)
 have c2:∀ x:Later w2,x.w.cell? ⟨B,2,none⟩ = some (.int .u64 n):=fun x=>x.cell (by rw [cell_of_heap hbox]; rfl)
 have c3:∀ x:Later w2,x.w.cell? ⟨B,3,none⟩ = some (.int .i64 a):=fun x=>x.cell (by rw [cell_of_heap hbox]; rfl)
 have c4:∀ x:Later w2,x.w.cell? ⟨B,4,none⟩ = some (.int .i64 b'):=fun x=>x.cell (by rw [cell_of_heap hbox]; rfl)
 have c5:∀ x:Later w2,x.w.cell? ⟨B,5,none⟩ = some (.int .i64 c):=fun x=>x.cell (by rw [cell_of_heap hbox]; rfl)
 clear hbox
 have Hw:=hid hw2
 clear hw2
 refine wp_region_calm (by kernel_rfl) (by kernel_rfl) ?_
 repeat (go_big_quiet_step ((go_at_call 80; exact Calls.calm (Hq.out _))))
 refine wpQuiet_nil ?_
 intro w3 hw3
 obtain ⟨⟨w3,hb3⟩,rfl⟩:=hw3
 have d0:=c0 ⟨w3,hb3⟩
 have d1:=c1 ⟨w3,hb3⟩
 have d2:=c2 ⟨w3,hb3⟩
 have d3:=c3 ⟨w3,hb3⟩
 have d4:=c4 ⟨w3,hb3⟩
 have d5:=c5 ⟨w3,hb3⟩
 clear c0 c1 c2 c3 c4 c5
 dsimp only at d0 d1 d2 d3 d4 d5 ⊢
 go_wp2_with fail
 refine (parts_calls k s n a b' c _).mono ?_
 rintro e w4 ⟨ad,rfl,hb4,hl⟩
 go_wp2_with fail
 have hbw:Below w.heap.size w w4:=by
  have e1:Below w.heap.size w w2:=by rw [Hw.out]; exact (Below.refl _ _).alloc (Nat.le_refl _) _
  have e2:=e1.trans (hb3.mono e1.size)
  exact e2.trans (hb4.mono e2.size)
 have h':=h.later hbw
 have hbB:Below B w w4:=by rw [← hB]; exact hbw
 clear h d0 d1 d2 d3 d4 d5 hb4 hb3
 have hpl:(T.parts ⟨k,s,n,a,b',c⟩).length = many k:=parts_length _
 generalize hps:T.parts ⟨k,s,n,a,b',c⟩ = ps at *
 have Hpl:=hid hpl
 have Hps:=hid hps
 clear hps hpl
 have hm3:=many_le k
 generalize many k = q at *
 go_loop [42] (fun i=>∃ j:Nat,j ≤ q ∧ i = .int .i64 j ∧ Hid (∀ r,r < j → 1 ≤ ps.getD r 0 ∧ ps.getD r 0 ≤ L.length)) (fun i=>q - (intOf i).toNat)
 case atStart=>exact ⟨0,Nat.zero_le _,rfl,hid fun r hr=>by omega⟩
 case round =>
  obtain ⟨j,hj,rfl,hin⟩:=hrel
  by_cases hlt:j < q
  · have hlen:j < ps.length:=by rw [Hpl.out]; exact hlt
    obtain ⟨g,rfl,hc⟩:∃ g,ad = some ⟨g,0,none⟩ ∧ w4.cell? ⟨g,j,none⟩ = some (.int .i64 (ps.getD j 0)):=by
     rcases hl with ⟨h,_⟩ | ⟨g,h1,_,h2⟩
     · rw [h] at hlen; simp at hlen
     · exact ⟨g,h1,ints_cell h2 hlen⟩
    have Hno:=fun h=>hid (partsIn_no (len:=L.length) hlen h)
    have hstep:1 ≤ ps.getD j 0 → ps.getD j 0 ≤ L.length → Hid (∀ r,r < j + 1 → 1 ≤ ps.getD r 0 ∧ ps.getD r 0 ≤ L.length):=fun h1 h2=>hid fun r hr=>by
     by_cases hrj:r < j
     · exact hin.out r hrj
     · obtain rfl:r = j:=by omega
       exact ⟨h1,h2⟩
    clear hl hlen hin
    generalize ps.getD j 0 = p at *
    by_cases hp1:p < 1
    · have hd:decide (p < 1) = true:=by simpa using hp1
      have Hno':=Hno (.inl hp1)
      clear Hno hstep
      go_wp2_with fail
      go_ret
      exact ⟨by rw [Hps.out,Hno'.out]; rfl,by first | exact hbw | exact hbB⟩
    · have hd:decide (p < 1) = false:=by simpa using hp1
      by_cases hp2:(L.length:Int) < p
      · have hd2:decide ((L.length:Int) < p) = true:=by simpa using hp2
        have Hno':=Hno (.inr hp2)
        clear Hno hstep
        go_wp2_with (go_at_call 18; refine (len_calls' h').mono ?_; rintro e w' ⟨rfl,rfl⟩)
        go_ret
        exact ⟨by rw [Hps.out,Hno'.out]; rfl,by first | exact hbw | exact hbB⟩
      · have hd2:decide ((L.length:Int) < p) = false:=by simpa using hp2
        have hst:=hstep (by omega) (by omega)
        clear Hno hstep
        go_wp2_with (go_at_call 18; refine (len_calls' h').mono ?_; rintro e w' ⟨rfl,rfl⟩)
        go_round
        case rel=>exact ⟨j + 1,by omega,by go_num,hst⟩
        case measure=>simp [intOf]; omega
  · obtain rfl:j = q:=by omega
    have Hyes:=hid (partsIn_yes (len:=L.length) (ps:=ps) fun r hr=>hin.out r (by rw [← Hpl.out]; exact hr))
    go_wp2_with fail
    go_ret
    exact ⟨by rw [Hps.out,Hyes.out]; rfl,by first | exact hbw | exact hbB⟩
set_option maxHeartbeats 2000000 in
theorem may_fail1 {b:Nat} (k:Int) (s:ByteArray) (n a b' c:Int) {w:World} (h1:decide (k < 1) = true) :
 Calls Try.prog 57 #[.pointer (some ⟨b,0,none⟩),T.val ⟨k,s,n,a,b',c⟩] w fun e w'=>e = .returned (.bool false) ∧ Below w.heap.size w w':=by
 simp only [T.val]
 go_enter Try.func57,Try.ntmps57
 go_wp2_with fail
 obtain ⟨w2,hw2⟩:∃ w2,w2 = w.alloc (.cells #[.int .i64 k,.string s,.int .u64 n,.int .i64 a,.int .i64 b',.int .i64 c] 47):=⟨_,rfl⟩
 have hbox:w2.heap[w.heap.size]? = some (.cells #[.int .i64 k,.string s,.int .u64 n,.int .i64 a,.int .i64 b',.int .i64 c] 47):=by rw [hw2]; exact heap_at rfl
 rw [← hw2]
 generalize hB:w.heap.size = B at *
 have c0:∀ x:Later w2,x.w.cell? ⟨B,0,none⟩ = some (.int .i64 k):=fun x=>x.cell (by rw [cell_of_heap hbox]; rfl)
 have c1:∀ x:Later w2,x.w.cell? ⟨B,1,none⟩ = some (.string s):=fun x=>x.cell (by rw [cell_of_heap hbox]; rfl)
 have c2:∀ x:Later w2,x.w.cell? ⟨B,2,none⟩ = some (.int .u64 n):=fun x=>x.cell (by rw [cell_of_heap hbox]; rfl)
 have c3:∀ x:Later w2,x.w.cell? ⟨B,3,none⟩ = some (.int .i64 a):=fun x=>x.cell (by rw [cell_of_heap hbox]; rfl)
 have c4:∀ x:Later w2,x.w.cell? ⟨B,4,none⟩ = some (.int .i64 b'):=fun x=>x.cell (by rw [cell_of_heap hbox]; rfl)
 have c5:∀ x:Later w2,x.w.cell? ⟨B,5,none⟩ = some (.int .i64 c):=fun x=>x.cell (by rw [cell_of_heap hbox]; rfl)
 clear hbox
 have Hw:=hid hw2
 clear hw2
 refine wp_region_calm (by kernel_rfl) (by kernel_rfl) ?_
 repeat (go_big_quiet_step (fail))
 refine wpQuiet_nil ?_
 intro w3 hw3
 obtain ⟨⟨w3,hb3⟩,rfl⟩:=hw3
 clear c0 c1 c2 c3 c4 c5
 go_wp2_with fail
 go_ret
 have hbw:Below w.heap.size w w3:=by
  have e1:Below w.heap.size w w2:=by rw [Hw.out]; exact (Below.refl _ _).alloc (Nat.le_refl _) _
  exact e1.trans (hb3.mono e1.size)
 have hbB:Below B w w3:=by rw [← hB]; exact hbw
 exact ⟨rfl,by first | exact hbw | exact hbB⟩

set_option maxHeartbeats 2000000 in
theorem may_fail2 {b:Nat} (k:Int) (s:ByteArray) (n a b' c:Int) {w:World} (h1:decide (k < 1) = false) (h2:decide (12 ≤ k) = true) :
 Calls Try.prog 57 #[.pointer (some ⟨b,0,none⟩),T.val ⟨k,s,n,a,b',c⟩] w fun e w'=>e = .returned (.bool false) ∧ Below w.heap.size w w':=by
 simp only [T.val]
 go_enter Try.func57,Try.ntmps57
 go_wp2_with fail
 obtain ⟨w2,hw2⟩:∃ w2,w2 = w.alloc (.cells #[.int .i64 k,.string s,.int .u64 n,.int .i64 a,.int .i64 b',.int .i64 c] 47):=⟨_,rfl⟩
 have hbox:w2.heap[w.heap.size]? = some (.cells #[.int .i64 k,.string s,.int .u64 n,.int .i64 a,.int .i64 b',.int .i64 c] 47):=by rw [hw2]; exact heap_at rfl
 rw [← hw2]
 generalize hB:w.heap.size = B at *
 have c0:∀ x:Later w2,x.w.cell? ⟨B,0,none⟩ = some (.int .i64 k):=fun x=>x.cell (by rw [cell_of_heap hbox]; rfl)
 have c1:∀ x:Later w2,x.w.cell? ⟨B,1,none⟩ = some (.string s):=fun x=>x.cell (by rw [cell_of_heap hbox]; rfl)
 have c2:∀ x:Later w2,x.w.cell? ⟨B,2,none⟩ = some (.int .u64 n):=fun x=>x.cell (by rw [cell_of_heap hbox]; rfl)
 have c3:∀ x:Later w2,x.w.cell? ⟨B,3,none⟩ = some (.int .i64 a):=fun x=>x.cell (by rw [cell_of_heap hbox]; rfl)
 have c4:∀ x:Later w2,x.w.cell? ⟨B,4,none⟩ = some (.int .i64 b'):=fun x=>x.cell (by rw [cell_of_heap hbox]; rfl)
 have c5:∀ x:Later w2,x.w.cell? ⟨B,5,none⟩ = some (.int .i64 c):=fun x=>x.cell (by rw [cell_of_heap hbox]; rfl)
 clear hbox
 have Hw:=hid hw2
 clear hw2
 refine wp_region_calm (by kernel_rfl) (by kernel_rfl) ?_
 repeat (go_big_quiet_step (fail))
 refine wpQuiet_nil ?_
 intro w3 hw3
 obtain ⟨⟨w3,hb3⟩,rfl⟩:=hw3
 clear c0 c1 c2 c3 c4 c5
 go_wp2_with fail
 go_ret
 have hbw:Below w.heap.size w w3:=by
  have e1:Below w.heap.size w w2:=by rw [Hw.out]; exact (Below.refl _ _).alloc (Nat.le_refl _) _
  exact e1.trans (hb3.mono e1.size)
 have hbB:Below B w w3:=by rw [← hB]; exact hbw
 exact ⟨rfl,by first | exact hbw | exact hbB⟩

set_option maxHeartbeats 2000000 in
theorem may_fail3 {b:Nat} (k:Int) (s:ByteArray) (n a b' c:Int) {w:World} (h1:decide (k < 1) = false) (h2:decide (12 ≤ k) = false) (h3:T.only ⟨k,s,n,a,b',c⟩ ≠ ⟨k,s,n,a,b',c⟩) :
 Calls Try.prog 57 #[.pointer (some ⟨b,0,none⟩),T.val ⟨k,s,n,a,b',c⟩] w fun e w'=>e = .returned (.bool false) ∧ Below w.heap.size w w':=by
 obtain ⟨k',s',n',a2,b2,c2,ho⟩:∃ k' s' n' a2 b2 c2,T.only ⟨k,s,n,a,b',c⟩ = ⟨k',s',n',a2,b2,c2⟩:=⟨_,_,_,_,_,_,rfl⟩
 have Hq:Hid (∀ w,Calls Try.prog 80 #[.agg #[.int .i64 k,.string s,.int .u64 n,.int .i64 a,.int .i64 b',.int .i64 c]] w fun e w' =>
  e = .returned (.agg #[.int .i64 k',.string s',.int .u64 n',.int .i64 a2,.int .i64 b2,.int .i64 c2]) ∧ Below w.heap.size w w'):=hid fun w=>by
  have hq:=only_calls k s n a b' c w
  rw [ho] at hq
  exact hq
 have hE:∀ w,(binOp .neq 47 (.agg #[.int .i64 k,.string s,.int .u64 n,.int .i64 a,.int .i64 b',.int .i64 c]) (.agg #[.int .i64 k',.string s',.int .u64 n',.int .i64 a2,.int .i64 b2,.int .i64 c2])).run Try.prog w = .ok (.bool true) w:=fun w=>by
  have:=neq_T ⟨k,s,n,a,b',c⟩ ⟨k',s',n',a2,b2,c2⟩ w
  rw [show decide ((⟨k,s,n,a,b',c⟩:T) = ⟨k',s',n',a2,b2,c2⟩) = false from by rw [← ho]; exact decide_eq_false (Ne.symm h3)] at this
  exact this
 clear h3 ho
 simp only [T.val]
 go_enter Try.func57,Try.ntmps57
 go_wp2_with fail
 obtain ⟨w2,hw2⟩:∃ w2,w2 = w.alloc (.cells #[.int .i64 k,.string s,.int .u64 n,.int .i64 a,.int .i64 b',.int .i64 c] 47):=⟨_,rfl⟩
 have hbox:w2.heap[w.heap.size]? = some (.cells #[.int .i64 k,.string s,.int .u64 n,.int .i64 a,.int .i64 b',.int .i64 c] 47):=by rw [hw2]; exact heap_at rfl
 rw [← hw2]
 generalize hB:w.heap.size = B at *
 have c0:∀ x:Later w2,x.w.cell? ⟨B,0,none⟩ = some (.int .i64 k):=fun x=>x.cell (by rw [cell_of_heap hbox]; rfl)
 have c1:∀ x:Later w2,x.w.cell? ⟨B,1,none⟩ = some (.string s):=fun x=>x.cell (by rw [cell_of_heap hbox]; rfl)
 have c2:∀ x:Later w2,x.w.cell? ⟨B,2,none⟩ = some (.int .u64 n):=fun x=>x.cell (by rw [cell_of_heap hbox]; rfl)
 have c3:∀ x:Later w2,x.w.cell? ⟨B,3,none⟩ = some (.int .i64 a):=fun x=>x.cell (by rw [cell_of_heap hbox]; rfl)
 have c4:∀ x:Later w2,x.w.cell? ⟨B,4,none⟩ = some (.int .i64 b'):=fun x=>x.cell (by rw [cell_of_heap hbox]; rfl)
 have c5:∀ x:Later w2,x.w.cell? ⟨B,5,none⟩ = some (.int .i64 c):=fun x=>x.cell (by rw [cell_of_heap hbox]; rfl)
 clear hbox
 have Hw:=hid hw2
 clear hw2
 refine wp_region_calm (by kernel_rfl) (by kernel_rfl) ?_
 repeat (go_big_quiet_step ((go_at_call 80; exact Calls.calm (Hq.out _))))
 refine wpQuiet_nil ?_
 intro w3 hw3
 obtain ⟨⟨w3,hb3⟩,rfl⟩:=hw3
 clear c0 c1 c2 c3 c4 c5
 go_wp2_with fail
 go_ret
 have hbw:Below w.heap.size w w3:=by
  have e1:Below w.heap.size w w2:=by rw [Hw.out]; exact (Below.refl _ _).alloc (Nat.le_refl _) _
  exact e1.trans (hb3.mono e1.size)
 have hbB:Below B w w3:=by rw [← hB]; exact hbw
 exact ⟨rfl,by first | exact hbw | exact hbB⟩

set_option maxHeartbeats 2000000 in
theorem may_fail4 {b:Nat} (k:Int) (s:ByteArray) (n a b' c:Int) {w:World} (h1:decide (k < 1) = false) (h2:decide (12 ≤ k) = false) (h3:T.only ⟨k,s,n,a,b',c⟩ = ⟨k,s,n,a,b',c⟩) (h4:decide (1000 < (s.size:Int)) = true) :
 Calls Try.prog 57 #[.pointer (some ⟨b,0,none⟩),T.val ⟨k,s,n,a,b',c⟩] w fun e w'=>e = .returned (.bool false) ∧ Below w.heap.size w w':=by
 have Hq:Hid (∀ w,Calls Try.prog 80 #[.agg #[.int .i64 k,.string s,.int .u64 n,.int .i64 a,.int .i64 b',.int .i64 c]] w fun e w' =>
  e = .returned (.agg #[.int .i64 k,.string s,.int .u64 n,.int .i64 a,.int .i64 b',.int .i64 c]) ∧ Below w.heap.size w w'):=hid fun w=>by
  have hq:=only_calls k s n a b' c w
  rw [h3] at hq
  exact hq
 clear h3
 simp only [T.val]
 go_enter Try.func57,Try.ntmps57
 go_wp2_with fail
 obtain ⟨w2,hw2⟩:∃ w2,w2 = w.alloc (.cells #[.int .i64 k,.string s,.int .u64 n,.int .i64 a,.int .i64 b',.int .i64 c] 47):=⟨_,rfl⟩
 have hbox:w2.heap[w.heap.size]? = some (.cells #[.int .i64 k,.string s,.int .u64 n,.int .i64 a,.int .i64 b',.int .i64 c] 47):=by rw [hw2]; exact heap_at rfl
 rw [← hw2]
 generalize hB:w.heap.size = B at *
 have c0:∀ x:Later w2,x.w.cell? ⟨B,0,none⟩ = some (.int .i64 k):=fun x=>x.cell (by rw [cell_of_heap hbox]; rfl)
 have c1:∀ x:Later w2,x.w.cell? ⟨B,1,none⟩ = some (.string s):=fun x=>x.cell (by rw [cell_of_heap hbox]; rfl)
 have c2:∀ x:Later w2,x.w.cell? ⟨B,2,none⟩ = some (.int .u64 n):=fun x=>x.cell (by rw [cell_of_heap hbox]; rfl)
 have c3:∀ x:Later w2,x.w.cell? ⟨B,3,none⟩ = some (.int .i64 a):=fun x=>x.cell (by rw [cell_of_heap hbox]; rfl)
 have c4:∀ x:Later w2,x.w.cell? ⟨B,4,none⟩ = some (.int .i64 b'):=fun x=>x.cell (by rw [cell_of_heap hbox]; rfl)
 have c5:∀ x:Later w2,x.w.cell? ⟨B,5,none⟩ = some (.int .i64 c):=fun x=>x.cell (by rw [cell_of_heap hbox]; rfl)
 clear hbox
 have Hw:=hid hw2
 clear hw2
 refine wp_region_calm (by kernel_rfl) (by kernel_rfl) ?_
 repeat (go_big_quiet_step ((go_at_call 80; exact Calls.calm (Hq.out _))))
 refine wpQuiet_nil ?_
 intro w3 hw3
 obtain ⟨⟨w3,hb3⟩,rfl⟩:=hw3
 clear c0 c1 c2 c3 c4 c5
 go_wp2_with fail
 go_ret
 have hbw:Below w.heap.size w w3:=by
  have e1:Below w.heap.size w w2:=by rw [Hw.out]; exact (Below.refl _ _).alloc (Nat.le_refl _) _
  exact e1.trans (hb3.mono e1.size)
 have hbB:Below B w w3:=by rw [← hB]; exact hbw
 exact ⟨rfl,by first | exact hbw | exact hbB⟩

set_option maxHeartbeats 2000000 in
theorem may_fail5 {b:Nat} (k:Int) (s:ByteArray) (n a b' c:Int) {w:World} (h1:decide (k < 1) = false) (h2:decide (12 ≤ k) = false) (h3:T.only ⟨k,s,n,a,b',c⟩ = ⟨k,s,n,a,b',c⟩) (h4:decide (1000 < (s.size:Int)) = false) (h5:(k == 4) = true) (h6:decide (b' < a) = true) :
 Calls Try.prog 57 #[.pointer (some ⟨b,0,none⟩),T.val ⟨k,s,n,a,b',c⟩] w fun e w'=>e = .returned (.bool false) ∧ Below w.heap.size w w':=by
 have Hq:Hid (∀ w,Calls Try.prog 80 #[.agg #[.int .i64 k,.string s,.int .u64 n,.int .i64 a,.int .i64 b',.int .i64 c]] w fun e w' =>
  e = .returned (.agg #[.int .i64 k,.string s,.int .u64 n,.int .i64 a,.int .i64 b',.int .i64 c]) ∧ Below w.heap.size w w'):=hid fun w=>by
  have hq:=only_calls k s n a b' c w
  rw [h3] at hq
  exact hq
 clear h3
 simp only [T.val]
 go_enter Try.func57,Try.ntmps57
 go_wp2_with fail
 obtain ⟨w2,hw2⟩:∃ w2,w2 = w.alloc (.cells #[.int .i64 k,.string s,.int .u64 n,.int .i64 a,.int .i64 b',.int .i64 c] 47):=⟨_,rfl⟩
 have hbox:w2.heap[w.heap.size]? = some (.cells #[.int .i64 k,.string s,.int .u64 n,.int .i64 a,.int .i64 b',.int .i64 c] 47):=by rw [hw2]; exact heap_at rfl
 rw [← hw2]
 generalize hB:w.heap.size = B at *
 have c0:∀ x:Later w2,x.w.cell? ⟨B,0,none⟩ = some (.int .i64 k):=fun x=>x.cell (by rw [cell_of_heap hbox]; rfl)
 have c1:∀ x:Later w2,x.w.cell? ⟨B,1,none⟩ = some (.string s):=fun x=>x.cell (by rw [cell_of_heap hbox]; rfl)
 have c2:∀ x:Later w2,x.w.cell? ⟨B,2,none⟩ = some (.int .u64 n):=fun x=>x.cell (by rw [cell_of_heap hbox]; rfl)
 have c3:∀ x:Later w2,x.w.cell? ⟨B,3,none⟩ = some (.int .i64 a):=fun x=>x.cell (by rw [cell_of_heap hbox]; rfl)
 have c4:∀ x:Later w2,x.w.cell? ⟨B,4,none⟩ = some (.int .i64 b'):=fun x=>x.cell (by rw [cell_of_heap hbox]; rfl)
 have c5:∀ x:Later w2,x.w.cell? ⟨B,5,none⟩ = some (.int .i64 c):=fun x=>x.cell (by rw [cell_of_heap hbox]; rfl)
 clear hbox
 have Hw:=hid hw2
 clear hw2
 refine wp_region_calm (by kernel_rfl) (by kernel_rfl) ?_
 repeat (go_big_quiet_step ((go_at_call 80; exact Calls.calm (Hq.out _))))
 refine wpQuiet_nil ?_
 intro w3 hw3
 obtain ⟨⟨w3,hb3⟩,rfl⟩:=hw3
 clear c0 c1 c2 c3 c4 c5
 go_wp2_with fail
 go_ret
 have hbw:Below w.heap.size w w3:=by
  have e1:Below w.heap.size w w2:=by rw [Hw.out]; exact (Below.refl _ _).alloc (Nat.le_refl _) _
  exact e1.trans (hb3.mono e1.size)
 have hbB:Below B w w3:=by rw [← hB]; exact hbw
 exact ⟨rfl,by first | exact hbw | exact hbB⟩

theorem may_calls {b:Nat} {L:List T} {m:Int} {lb db mb lc dc:Nat} (k:Int) (s:ByteArray) (n a b' c:Int) {w:World} (h:StoAt w b L m lb db mb lc dc) :
 Calls Try.prog 57 #[.pointer (some ⟨b,0,none⟩),T.val ⟨k,s,n,a,b',c⟩] w fun e w'=>e = .returned (.bool (decide (T.may L.length ⟨k,s,n,a,b',c⟩))) ∧ Below w.heap.size w w':=by
 by_cases h1:k < 1
 · have e:decide (T.may L.length ⟨k,s,n,a,b',c⟩) = false:=decide_eq_false fun hm=>by have:=hm.1; dsimp only at this; omega
   rw [e]; exact may_fail1 k s n a b' c (by simpa using h1)
 have h1':decide (k < 1) = false:=by simpa using h1
 by_cases h2:12 ≤ k
 · have e:decide (T.may L.length ⟨k,s,n,a,b',c⟩) = false:=decide_eq_false fun hm=>by have:=hm.2.1; dsimp only at this; omega
   rw [e]; exact may_fail2 k s n a b' c h1' (by simpa using h2)
 have h2':decide (12 ≤ k) = false:=by simpa using h2
 by_cases h3:T.only ⟨k,s,n,a,b',c⟩ = ⟨k,s,n,a,b',c⟩
 case neg =>
  have e:decide (T.may L.length ⟨k,s,n,a,b',c⟩) = false:=decide_eq_false fun hm=>h3 hm.2.2.1.symm
  rw [e]; exact may_fail3 k s n a b' c h1' h2' h3
 by_cases h4:1000 < (s.size:Int)
 · have e:decide (T.may L.length ⟨k,s,n,a,b',c⟩) = false:=decide_eq_false fun hm=>by have:=hm.2.2.2.1; dsimp only at this; omega
   rw [e]; exact may_fail4 k s n a b' c h1' h2' h3 (by simpa using h4)
 have h4':decide (1000 < (s.size:Int)) = false:=by simpa using h4
 have key:¬ (k = 4 ∧ b' < a) → decide (T.may L.length ⟨k,s,n,a,b',c⟩) = partsIn L.length (T.parts ⟨k,s,n,a,b',c⟩):=fun h5=>by
  rw [Bool.eq_iff_iff]
  unfold partsIn
  simp only [decide_eq_true_eq,List.all_eq_true,Bool.and_eq_true]
  exact ⟨fun hm=>hm.2.2.2.2.2,fun hp=>⟨by show 1 ≤ k; omega,by show k ≤ 11; omega,h3.symm,by show s.size ≤ 1000; omega,h5,hp⟩⟩
 by_cases h5:k = 4
 · have h5':(k == 4) = true:=by simpa using h5
   by_cases h6:b' < a
   · have e:decide (T.may L.length ⟨k,s,n,a,b',c⟩) = false:=decide_eq_false fun hm=>hm.2.2.2.2.1 ⟨h5,h6⟩
     rw [e]; exact may_fail5 k s n a b' c h1' h2' h3 h4' h5' (by simpa using h6)
   · rw [key fun hh=>h6 hh.2]; exact may_pass4 k s n a b' c h h1' h2' h3 h4' h5' (by simpa using h6)
 · rw [key fun hh=>h5 hh.1]; exact may_pass k s n a b' c h h1' h2' h3 h4' (by simpa using h5)
end Go.Proofs.Ytpcfmafokkffgaa
namespace Go.Proofs.Ytpcfmafokkffgaa
open Go.RowKit

/-- The world on the way: the header holds h0 and h1; the rows vl and vd are owned; nothing else of W has turned. -/
structure PW (W:World) (b lb db mb:Nat) (m:Int) (h0 h1 vl:Value) (nl:Nat) (xs:List Value) (vd:Value) (nd:Nat) (ds:List Value) (X:World):Prop where
 hdr:X.heap[b]? = some (.cells #[h0,h1,.map (some mb),.int .i64 m] 118 (0,0))
 ol:X.ownsRow 0 47 6 vl nl xs
 od:X.ownsRow 0 3 1 vd nd ds
 bl:∀ g,vl.ownBlock = some g → g ≠ b ∧ (g = lb ∨ W.heap.size ≤ g)
 bd:∀ g,vd.ownBlock = some g → g ≠ b ∧ (g = db ∨ W.heap.size ≤ g)
 ld:∀ g,vl.ownBlock = some g → vd.ownBlock ≠ some g
 lts:b < W.heap.size ∧ lb < W.heap.size ∧ db < W.heap.size ∧ lb ≠ db ∧ lb ≠ b ∧ db ≠ b
 old:∀ k,k < W.heap.size → k ≠ b → k ≠ lb → k ≠ db → X.heap[k]? = W.heap[k]?
 os:X.os = W.os
 tape:X.tape = W.tape
 output:X.output = W.output
 size:W.heap.size ≤ X.heap.size

section
variable {W X:World} {b lb db mb:Nat} {m:Int} {h0 h1 vl:Value} {nl:Nat} {xs:List Value} {vd:Value} {nd:Nat} {ds:List Value}

theorem PW.drew (h:PW W b lb db mb m h0 h1 vl nl xs vd nd ds X):PW W b lb db mb m h0 h1 vl nl xs vd nd ds X.drew :=
 ⟨h.hdr,h.ol,h.od,h.bl,h.bd,h.ld,h.lts,h.old,h.os,h.tape,h.output,h.size⟩

theorem PW.alloc (o:Obj) (h:PW W b lb db mb m h0 h1 vl nl xs vd nd ds X):PW W b lb db mb m h0 h1 vl nl xs vd nd ds (X.alloc o):=by
 have hs:=h.size
 refine ⟨?_,h.ol.alloc o,h.od.alloc o,h.bl,h.bd,h.ld,h.lts,fun k h1 h2 h3 h4=>?_,h.os,h.tape,h.output,by simp; omega⟩
 · rw [Below.heap_alloc _ _ _ (by have:=h.lts.1; omega)]; exact h.hdr
 · rw [Below.heap_alloc _ _ _ (by omega)]; exact h.old k h1 h2 h3 h4

theorem PW.c0 (h:PW W b lb db mb m h0 h1 vl nl xs vd nd ds X):X.cell? ⟨b,0,none⟩ = some h0:=by rw [cell_of_heap h.hdr]; rfl
theorem PW.c1 (h:PW W b lb db mb m h0 h1 vl nl xs vd nd ds X):X.cell? ⟨b,1,none⟩ = some h1:=by rw [cell_of_heap h.hdr]; rfl
theorem PW.f0 (h:PW W b lb db mb m h0 h1 vl nl xs vd nd ds X):X.frozen? ⟨b,0,none⟩ = false:=frozen_of_heap h.hdr 0
theorem PW.f1 (h:PW W b lb db mb m h0 h1 vl nl xs vd nd ds X):X.frozen? ⟨b,1,none⟩ = false:=frozen_of_heap h.hdr 1
theorem PW.grown_l {X':World} {g cap:Nat} {ys:List Value} (h:PW W b lb db mb m h0 h1 vl nl xs vd nd ds X) (ho:X'.ownsRow 0 47 6 (.slice (some ⟨g,0,none⟩) (nl + 1) cap) (nl + 1) ys) (hg:X.grownBy X' vl.ownBlock)
 (hgg:vl.ownBlock = some g ∨ g = X.heap.size):PW W b lb db mb m h0 h1 (.slice (some ⟨g,0,none⟩) (nl + 1) cap) (nl + 1) ys vd nd ds X':=by
 obtain ⟨t1,t2,t3,t4,t5,t6⟩:=h.lts
 have hs:=h.size
 have hvd:=h.od.lt
 refine ⟨?_,ho,h.od.kept hg ?_,fun g' e=>?_,h.bd,fun g' e=>?_,h.lts,fun k k1 k2 k3 k4=>?_,hg.os.trans h.os,hg.tape.trans h.tape,hg.output.trans h.output,Nat.le_trans hs hg.size⟩
 · rw [hg.block b (by omega) (fun e=>(h.bl b e.symm).1 rfl)]; exact h.hdr
 · cases hv:vd.ownBlock with
   | none=>exact .inl rfl
   | some k=>exact .inr fun e=>h.ld k e.symm hv
 · simp only [Value.ownBlock,Option.some.injEq] at e
   subst e
   rcases hgg with e | e
   · exact h.bl g e
   · exact ⟨by omega,.inr (by omega)⟩
 · simp only [Value.ownBlock,Option.some.injEq] at e
   subst e
   rcases hgg with e | e
   · exact h.ld g e
   · intro hv
     have:=(hvd g hv).2
     omega
 · rw [hg.block k (by omega) (fun e=>?_)]
   · exact h.old k k1 k2 k3 k4
   · rcases (h.bl k e.symm).2 with e' | e'
     · exact k3 e'
     · omega

theorem PW.grown_d {X':World} {g cap:Nat} {ys:List Value} (h:PW W b lb db mb m h0 h1 vl nl xs vd nd ds X) (ho:X'.ownsRow 0 3 1 (.slice (some ⟨g,0,none⟩) (nd + 1) cap) (nd + 1) ys) (hg:X.grownBy X' vd.ownBlock)
 (hgg:vd.ownBlock = some g ∨ g = X.heap.size):PW W b lb db mb m h0 h1 vl nl xs (.slice (some ⟨g,0,none⟩) (nd + 1) cap) (nd + 1) ys X':=by
 obtain ⟨t1,t2,t3,t4,t5,t6⟩:=h.lts
 have hs:=h.size
 have hvl:=h.ol.lt
 refine ⟨?_,h.ol.kept hg ?_,ho,h.bl,fun g' e=>?_,fun g' e hv=>?_,h.lts,fun k k1 k2 k3 k4=>?_,hg.os.trans h.os,hg.tape.trans h.tape,hg.output.trans h.output,Nat.le_trans hs hg.size⟩
 · rw [hg.block b (by omega) (fun e=>(h.bd b e.symm).1 rfl)]; exact h.hdr
 · cases hv:vl.ownBlock with
   | none=>exact .inl rfl
   | some k=>exact .inr fun e=>h.ld k hv e.symm
 · simp only [Value.ownBlock,Option.some.injEq] at e
   subst e
   rcases hgg with e | e
   · exact h.bd g e
   · exact ⟨by omega,.inr (by omega)⟩
 · simp only [Value.ownBlock,Option.some.injEq] at hv
   subst hv
   rcases hgg with e' | e'
   · exact h.ld g e e'
   · have:=(hvl g e).2
     omega
 · rw [hg.block k (by omega) (fun e=>?_)]
   · exact h.old k k1 k2 k3 k4
   · rcases (h.bd k e.symm).2 with e' | e'
     · exact k4 e'
     · omega

theorem fragIn_later {w w':World} {f:Frag} (h:FragIn f w) (hb:Below w.heap.size w w'):FragIn f w':=fun k o hk=>by
 have hh:=h k o hk
 rw [hb.block k (Array.getElem?_eq_some_iff.1 hh).1]; exact hh

theorem pw_start {b lb db mb lc dc ck:Nat} {lcur dcur:Array Value} {es:Array MapEntry} {L:List T} {m:Int} {w:World} (hf:FragIn (stoFrag b lb db mb lc dc ck lcur dcur es (L.length + 1) m) w) (h:StoOk b lb db mb lc dc lcur dcur es L m) :
 PW w b lb db mb m (.slice (some ⟨lb,0,none⟩) (L.length + 1) lc) (.slice (some ⟨db,0,none⟩) (L.length + 1) dc) (.slice (some ⟨lb,0,none⟩) (L.length + 1) lc) (L.length + 1) (cellsOf (zeroT::L))
  (.slice (some ⟨db,0,none⟩) (L.length + 1) dc) (L.length + 1) (ints (depths L)) w:=by
 obtain ⟨a1,a2,a3,a4,a5,a6⟩:=h.apart
 have h0:w.heap[b]? = some (stoHead lb db mb lc dc (L.length + 1) m):=hf b _ (by simp [stoFrag])
 have h1:w.heap[lb]? = some (.cells lcur 47 (0,0)):=hf lb _ (by simp [stoFrag,Ne.symm a1])
 have h2:w.heap[db]? = some (.cells dcur 3 (0,0)):=hf db _ (by simp [stoFrag,Ne.symm a2,Ne.symm a4])
 refine ⟨h0,⟨cellsOf_length _,.inr ⟨lb,lc,lcur,rfl,Nat.zero_le _,h1,h.lcap,h.lmax,h.lsize,h.lcells⟩⟩,⟨by simp [ints,depths_length],.inr ⟨db,dc,dcur,rfl,Nat.zero_le _,h2,h.dcap,h.dmax,by simp [h.dsize],by simpa using h.dcells⟩⟩,
  fun g e=>?_,fun g e=>?_,fun g e e'=>?_,⟨(Array.getElem?_eq_some_iff.1 h0).1,(Array.getElem?_eq_some_iff.1 h1).1,(Array.getElem?_eq_some_iff.1 h2).1,a4,Ne.symm a1,Ne.symm a2⟩,fun _ _ _ _ _=>rfl,rfl,rfl,rfl,Nat.le_refl _⟩
 · simp only [Value.ownBlock,Option.some.injEq] at e; subst e; exact ⟨Ne.symm a1,.inl rfl⟩
 · simp only [Value.ownBlock,Option.some.injEq] at e; subst e; exact ⟨Ne.symm a2,.inl rfl⟩
 · simp only [Value.ownBlock,Option.some.injEq] at e e'; exact a4 (e.trans e'.symm)

theorem heap_drew (w:World):w.drew.heap = w.heap:=rfl

theorem info_T:∃ i,Try.prog.info? 47 = some i ∧ i.zero = some (T.val zeroT) ∧ i.size = 6 ∧ i.bytes = 56:=info_parts (by kernel_rfl)
theorem info_int:∃ i,Try.prog.info? 3 = some i ∧ i.zero = some (.int .i64 0) ∧ i.size = 1 ∧ i.bytes = 8:=info_parts (by kernel_rfl)

/-- APPEND A TERM, as one step of a region that draws its order. -/
theorem step_l {ops:Array Oper} {o:Oper} {a:Act} {K:Act → World → Prop} {Q:Exit → Act → World → Prop} {E:Prop} (hgd:o.guard = none) (s x:Operand)
 (ho:o.op = .call { callee:=.builtin .append,args:=#[s,x],argTypes:=#[22,22] }) (t:T) (x1:Nat)
 (h:PW W b lb db mb m h0 h1 vl nl xs vd nd ds X) (hs:a.eval s = vl) (hx:a.eval x = .slice (some ⟨x1,0,none⟩) 1 1) (hx1:X.heap[x1]? = some (.cells (T.cells t).toArray 47 (0,0))) (hn:nl ≤ 1048577)
 (hK:∀ g cap X',PW W b lb db mb m h0 h1 (.slice (some ⟨g,0,none⟩) (nl + 1) cap) (nl + 1) (xs ++ T.cells t) vd nd ds X' → (∀ k,k < X.heap.size → W.heap.size ≤ k ∧ vl.ownBlock ≠ some k → X'.heap[k]? = X.heap[k]?) → X.heap.size ≤ X'.heap.size →
  K (a.put o.dst (.slice (some ⟨g,0,none⟩) (nl + 1) cap)) X') :
 if Region.wanted o (yielded ops a.tmps) = true then Oper.wp Try.prog o a X K Q else E:=by
 obtain ⟨i,hi,hz,hsz,hby⟩:=info_T
 refine step_append_lies X hgd s x 22 ho 0 47 i (T.val zeroT) 6 56 (by kernel_rfl) hi hz hsz hby rfl (by decide) vl nl xs hs h.ol ⟨x1,0,none⟩ 1 1 (T.cells t) hx rfl ?_ ?_ (by decide) (by simp only [maxLen]; omega) (by omega) (Nat.zero_le _) _ rfl ?_
 · exact World.news_of_block hx1
 · intro u hu
   simp only [T.cells,List.mem_cons,List.not_mem_nil,or_false] at hu
   rcases hu with rfl | rfl | rfl | rfl | rfl | rfl <;> rfl
 · intro g cap X' ho' hg hgg _
   exact hK g cap X' (h.grown_l ho' hg hgg) (fun k hk hk2=>hg.block k hk fun e=>hk2.2 e.symm) hg.size

/-- APPEND A DEPTH. -/
theorem step_d {ops:Array Oper} {o:Oper} {a:Act} {K:Act → World → Prop} {Q:Exit → Act → World → Prop} {E:Prop} (hgd:o.guard = none) (s x:Operand)
 (ho:o.op = .call { callee:=.builtin .append,args:=#[s,x],argTypes:=#[33,33] }) (d:Int) (x1:Nat)
 (h:PW W b lb db mb m h0 h1 vl nl xs vd nd ds X) (hs:a.eval s = vd) (hx:a.eval x = .slice (some ⟨x1,0,none⟩) 1 1) (hx1:X.heap[x1]? = some (.cells #[.int .i64 d] 3 (0,0))) (hn:nd ≤ 1048577)
 (hK:∀ g cap X',PW W b lb db mb m h0 h1 vl nl xs (.slice (some ⟨g,0,none⟩) (nd + 1) cap) (nd + 1) (ds ++ [.int .i64 d]) X' → (∀ k,k < X.heap.size → W.heap.size ≤ k ∧ vd.ownBlock ≠ some k → X'.heap[k]? = X.heap[k]?) → X.heap.size ≤ X'.heap.size →
  K (a.put o.dst (.slice (some ⟨g,0,none⟩) (nd + 1) cap)) X') :
 if Region.wanted o (yielded ops a.tmps) = true then Oper.wp Try.prog o a X K Q else E:=by
 obtain ⟨i,hi,hz,hsz,hby⟩:=info_int
 refine step_append_lies X hgd s x 33 ho 0 3 i (.int .i64 0) 1 8 (by kernel_rfl) hi hz hsz hby rfl (by decide) vd nd ds hs h.od ⟨x1,0,none⟩ 1 1 [.int .i64 d] hx rfl ?_ ?_ (by decide) (by simp only [maxLen]; omega) (by omega) (Nat.zero_le _) _ rfl ?_
 · exact World.news_of_block hx1
 · intro u hu
   simp only [List.mem_cons,List.not_mem_nil,or_false] at hu
   rcases hu with rfl; rfl
 · intro g cap X' ho' hg hgg _
   exact hK g cap X' (h.grown_d ho' hg hgg) (fun k hk hk2=>hg.block k hk fun e=>hk2.2 e.symm) hg.size
end
end Go.Proofs.Ytpcfmafokkffgaa
namespace Go.Proofs.Ytpcfmafokkffgaa
open Go.RowKit

section
variable {P:Program} {ops:Array Oper} {Q:Exit → Act → World → Prop}

def unlisted (listed:Array Bool):Nat:=listed.toList.count false

theorem unlisted_set {listed:Array Bool} {i:Nat} (h:listed.getD i true = false):unlisted (listed.setIfInBounds i true) + 1 = unlisted listed:=by
 obtain ⟨l⟩:=listed
 have hi:l[i]? = some false:=by
  have h':(l[i]?).getD true = false:=by simpa using h
  cases hl:l[i]? with
  | none=>rw [hl] at h'; cases h'
  | some x=>rw [hl] at h'; simp only [Option.getD_some] at h'; rw [h']
 have key:∀ (l:List Bool) (i:Nat),l[i]? = some false → (l.set i true).count false + 1 = l.count false:=by
  intro l
  induction l with
  | nil=>intro i h; simp at h
  | cons x l ih =>
   intro i h
   cases i with
   | zero =>
    simp only [List.getElem?_cons_zero,Option.some.injEq] at h
    subst h
    simp
   | succ i =>
    simp only [List.getElem?_cons_succ] at h
    have:=ih i h
    simp only [List.set_cons_succ,List.count_cons]
    omega
 simpa [unlisted] using key l i hi

theorem wpAny_inv {I:Array Bool → Act → World → Prop} (step:∀ listed a w,I listed a w → ∀ i,i ∈ Region.ready .any ops listed → wpOp P ops Q i (fun a' w'=>I (listed.setIfInBounds i true) a' w') a w)
 (done:∀ listed a w,I listed a w → Region.ready .any ops listed = [] → Q .normal a w):∀ (fuel:Nat) (listed:Array Bool) (a:Act) (w:World),unlisted listed ≤ fuel → I listed a w → wpAny P .any ops Q fuel listed a w
 | 0,listed,a,w,hf,hI=>by
  have hr:Region.ready .any ops listed = []:=by
   cases hr:Region.ready .any ops listed with
   | nil=>rfl
   | cons i rs =>
    have h1:=(mem_ready.1 (by rw [hr]; exact List.mem_cons_self:i ∈ Region.ready .any ops listed)).1
    have:=unlisted_set h1
    omega
  exact ⟨hr,done listed a w hI hr⟩
 | fuel + 1,listed,a,w,hf,hI=>by
  refine ⟨done listed a w hI,fun i hi=>?_⟩
  have h1:=(mem_ready.1 hi).1
  have h2:=unlisted_set h1
  exact wpOp_mono (fun a' w' h=>wpAny_inv step done fuel _ a' w' (by omega) h) (step listed a w hI i hi)

/-- THE RULE: 'I': what holds of the operations that have come up, the frame and the world (its first argument is the frame at the region's beginning). -/
theorem wp_region_inv {id:Nat} {a:Act} {w:World} (I:Act → Array Bool → Act → World → Prop) (hm:P.follows .mixedOrders = true) (h0:I a (Array.replicate ops.size false) a w.drew)
 (step:∀ listed a' w',I a listed a' w' → ∀ i,i ∈ Region.ready .any ops listed → wpOp P ops Q i (fun a'' w''=>I a (listed.setIfInBounds i true) a'' w'') a' w')
 (done:∀ listed a' w',I a listed a' w' → Region.ready .any ops listed = [] → Q .normal a' w'):(Code.region id ops true).wp P Q a w :=
 wp_region_any hm (wpAny_inv step done _ _ _ _ (by simp [unlisted]) h0)

/-- An operation without a guard. -/
theorem wpOp_plain {i:Nat} {o:Oper} {K:Act → World → Prop} {a:Act} {w:World} (ho:ops[i]? = some o) (hg:o.guard = none) (h:o.wp P a w K Q):wpOp P ops Q i K a w:=by
 unfold wpOp
 rw [ho]
 simp only [Region.wanted,hg,if_true]
 exact .inl h
end
end Go.Proofs.Ytpcfmafokkffgaa
namespace Go.Proofs.Ytpcfmafokkffgaa
open Go.RowKit

/-- The region's operations: what each writes, does, and waits for. -/
def core15:List (Option Tmp × Op × Option (Nat × Bool)):=[
 (some 56,.move (.tmp 0),none),
 (some 57,.move (.tmp 0),none),
 (some 58,.move (.tmp 0),none),
 (some 59,.nilCheck (.tmp 58),none),
 (some 60,.fieldAddr 118 (.tmp 59) 0,none),
 (some 61,.load 22 (.tmp 60),none),
 (some 62,.load 47 (.tmp 3),none),
 (some 63,.buildSlice 22 1 #[(0,.tmp 62)],none),
 (some 64,.call { callee:=.builtin .append,args:=#[.tmp 61,.tmp 63],argTypes:=#[22,22] },none),
 (some 65,.move (.tmp 0),none),
 (some 66,.nilCheck (.tmp 65),none),
 (some 67,.fieldAddr 118 (.tmp 66) 1,none),
 (some 68,.load 33 (.tmp 67),none),
 (some 69,.move (.tmp 8),none),
 (some 70,.binOp .add 3 (.tmp 69) (.const (.int .i64 1)) 3,none),
 (some 71,.buildSlice 33 1 #[(0,.tmp 70)],none),
 (some 72,.call { callee:=.builtin .append,args:=#[.tmp 68,.tmp 71],argTypes:=#[33,33] },none),
 (some 73,.nilCheck (.tmp 56),none),
 (some 74,.fieldAddr 118 (.tmp 73) 0,none),
 (none,.store 22 (.tmp 74) (.tmp 64),none),
 (some 75,.nilCheck (.tmp 57),none),
 (some 76,.fieldAddr 118 (.tmp 75) 1,none),
 (none,.store 33 (.tmp 76) (.tmp 72),none)]
def deps15:List (List Nat):=[[],[],[],[2],[3],[4],[],[6],[5,7],[],[9],[10],[11],[],[13],[14],[12,15,8],[0,0,2,3,4,5,6,7,8,12,16],[17,0,2,3,4,5,6,7,8,12,16],[18,8,16,0,2,3,4,5,6,7,8,12,16],[1,0,1,2,3,4,5,6,7,8,9,10,11,12,13,14,15,16,17,18,19],[20,0,1,2,3,4,5,6,7,8,9,10,11,12,13,14,15,16,17,18,19],[21,16,19,0,1,2,3,4,5,6,7,8,9,10,11,12,13,14,15,16,17,18,19]]

theorem ready_dep {ops:Array Oper} (hd:ops.toList.map (fun o=>(o.after.toList.filter (Region.binds .any)).map (·.on)) = deps15) {listed:Array Bool} {i:Nat} (d:Nat) (hi:i ∈ Region.ready .any ops listed) (h:d ∈ deps15.getD i []):listed.getD d false = true:=by
 obtain ⟨_,o,ho,hall⟩:=mem_ready.1 hi
 have h1:deps15[i]? = some ((o.after.toList.filter (Region.binds .any)).map (·.on)):=by
  rw [← hd,List.getElem?_map,Array.getElem?_toList,ho]; rfl
 simp only [List.getD,h1,Option.getD_some,List.mem_map,List.mem_filter] at h
 obtain ⟨e,⟨he,hb⟩,rfl⟩:=h
 exact hall e (by simpa using he) hb

theorem op_core {ops:Array Oper} (hc:ops.toList.map (fun o=>(o.dst,o.op,o.guard)) = core15) {i:Nat} {o:Oper} (ho:ops[i]? = some o):core15[i]? = some (o.dst,o.op,o.guard):=by
 rw [← hc,List.getElem?_map,Array.getElem?_toList,ho]; rfl

theorem eval_put_same {a:Act} {d:Nat} {v:Value} (h:d < a.tmps.size):(a.put (some d) v).eval (.tmp d) = v:=by
 simp [Act.put,Act.eval,h]
theorem eval_put_ne {a:Act} {d:Option Nat} {t:Nat} {v:Value} (h:d ≠ some t):(a.put d v).eval (.tmp t) = a.eval (.tmp t):=by
 cases d with
 | none=>rfl
 | some d =>
  have hne:d ≠ t:=fun e=>h (by rw [e])
  simp [Act.put,Act.eval,Array.getElem?_setIfInBounds_ne hne]
theorem size_put (a:Act) (d:Option Nat) (v:Value):(a.put d v).tmps.size = a.tmps.size:=by
 cases d <;> simp [Act.put]
theorem defers_put (a:Act) (d:Option Nat) (v:Value):(a.put d v).defers = a.defers:=by
 cases d <;> rfl

theorem own_keep {w w':World} {base:Nat} {e:TypeId} {size:Nat} {v:Value} {n:Nat} {xs:List Value} (h:w.ownsRow base e size v n xs) (hk:∀ g,v.ownBlock = some g → w'.heap[g]? = w.heap[g]?):w'.ownsRow base e size v n xs:=by
 refine ⟨h.1,?_⟩
 rcases h.2 with h2 | ⟨g,cap,cur,hv,hb,hg,r⟩
 · exact .inl h2
 · exact .inr ⟨g,cap,cur,hv,hb,by rw [hk g (by rw [hv]; rfl)]; exact hg,r⟩

def dst15 (i:Nat):Option Nat:=if i ≤ 18 then some (56 + i) else if i = 20 then some 75 else if i = 21 then some 76 else none
theorem dst15_inj {i j d:Nat} (h1:dst15 i = some d) (h2:dst15 j = some d):i = j:=by
 unfold dst15 at h1 h2
 repeat' split at h1
 all_goals repeat' split at h2
 all_goals simp at h1 h2
 all_goals omega
theorem dst15_range {i d:Nat} (h:dst15 i = some d):56 ≤ d ∧ d ≤ 76:=by
 unfold dst15 at h
 repeat' split at h
 all_goals simp at h
 all_goals omega

/-- What each operation yields. -/
def val15 (b:Nat) (sl sd tv:Value) (d:Int) (x1 x2:Nat) (v1 v2:Value) (i:Nat):Value :=
 if i = 11 ∨ i = 21 then .pointer (some ⟨b,1,none⟩) else if i = 5 then sl else if i = 6 then tv else if i = 7 then .slice (some ⟨x1,0,none⟩) 1 1 else if i = 8 then v1 else if i = 12 then sd
 else if i = 13 then .int .i64 d else if i = 14 then .int .i64 (d + 1) else if i = 15 then .slice (some ⟨x2,0,none⟩) 1 1 else if i = 16 then v2 else .pointer (some ⟨b,0,none⟩)

/-- What has been yielded stands in its slot; the other slots are as they were. -/
structure Slots (a0:Act) (val:Nat → Value) (listed:Array Bool) (a:Act):Prop where
 size:a.tmps.size = a0.tmps.size
 defers:a.defers = a0.defers
 rest:∀ t:Nat,(t < 56 ∨ 76 < t) → a.eval (.tmp t) = a0.eval (.tmp t)
 has:∀ i d,listed.getD i false = true → dst15 i = some d → a.eval (.tmp d) = val i

theorem getD_set {listed:Array Bool} {i j:Nat} (h:(listed.setIfInBounds i true).getD j false = true):j = i ∨ listed.getD j false = true:=by
 by_cases e:i = j
 · exact .inl e.symm
 · right
   simpa [Array.getElem?_setIfInBounds_ne e] using h

theorem Slots.step {a0 a:Act} {val val':Nat → Value} {listed:Array Bool} {o:Oper} {i:Nat} {v:Value} (h:Slots a0 val listed a) (hs:76 < a0.tmps.size) (hd:o.dst = dst15 i) (hv:dst15 i = none ∨ v = val' i)
 (hval:∀ j,j ≠ i → listed.getD j false = true → val' j = val j):Slots a0 val' (listed.setIfInBounds i true) (a.put o.dst v):=by
 refine ⟨(size_put _ _ _).trans h.size,(defers_put _ _ _).trans h.defers,fun t ht=>?_,fun j d hj hjd=>?_⟩
 · rw [eval_put_ne]
   · exact h.rest t ht
   · rw [hd]; intro e; have:=dst15_range e; omega
 · by_cases e:j = i
   · subst e
     rw [hd,hjd,eval_put_same (by rw [h.size]; have:=dst15_range hjd; omega)]
     rcases hv with hv | hv
     · rw [hv] at hjd; cases hjd
     · exact hv
   · have hl:listed.getD j false = true:=(getD_set hj).resolve_left e
     rw [eval_put_ne (by rw [hd]; intro e'; exact e (dst15_inj hjd e'))]
     rw [hval j e hl]
     exact h.has j d hl hjd

section
variable {P:Program} {o:Oper} {a:Act} {w:World} {K:Act → World → Prop} {Q:Exit → Act → World → Prop}
theorem wp_of_run {v:Value} {w':World} (h:(execOp a.eval o).run P w = .ok (.value v) w') (hk:K (a.put o.dst v) w'):o.wp P a w K Q:=by
 unfold Oper.wp; rw [h]; exact hk
theorem wp_of_skip {w':World} (h:(execOp a.eval o).run P w = .ok .skip w') (hk:K (a.put o.dst undef) w'):o.wp P a w K Q:=by
 unfold Oper.wp; rw [h]; exact hk
end

theorem exec_move {ρ:Operand → Value} {o:Oper} {x:Operand} (ho:o.op = .move x) (P:Program) (w:World):(execOp ρ o).run P w = .ok (.value (ρ x)) w:=by
 simp [execOp,ho,go_sem]
theorem exec_nil {ρ:Operand → Value} {o:Oper} {x:Operand} {p:Addr} (ho:o.op = .nilCheck x) (hx:ρ x = .pointer (some p)) (P:Program) (w:World):(execOp ρ o).run P w = .ok (.value (.pointer (some p))) w:=by
 simp [execOp,ho,hx,go_sem]
theorem exec_fa0 {ρ:Operand → Value} {o:Oper} {x:Operand} {b:Nat} (ho:o.op = .fieldAddr 118 x 0) (hx:ρ x = .pointer (some ⟨b,0,none⟩)) (w:World):(execOp ρ o).run Try.prog w = .ok (.value (.pointer (some ⟨b,0,none⟩))) w:=by
 simp [execOp,ho,hx,go_sem]
theorem exec_fa1 {ρ:Operand → Value} {o:Oper} {x:Operand} {b:Nat} (ho:o.op = .fieldAddr 118 x 1) (hx:ρ x = .pointer (some ⟨b,0,none⟩)) (w:World):(execOp ρ o).run Try.prog w = .ok (.value (.pointer (some ⟨b,1,none⟩))) w:=by
 simp [execOp,ho,hx,go_sem]
theorem exec_load_l {ρ:Operand → Value} {o:Oper} {x:Operand} {p:Addr} {v:Value} {w:World} (ho:o.op = .load 22 x) (hx:ρ x = .pointer (some p)) (hc:w.cell? p = some v):(execOp ρ o).run Try.prog w = .ok (.value v) w:=by
 simp [execOp,ho,hx,hc,go_sem]
theorem exec_load_d {ρ:Operand → Value} {o:Oper} {x:Operand} {p:Addr} {v:Value} {w:World} (ho:o.op = .load 33 x) (hx:ρ x = .pointer (some p)) (hc:w.cell? p = some v):(execOp ρ o).run Try.prog w = .ok (.value v) w:=by
 simp [execOp,ho,hx,hc,go_sem]
theorem exec_load_t {ρ:Operand → Value} {o:Oper} {x:Operand} {B:Nat} {t:T} {w:World} (ho:o.op = .load 47 x) (hx:ρ x = .pointer (some ⟨B,0,none⟩)) (hc:w.heap[B]? = some (.cells (T.cells t).toArray 47 (0,0))) :
 (execOp ρ o).run Try.prog w = .ok (.value (T.val t)) w:=by
 have c0:w.cell? ⟨B,0,none⟩ = some (.int .i64 t.k):=by rw [cell_of_heap hc]; rfl
 have c1:w.cell? ⟨B,1,none⟩ = some (.string t.s):=by rw [cell_of_heap hc]; rfl
 have c2:w.cell? ⟨B,2,none⟩ = some (.int .u64 t.n):=by rw [cell_of_heap hc]; rfl
 have c3:w.cell? ⟨B,3,none⟩ = some (.int .i64 t.a):=by rw [cell_of_heap hc]; rfl
 have c4:w.cell? ⟨B,4,none⟩ = some (.int .i64 t.b):=by rw [cell_of_heap hc]; rfl
 have c5:w.cell? ⟨B,5,none⟩ = some (.int .i64 t.c):=by rw [cell_of_heap hc]; rfl
 simp [execOp,ho,hx,c0,c1,c2,c3,c4,c5,go_sem,T.val]
theorem exec_build_t {ρ:Operand → Value} {o:Oper} {x:Operand} {t:T} {w:World} (ho:o.op = .buildSlice 22 1 #[(0,x)]) (hx:ρ x = T.val t) :
 (execOp ρ o).run Try.prog w = .ok (.value (.slice (some ⟨w.heap.size,0,none⟩) 1 1)) (w.alloc (.cells (T.cells t).toArray 47)):=by
 simp [execOp,ho,hx,go_sem,T.val,T.cells]
theorem exec_build_d {ρ:Operand → Value} {o:Oper} {x:Operand} {d:Int} {w:World} (ho:o.op = .buildSlice 33 1 #[(0,x)]) (hx:ρ x = .int .i64 d) :
 (execOp ρ o).run Try.prog w = .ok (.value (.slice (some ⟨w.heap.size,0,none⟩) 1 1)) (w.alloc (.cells #[.int .i64 d] 3)):=by
 simp [execOp,ho,hx,go_sem]
theorem exec_add1 {ρ:Operand → Value} {o:Oper} {x:Operand} {d:Int} {w:World} (ho:o.op = .binOp .add 3 x (.const (.int .i64 1)) 3) (hx:ρ x = .int .i64 d) (hc:ρ (.const (.int .i64 1)) = .int .i64 1) (h0:0 ≤ d) (h1:d ≤ 1048577) :
 (execOp ρ o).run Try.prog w = .ok (.value (.int .i64 (d + 1))) w:=by
 have hw:IntKind.i64.wrap (d + 1) = d + 1:=IntWalk.i64_in _ (by omega)
 simp [execOp,ho,hx,hc,go_sem]
 first | exact hw | omega | (rw [wrap64]; omega)
theorem exec_store_l {ρ:Operand → Value} {o:Oper} {x y:Operand} {p:Addr} {u:Value} {g n c:Nat} {w:World} (ho:o.op = .store 22 x y) (hx:ρ x = .pointer (some p)) (hy:ρ y = .slice (some ⟨g,0,none⟩) n c) (hc:w.cell? p = some u) (hf:w.frozen? p = false) :
 (execOp ρ o).run Try.prog w = .ok .skip (w.setCell p (.slice (some ⟨g,0,none⟩) n c)):=by
 simp [execOp,ho,hx,hy,hc,hf,go_sem]
theorem exec_store_d {ρ:Operand → Value} {o:Oper} {x y:Operand} {p:Addr} {u:Value} {g n c:Nat} {w:World} (ho:o.op = .store 33 x y) (hx:ρ x = .pointer (some p)) (hy:ρ y = .slice (some ⟨g,0,none⟩) n c) (hc:w.cell? p = some u) (hf:w.frozen? p = false) :
 (execOp ρ o).run Try.prog w = .ok .skip (w.setCell p (.slice (some ⟨g,0,none⟩) n c)):=by
 simp [execOp,ho,hx,hy,hc,hf,go_sem]
end Go.Proofs.Ytpcfmafokkffgaa
