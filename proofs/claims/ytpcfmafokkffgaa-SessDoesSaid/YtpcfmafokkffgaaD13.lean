/-
  Walks and laws that the proof stands on, one behind another: SessL SessM. For every input.
-/
import Derived.Test.YtpcfmafokkffgaaD7
import Derived.Test.YtpcfmafokkffgaaD5
namespace Go.Proofs.Ytpcfmafokkffgaa
open Go.RowKit

/-- A chain, so many steps behind C. -/
def Ch (L:List T) (C:Int):Nat → Int → Prop
 | 0,x=>x = C
 | j + 1,x=>∃ k,Ch L C j k ∧ At L x (keyT k 2)
/-- An epoch's key. -/
def Ky (L:List T) (C:Int) (j:Nat) (y:Int):Prop:=∃ k,Ch L C j k ∧ At L y (keyT k 1)
/-- A text, sealed. -/
def Sl (L:List T) (C h e n:Int) (t:ByteArray) (c:Int):Prop:=0 ≤ e ∧ ∃ y p,Ky L C e.toNat y ∧ At L p (txtT t) ∧ At L c (seaT y n h p)
/-- It is a Nonce. -/
def Non (L:List T) (C:Int):Prop:=∃ n,At L C (nonT n)

section
variable {L L':List T} {C D h e n x y c:Int} {t:ByteArray}
theorem wTake_yes (h:wCan x y n = true):(wTake x y n).2 = 0:=by
 unfold wTake
 rw [if_pos h]
 split <;> rfl
theorem wTake_no (h:wCan x y n = false):(wTake x y n).2 = 12:=by
 unfold wTake
 rw [h]
 rfl
/-- The store, whatever is done. -/
def Grow (L L':List T) (N:Nat):Prop:=Ext L L' ∧ Good L' ∧ L'.length ≤ L.length + N
/-- A receiver that hangs on a chain. -/
structure Rv (L:List T) (C:Int) (r:Rc):Prop where
 lo:0 ≤ r.ie
 ch:Ch L C r.ie.toNat r.ik
 es:∀ z ∈ r.es,0 ≤ z.ep ∧ z.ep < r.ie ∧ Ky L C z.ep.toNat z.key
/-- It takes a text of this epoch, and of this number, no more. -/
def Shut (r:Rc) (e n:Int):Prop:=e ≤ r.ie ∧ (e = r.ie → wCan r.nx r.bt n = false) ∧ ∀ z ∈ r.es,z.ep = e → wCan z.nx z.bt n = false

end
end Go.Proofs.Ytpcfmafokkffgaa
namespace Go.Proofs.Ytpcfmafokkffgaa
open Go.RowKit

section
variable {L L':List T} {C D h e n x y c:Int} {t s:ByteArray} {m:Int}
/-- A sender that hangs on a chain. -/
structure Sd (L:List T) (C h:Int) (x:Se):Prop where
 ch:Ch L C x.oe.toNat x.ok
 h:x.h = h
/-- The next one, in this epoch or the next one. -/
def Foll (a b:Int × Int):Prop:=(b.1 = a.1 ∧ b.2 = a.2 + 1) ∨ (b.1 = a.1 + 1 ∧ b.2 = 0)
/-- Opened up to here. -/
def RAt (r:Rc) (a:Int × Int):Prop:=r.ie = a.1 ∧ r.nx = a.2 + 1
/-- The next but one was opened, the next one not yet. -/
def Mid (r:Rc) (a b:Int × Int):Prop:=RAt r b ∧ (a.1 = b.1 → a.2 < b.2 ∧ wCan r.nx r.bt a.2 = true) ∧ (a.1 ≠ b.1 → a.1 < b.1 ∧ ∃ z,kGet r.es a.1 = (z,true) ∧ wCan z.nx z.bt a.2 = true)

theorem wTake_zero (hn:0 ≤ n):wTake 0 0 n = ((n + 1,1),0):=by
 unfold wTake wCan
 rw [if_pos (by simp [hn]),if_neg (by omega)]
 simp
/-- The text of the number k was opened, in epoch 0, behind which there may be a next one. -/
def LateSt (r:Rc) (k:Nat):Prop :=
 Shut r 0 k ∧ ((r.ie = 0 ∧ wCan r.nx r.bt 0 = decide (k ≤ 63)) ∨ (0 < r.ie ∧ ∃ z,kGet r.es 0 = (z,true) ∧ wCan z.nx z.bt 0 = decide (k ≤ 63)))
end
end Go.Proofs.Ytpcfmafokkffgaa
