/-
  Walks and laws that the proof stands on, one behind another: SessP SessL SessM SessA SessC SessB. For every input.
-/
import Derived.Test.YtpcfmafokkffgaaY3
import Derived.Test.YtpcfmafokkffgaaY4
namespace Go.Proofs.Ytpcfmafokkffgaa

/-- What it receives with. -/
structure Rc where
  ik : Int
  ie : Int
  nx : Int
  bt : Int
  es : List En

structure RcOk (y : Rc) : Prop where
  w : WIn y.nx y.bt
  ws : ∀ e ∈ y.es, WIn e.nx e.bt
  rises : Rises y.es
  len : y.es.length ≤ 4
  lo : 0 ≤ y.ie
  hi : y.ie ≤ 1000

def now19 (m : Int) (L : List T) (y : Rc) (n : Int) : Rc × Int × Int × List T :=
  if (wTake y.nx y.bt n).2 = 0 then
    (⟨y.ik, y.ie, (wTake y.nx y.bt n).1.1, (wTake y.nx y.bt n).1.2, y.es⟩, (put m L (keyT y.ik 1)).1, (put m L (keyT y.ik 1)).2.1, (put m L (keyT y.ik 1)).2.2)
  else (y, 0, (wTake y.nx y.bt n).2, L)

def puts19 : List En → Int → Int → Int → List Int → List En
  | es, _, _, _, [] => es
  | es, e, x, y, k :: ks => puts19 (kPut es ⟨e, k, x, y⟩).1 (e + 1) 0 0 ks

def later19 (m : Int) (L : List T) (y : Rc) (e n : Int) : Rc × Int × Int × List T :=
  if (to15 m L y.ik y.ie e).2.2.1 = 0 then
    now19 m (to15 m L y.ik y.ie e).2.2.2 ⟨(to15 m L y.ik y.ie e).1.1, (to15 m L y.ik y.ie e).1.2, 0, 0, puts19 y.es y.ie y.nx y.bt (to15 m L y.ik y.ie e).2.1⟩ n
  else (y, 0, (to15 m L y.ik y.ie e).2.2.1, (to15 m L y.ik y.ie e).2.2.2)

def ago19 (y : Rc) (e n : Int) : Rc × Int × Int :=
  if (kGet y.es e).2 = true then
    if (wTake (kGet y.es e).1.nx (kGet y.es e).1.bt n).2 = 0 then
      (⟨y.ik, y.ie, y.nx, y.bt, (kPut y.es ⟨(kGet y.es e).1.ep, (kGet y.es e).1.key, (wTake (kGet y.es e).1.nx (kGet y.es e).1.bt n).1.1, (wTake (kGet y.es e).1.nx (kGet y.es e).1.bt n).1.2⟩).1⟩, (kGet y.es e).1.key, 0)
    else (y, 0, (wTake (kGet y.es e).1.nx (kGet y.es e).1.bt n).2)
  else (y, 0, 12)

/-- One side of a session. -/
structure Se where
  ok : Int
  oe : Int
  sent : Int
  rc : Rc
  h : Int
  s : Int
  r : Int
  v : Int

structure SeOk (x : Se) : Prop where
  rc : RcOk x.rc
  oe0 : 0 ≤ x.oe
  oe1 : x.oe ≤ 1000
  s0 : 0 ≤ x.sent
  s1 : x.sent ≤ 256

def step19 (m : Int) (L : List T) (x : Se) : Int × Se × List T :=
  if (next15 m L x.ok x.oe).2.1 = 0 then (0, { x with ok := (next15 m L x.ok x.oe).1.1, oe := (next15 m L x.ok x.oe).1.2, sent := 0 }, (next15 m L x.ok x.oe).2.2)
  else ((next15 m L x.ok x.oe).2.1, x, (next15 m L x.ok x.oe).2.2)

/-- What is sealed with a chain, in its epoch, as the text of a number. -/
def sealW (m : Int) (L : List T) (k n h : Int) (s : ByteArray) : Int × Int × List T :=
  if (put m L (keyT k 1)).2.1 = 0 then text5 m (put m L (keyT k 1)).2.2 (put m L (keyT k 1)).1 n h s else (0, (put m L (keyT k 1)).2.1, (put m L (keyT k 1)).2.2)

def seal19 (m : Int) (L : List T) (x : Se) (s : ByteArray) : (Int × Int × Int × Int) × Se × List T :=
  if 1000 < (s.size : Int) then ((0, 0, 0, 1), x, L)
  else if 256 ≤ x.sent then
    if (next15 m L x.ok x.oe).2.1 = 0 then
      if (sealW m (next15 m L x.ok x.oe).2.2 (next15 m L x.ok x.oe).1.1 0 x.h s).2.1 = 0 then
        (((next15 m L x.ok x.oe).1.2, 0, (sealW m (next15 m L x.ok x.oe).2.2 (next15 m L x.ok x.oe).1.1 0 x.h s).1, 0), { x with ok := (next15 m L x.ok x.oe).1.1, oe := (next15 m L x.ok x.oe).1.2, sent := 1 }, (sealW m (next15 m L x.ok x.oe).2.2 (next15 m L x.ok x.oe).1.1 0 x.h s).2.2)
      else ((0, 0, 0, (sealW m (next15 m L x.ok x.oe).2.2 (next15 m L x.ok x.oe).1.1 0 x.h s).2.1), x, (sealW m (next15 m L x.ok x.oe).2.2 (next15 m L x.ok x.oe).1.1 0 x.h s).2.2)
    else ((0, 0, 0, (next15 m L x.ok x.oe).2.1), x, (next15 m L x.ok x.oe).2.2)
  else if (sealW m L x.ok x.sent x.h s).2.1 = 0 then ((x.oe, x.sent, (sealW m L x.ok x.sent x.h s).1, 0), { x with sent := x.sent + 1 }, (sealW m L x.ok x.sent x.h s).2.2)
  else ((0, 0, 0, (sealW m L x.ok x.sent x.h s).2.1), x, (sealW m L x.ok x.sent x.h s).2.2)

/-- What a side would receive with, and the key. -/
def recv19 (m : Int) (L : List T) (y : Rc) (e n : Int) : Rc × Int × Int × List T :=
  if e = y.ie then now19 m L y n else if y.ie < e then later19 m L y e n else ((ago19 y e n).1, (ago19 y e n).2.1, (ago19 y e n).2.2, L)

def open19 (m : Int) (L : List T) (x : Se) (e n c : Int) : (ByteArray × Int) × Se × List T :=
  if getB L c = true ∧ 0 ≤ e ∧ 0 ≤ n ∧ n < 256 then
    if (recv19 m L x.rc e n).2.2.1 = 0 then
      if (read5 (recv19 m L x.rc e n).2.2.2 (recv19 m L x.rc e n).2.1 n x.h c).2 = 0 then ((((read5 (recv19 m L x.rc e n).2.2.2 (recv19 m L x.rc e n).2.1 n x.h c).1), 0), { x with rc := (recv19 m L x.rc e n).1 }, (recv19 m L x.rc e n).2.2.2)
      else ((⟨#[]⟩, (read5 (recv19 m L x.rc e n).2.2.2 (recv19 m L x.rc e n).2.1 n x.h c).2), x, (recv19 m L x.rc e n).2.2.2)
    else ((⟨#[]⟩, (recv19 m L x.rc e n).2.2.1), x, (recv19 m L x.rc e n).2.2.2)
  else ((⟨#[]⟩, 1), x, L)

theorem wIn_zero : WIn 0 0 := ⟨by decide, by decide, by decide, by decide, fun _ => rfl⟩

theorem now19_ok {m : Int} {L : List T} {y : Rc} {n : Int} (h : RcOk y) (hn : 0 ≤ n) (hn' : n ≤ 255) : RcOk (now19 m L y n).1 := by
  unfold now19
  split
  · exact ⟨wTake_in h.w hn hn', h.ws, h.rises, h.len, h.lo, h.hi⟩
  · exact h
theorem mem_kPut {es : List En} {e x : En} (h : Rises es) (h4 : es.length ≤ 4) (hx : x ∈ (kPut es e).1) : x = e ∨ x ∈ es := by
  rw [kPut_eq h h4] at hx
  unfold rPut at hx
  have key : ∀ z ∈ ins es e, z = e ∨ z ∈ es := fun z hz => (mem_ins.1 hz).imp id fun h => h.1
  split at hx
  · exact key x hx
  · exact key x (List.mem_of_mem_drop hx)
theorem puts19_ok : ∀ (ks : List Int) {es : List En} {e x y : Int}, WIn x y → Rises es → es.length ≤ 4 → (∀ z ∈ es, WIn z.nx z.bt) → Rises (puts19 es e x y ks) ∧ (puts19 es e x y ks).length ≤ 4 ∧ ∀ z ∈ puts19 es e x y ks, WIn z.nx z.bt
  | [], _, _, _, _, _, hr, h4, hw => ⟨hr, h4, hw⟩
  | k :: ks, es, e, x, y, hxy, hr, h4, hw => puts19_ok ks wIn_zero (kPut_rises hr h4 _) (kPut_length hr h4 _) fun z hz => by
    rcases mem_kPut hr h4 hz with rfl | hz
    · exact hxy
    · exact hw z hz
theorem to15_epoch {m : Int} {L : List T} {k e x : Int} {q : (Int × Int) × List Int × Int × List T} (hq : to15 m L k e x = q) (h0 : q.2.2.1 = 0) (he : 0 ≤ e) (he' : e ≤ 1000) : q.1.2 = x ∧ 0 ≤ x ∧ x ≤ 1000 ∧ q.2.1.length = (x - e).toNat ∧ e ≤ x ∧ x ≤ e + 4 := by
  have key : ∀ (n : Nat) (L : List T) (k e : Int), (steps15 m n L k e).2.2.1 = 0 → e ≤ 1000 → (steps15 m n L k e).2.1.2 = e + n ∧ (steps15 m n L k e).1.length = n ∧ e + n ≤ 1000 := by
    intro n
    induction n with
    | zero => intro L k e _ he; simp [steps15]; exact he
    | succ n ih =>
      intro L k e h1 he
      rw [steps15_succ] at h1 ⊢
      split at h1
      · rename_i h2
        split at h1
        · rename_i h3
          rw [if_pos h2, if_pos h3]
          have hn : next15 m (put m L (keyT k 1)).2.2 k e = (((next15 m (put m L (keyT k 1)).2.2 k e).1.1, (next15 m (put m L (keyT k 1)).2.2 k e).1.2), 0, (next15 m (put m L (keyT k 1)).2.2 k e).2.2) := by rw [← h3]
          obtain ⟨d1, d2, d3⟩ := next15_epoch hn
          dsimp only at h1 ⊢
          rw [d1] at h1 ⊢
          obtain ⟨i1, i2, i3⟩ := ih _ _ _ h1 (by omega)
          refine ⟨by rw [i1]; omega, by simp [i2], by omega⟩
        · rename_i h3
          exact absurd h1 h3
      · rename_i h2
        exact absurd h1 h2
  unfold to15 at hq
  split at hq
  · subst hq; simp at h0
  · split at hq
    · subst hq; simp at h0
    · split at hq
      · rename_i h1 h2 h3
        subst hq
        obtain ⟨i1, i2, i3⟩ := key _ _ _ _ h3 he'
        dsimp only
        refine ⟨by rw [i1]; omega, by omega, by omega, i2, by omega, by omega⟩
      · rename_i h3
        subst hq
        exact absurd h0 h3
theorem later19_ok {m : Int} {L : List T} {y : Rc} {e n : Int} (h : RcOk y) (hn : 0 ≤ n) (hn' : n ≤ 255) : RcOk (later19 m L y e n).1 := by
  unfold later19
  split
  · rename_i h0
    obtain ⟨k1, k2, k3, _⟩ := to15_epoch rfl h0 h.lo h.hi
    obtain ⟨p1, p2, p3⟩ := puts19_ok (to15 m L y.ik y.ie e).2.1 (e := y.ie) h.w h.rises h.len h.ws
    exact now19_ok ⟨wIn_zero, p3, p1, p2, by rw [k1]; exact k2, by rw [k1]; exact k3⟩ hn hn'
  · exact h
theorem kGet_mem {es : List En} {n : Int} (h : (kGet es n).2 = true) : (kGet es n).1 ∈ es ∧ (kGet es n).1.ep = n := by
  unfold kGet at h ⊢
  split at h
  · rename_i hi
    rw [if_pos hi]
    obtain ⟨e, he, hn⟩ := isAt_some hi
    dsimp only
    rw [List.getD_eq_getElem?_getD, he]
    exact ⟨List.mem_of_getElem? he, hn⟩
  · simp at h
theorem ago19_ok {y : Rc} {e n : Int} (h : RcOk y) (hn : 0 ≤ n) (hn' : n ≤ 255) : RcOk (ago19 y e n).1 := by
  unfold ago19
  split
  · rename_i hg
    split
    · refine ⟨h.w, fun z hz => ?_, kPut_rises h.rises h.len _, kPut_length h.rises h.len _, h.lo, h.hi⟩
      rcases mem_kPut h.rises h.len hz with rfl | hz
      · exact wTake_in (h.ws _ (kGet_mem hg).1) hn hn'
      · exact h.ws z hz
    · exact h
  · exact h
theorem recv19_ok {m : Int} {L : List T} {y : Rc} {e n : Int} (h : RcOk y) (hn : 0 ≤ n) (hn' : n ≤ 255) : RcOk (recv19 m L y e n).1 := by
  unfold recv19
  split
  · exact now19_ok h hn hn'
  · split
    · exact later19_ok h hn hn'
    · exact ago19_ok h hn hn'
theorem open19_ok {m : Int} {L : List T} {x : Se} {e n c : Int} (h : SeOk x) : SeOk (open19 m L x e n c).2.1 := by
  unfold open19
  split
  · rename_i hc
    split
    · split
      · exact ⟨recv19_ok h.rc hc.2.2.1 (by omega), h.oe0, h.oe1, h.s0, h.s1⟩
      · exact h
    · exact h
  · exact h
theorem step19_ok {m : Int} {L : List T} {x : Se} (h : SeOk x) : SeOk (step19 m L x).2.1 := by
  unfold step19
  split
  · rename_i h0
    have hn : next15 m L x.ok x.oe = (((next15 m L x.ok x.oe).1.1, (next15 m L x.ok x.oe).1.2), 0, (next15 m L x.ok x.oe).2.2) := by rw [← h0]
    obtain ⟨d1, d2, d3⟩ := next15_epoch hn
    exact ⟨h.rc, by dsimp only; omega, by dsimp only; omega, by dsimp only; omega, by dsimp only; omega⟩
  · exact h
theorem seal19_ok {m : Int} {L : List T} {x : Se} {s : ByteArray} (h : SeOk x) : SeOk (seal19 m L x s).2.1 := by
  unfold seal19
  split
  · exact h
  · split
    · split
      · split
        · rename_i h0 _
          have hn : next15 m L x.ok x.oe = (((next15 m L x.ok x.oe).1.1, (next15 m L x.ok x.oe).1.2), 0, (next15 m L x.ok x.oe).2.2) := by rw [← h0]
          obtain ⟨d1, d2, d3⟩ := next15_epoch hn
          exact ⟨h.rc, by dsimp only; omega, by dsimp only; omega, by dsimp only; omega, by dsimp only; omega⟩
        · exact h
      · exact h
    · split
      · exact ⟨h.rc, h.oe0, h.oe1, by have := h.s0; dsimp only; omega, by dsimp only; omega⟩
      · exact h
end Go.Proofs.Ytpcfmafokkffgaa
namespace Go.Proofs.Ytpcfmafokkffgaa
open Go.RowKit

/-- A chain, so many steps behind C. -/
def Ch (L : List T) (C : Int) : Nat → Int → Prop
  | 0, x => x = C
  | j + 1, x => ∃ k, Ch L C j k ∧ At L x (keyT k 2)
/-- An epoch's key. -/
def Ky (L : List T) (C : Int) (j : Nat) (y : Int) : Prop := ∃ k, Ch L C j k ∧ At L y (keyT k 1)
/-- A text, sealed. -/
def Sl (L : List T) (C h e n : Int) (t : ByteArray) (c : Int) : Prop := 0 ≤ e ∧ ∃ y p, Ky L C e.toNat y ∧ At L p (txtT t) ∧ At L c (seaT y n h p)
/-- It is a Nonce. -/
def Non (L : List T) (C : Int) : Prop := ∃ n, At L C (nonT n)

section
variable {L L' : List T} {C D h e n x y c : Int} {t : ByteArray}
theorem Non.ext (h : Non L C) (e : Ext L L') : Non L' C := by obtain ⟨n, h⟩ := h; exact ⟨n, h.ext e⟩
theorem Ch.ext (e : Ext L L') : ∀ {j : Nat} {x : Int}, Ch L C j x → Ch L' C j x
  | 0, _, h => h
  | _ + 1, _, ⟨k, h1, h2⟩ => ⟨k, Ch.ext e h1, h2.ext e⟩
theorem Ky.ext {j : Nat} (e : Ext L L') (h : Ky L C j y) : Ky L' C j y := by obtain ⟨k, h1, h2⟩ := h; exact ⟨k, h1.ext e, h2.ext e⟩
theorem Sl.ext (e1 : Ext L L') (hs : Sl L C h e n t c) : Sl L' C h e n t c := by
  obtain ⟨h0, y, p, h1, h2, h3⟩ := hs
  exact ⟨h0, y, p, h1.ext e1, h2.ext e1, h3.ext e1⟩
theorem Ch.inn (hC : Non L C) : ∀ {j : Nat} {x : Int}, Ch L C j x → 1 ≤ x ∧ x ≤ L.length
  | 0, _, h => by obtain ⟨n, hn⟩ := hC; subst h; exact ⟨hn.lo, hn.hi⟩
  | _ + 1, _, ⟨_, _, h⟩ => ⟨h.lo, h.hi⟩
theorem Ch.inj (hC : Non L C) (hD : Non L D) : ∀ {i j : Nat} {x : Int}, Ch L C i x → Ch L D j x → i = j ∧ C = D
  | 0, 0, _, h1, h2 => ⟨rfl, by rw [← h1, ← h2]⟩
  | 0, j + 1, _, h1, ⟨k, _, h2⟩ => by obtain ⟨n, hn⟩ := hC; subst h1; have := hn.same h2; simp [nonT, keyT] at this
  | i + 1, 0, _, ⟨k, _, h2⟩, h1 => by obtain ⟨n, hn⟩ := hD; subst h1; have := hn.same h2; simp [nonT, keyT] at this
  | i + 1, j + 1, _, ⟨k, h1, h2⟩, ⟨k', h3, h4⟩ => by
    have := keyT_inj.1 (h2.same h4)
    subst this
    obtain ⟨e1, e2⟩ := Ch.inj hC hD h1 h3
    exact ⟨by omega, e2⟩
theorem Ch.fn (g : Good L) : ∀ {j : Nat} {x y : Int}, Ch L C j x → Ch L C j y → x = y
  | 0, _, _, h1, h2 => by rw [h1, h2]
  | _ + 1, _, _, ⟨k, h1, h2⟩, ⟨k', h3, h4⟩ => by
    have := Ch.fn g h1 h3
    subst this
    exact h2.name g h4
theorem Ky.inj {i j : Nat} (hC : Non L C) (hD : Non L D) (h1 : Ky L C i x) (h2 : Ky L D j x) : i = j ∧ C = D := by
  obtain ⟨k, a1, a2⟩ := h1
  obtain ⟨k', b1, b2⟩ := h2
  have := keyT_inj.1 (a2.same b2)
  subst this
  exact a1.inj hC hD b1
theorem Ky.inn {j : Nat} (h1 : Ky L C j x) : 1 ≤ x ∧ x ≤ L.length := by obtain ⟨k, _, h⟩ := h1; exact ⟨h.lo, h.hi⟩
theorem Sl.inn (h1 : Sl L C h e n t c) : 1 ≤ c ∧ c ≤ L.length := by obtain ⟨_, _, _, _, _, h⟩ := h1; exact ⟨h.lo, h.hi⟩

theorem getB_range {x : Int} (hx : getB L x = true) : 1 ≤ x ∧ x ≤ L.length := by
  unfold getB get at hx
  split at hx
  · rename_i h1
    rw [Option.isSome_iff_exists] at hx
    obtain ⟨a, ha⟩ := hx
    have := (List.getElem?_eq_some_iff.1 ha).1
    omega
  · simp at hx
theorem txt_is {p : Int} {u : T} (g : Good L) (hp : At L p u) (hk : u.k = 1) : u = txtT u.s := by
  have hm := (hp.may g).2.2.1
  obtain ⟨uk, us, un, ua, ub, uc⟩ := u
  simp only at hk
  subst hk
  rw [hm]
  simp [T.only, many, txtT]
theorem read5_is (g : Good L) (hr : (read5 L y n h c).2 = 0) : ∃ p, At L p (txtT (read5 L y n h c).1) ∧ At L c (seaT y n h p) := by
  unfold read5 at hr ⊢
  split at hr
  · rename_i h0
    rw [if_pos h0]
    split at hr
    · rename_i hk
      rw [if_pos hk]
      unfold open5 at h0 hk ⊢
      split at h0
      · rename_i hb
        rw [if_pos hb] at hk ⊢
        split at h0
        · rename_i hs
          rw [if_pos hs] at hk ⊢
          dsimp only at hk ⊢
          obtain ⟨c1, c2⟩ := getB_range hb.2.2
          have hc := at_getT c1 c2
          have hp := hc.part g (p := (getT L c).c) (by rw [hs]; simp [seaT, T.parts, many])
          have hp2 := at_getT (L := L) hp.1 (by omega)
          refine ⟨(getT L c).c, ?_, ?_⟩
          · rw [txt_is g hp2 hk] at hp2; exact hp2
          · rw [← hs]; exact hc
        · simp at h0
      · simp at h0
    · simp at hr
  · rename_i h0
    exact absurd hr h0
theorem put_hit {m : Int} {u : T} (h0 : (put m L u).2.1 = 0) : At (put m L u).2.2 (put m L u).1 u := by
  unfold put at h0 ⊢
  split at h0
  · rename_i hm
    rw [if_pos hm]
    split at h0
    · rename_i i hf
      exact find_at hf
    · split at h0
      · simp at h0
      · rename_i h1
        rw [if_neg h1]
        exact at_snoc L u
  · simp at h0

/-- A window in which a number can't come (again). -/
theorem wCan_no : wCan x y n = false ↔ n < x ∧ (x - 1 - n < 64 → y.toNat.testBit (x - 1 - n).toNat = true) := by
  unfold wCan
  simp only [Bool.or_eq_false_iff, decide_eq_false_iff_not, Bool.and_eq_false_iff, Bool.not_eq_false']
  constructor
  · rintro ⟨h1, h2⟩
    exact ⟨by omega, fun h3 => h2.resolve_left (fun h4 => h4 h3)⟩
  · rintro ⟨h1, h2⟩
    refine ⟨by omega, ?_⟩
    by_cases h3 : x - 1 - n < 64
    · exact .inr (h2 h3)
    · exact .inl h3
theorem wTake_shut {n' : Int} (_hw : WIn x y) (_hn : 0 ≤ n') (h0 : (wTake x y n).2 = 0) (hs : wCan x y n' = false ∨ n' = n) : wCan (wTake x y n).1.1 (wTake x y n).1.2 n' = false := by
  unfold wTake at h0 ⊢
  split at h0
  · rename_i hc
    rw [if_pos hc]
    split
    · rename_i hlt
      dsimp only
      rw [wCan_no]
      rcases hs with hs | rfl
      · rw [wCan_no] at hs
        refine ⟨hs.1, fun h3 => ?_⟩
        rw [Int.toNat_natCast, Nat.testBit_or, hs.2 h3]
        rfl
      · refine ⟨hlt, fun h3 => ?_⟩
        rw [Int.toNat_natCast, Nat.testBit_or, Nat.testBit_two_pow_self, Bool.or_true]
    · rename_i hge
      dsimp only
      rw [wCan_no]
      rcases hs with hs | rfl
      · rw [wCan_no] at hs
        refine ⟨by omega, fun h3 => ?_⟩
        have e1 : (n + 1 - 1 - n').toNat = (x - 1 - n').toNat + (n + 1 - x).toNat := by omega
        rw [Int.toNat_natCast, Nat.testBit_or, Nat.testBit_mod_two_pow, e1, Nat.testBit_mul_two_pow, Nat.add_sub_cancel, hs.2 (by omega)]
        simp
        omega
      · refine ⟨by omega, fun h3 => ?_⟩
        have e1 : (n' + 1 - 1 - n').toNat = 0 := by omega
        rw [Int.toNat_natCast, Nat.testBit_or, e1]
        simp
  · simp at h0
theorem wTake_no (h : wCan x y n = false) : (wTake x y n).2 = 12 := by
  unfold wTake
  rw [h]
  rfl
theorem wTake_can (h : (wTake x y n).2 = 0) : wCan x y n = true := by
  cases hc : wCan x y n with
  | true => rfl
  | false => rw [wTake_no hc] at h; simp at h

/-- The store, whatever is done. -/
def Grow (L L' : List T) (N : Nat) : Prop := Ext L L' ∧ Good L' ∧ L'.length ≤ L.length + N
theorem Grow.refl (g : Good L) {N : Nat} : Grow L L N := ⟨Ext.refl L, g, by omega⟩
theorem Grow.trans {L2 : List T} {M N K : Nat} (h1 : Grow L L' M) (h2 : Good L' → Grow L' L2 N) (hK : M + N ≤ K) : Grow L L2 K := by
  have h3 := h2 h1.2.1
  exact ⟨h1.1.trans h3.1, h3.2.1, by have := h1.2.2; have := h3.2.2; omega⟩
theorem grow_put (m : Int) (u : T) (g : Good L) : Grow L (put m L u).2.2 1 := ⟨put_ext m L u, Good.put m u g, put_len m L u⟩
theorem Grow.mono {M N : Nat} (h : Grow L L' M) (hN : M ≤ N) : Grow L L' N := ⟨h.1, h.2.1, by have := h.2.2; omega⟩
theorem grow_next (m k e : Int) (g : Good L) : Grow L (next15 m L k e).2.2 1 := by
  unfold next15
  split
  · exact Grow.refl g
  · split <;> exact grow_put m _ g
theorem grow_steps (m : Int) : ∀ (n : Nat) {L : List T} (k e : Int), Good L → Grow L (steps15 m n L k e).2.2.2 (2 * n)
  | 0, L, k, e, g => Grow.refl g
  | n + 1, L, k, e, g => by
    rw [steps15_succ]
    split
    · split
      · exact (grow_put m (keyT k 1) g).trans (fun g1 => (grow_next m k e g1).trans (fun g2 => grow_steps m n _ _ g2) (Nat.le_refl _)) (by omega)
      · exact (grow_put m (keyT k 1) g).trans (fun g1 => grow_next m k e g1) (by omega)
    · exact (grow_put m (keyT k 1) g).mono (by omega)
theorem grow_to (m k e x : Int) (g : Good L) : Grow L (to15 m L k e x).2.2.2 8 := by
  unfold to15
  split
  · exact Grow.refl g
  · split
    · exact Grow.refl g
    · split <;> exact (grow_steps m _ _ _ g).mono (by omega)
theorem grow_now (m n : Int) (r : Rc) (g : Good L) : Grow L (now19 m L r n).2.2.2 1 := by
  unfold now19
  split
  · exact grow_put m _ g
  · exact Grow.refl g
theorem grow_recv (m e n : Int) (r : Rc) (g : Good L) : Grow L (recv19 m L r e n).2.2.2 9 := by
  unfold recv19
  split
  · exact (grow_now m n r g).mono (by omega)
  · split
    · unfold later19
      split
      · exact (grow_to m _ _ _ g).trans (fun g1 => grow_now m n _ g1) (by omega)
      · exact (grow_to m _ _ _ g).mono (by omega)
    · exact Grow.refl g
theorem grow_open (m e n c : Int) (r : Se) (g : Good L) : Grow L (open19 m L r e n c).2.2 9 := by
  unfold open19
  split
  · split
    · split <;> exact grow_recv m e n _ g
    · exact grow_recv m e n _ g
  · exact Grow.refl g

theorem next_ch {m k : Int} {j : Nat} (h : Ch L C j k) (h0 : (next15 m L k e).2.1 = 0) : Ch (next15 m L k e).2.2 C (j + 1) (next15 m L k e).1.1 := by
  unfold next15 at h0 ⊢
  split at h0
  · simp at h0
  · rename_i h1
    rw [if_neg h1]
    split at h0
    · rename_i h2
      rw [if_pos h2]
      exact ⟨k, h.ext (put_ext m L _), put_hit h2⟩
    · rename_i h2
      exact absurd h0 h2
theorem steps_ch (m : Int) : ∀ (n : Nat) {L : List T} {k e : Int} {j : Nat}, Good L → Ch L C j k → (steps15 m n L k e).2.2.1 = 0 →
    Ch (steps15 m n L k e).2.2.2 C (j + n) (steps15 m n L k e).2.1.1 ∧ ∀ i, i < n → Ky (steps15 m n L k e).2.2.2 C (j + i) ((steps15 m n L k e).1.getD i 0)
  | 0, L, k, e, j, g, h, _ => ⟨h, fun i hi => absurd hi (by omega)⟩
  | n + 1, L, k, e, j, g, h, h0 => by
    rw [steps15_succ] at h0 ⊢
    split at h0
    · rename_i h1
      rw [if_pos h1]
      split at h0
      · rename_i h2
        rw [if_pos h2]
        have g1 := grow_put m (keyT k 1) g
        have g2 := grow_next m k e g1.2.1
        have c1 := next_ch (h.ext g1.1) h2
        have g3 := grow_steps m n (next15 m (put m L (keyT k 1)).2.2 k e).1.1 (next15 m (put m L (keyT k 1)).2.2 k e).1.2 g2.2.1
        obtain ⟨i1, i2⟩ := steps_ch m n g2.2.1 c1 h0
        dsimp only
        refine ⟨by rw [show j + (n + 1) = j + 1 + n by omega]; exact i1, fun i hi => ?_⟩
        cases i with
        | zero => exact ⟨k, h.ext ((g1.1.trans g2.1).trans g3.1), (put_hit h1).ext (g2.1.trans g3.1)⟩
        | succ i =>
          have := i2 i (by omega)
          rw [show j + (i + 1) = j + 1 + i by omega]
          simpa using this
      · rename_i h2
        exact absurd h0 h2
    · rename_i h1
      exact absurd h0 h1
theorem steps_len (m : Int) : ∀ (n : Nat) {L : List T} {k e : Int}, (steps15 m n L k e).1.length ≤ n
  | 0, _, _, _ => Nat.le_refl _
  | n + 1, L, k, e => by
    rw [steps15_succ]
    split
    · split
      · have := steps_len m n (L := (next15 m (put m L (keyT k 1)).2.2 k e).2.2) (k := (next15 m (put m L (keyT k 1)).2.2 k e).1.1) (e := (next15 m (put m L (keyT k 1)).2.2 k e).1.2)
        dsimp only
        rw [List.length_cons]
        omega
      · exact Nat.zero_le _
    · exact Nat.zero_le _
theorem to_ch {m k : Int} (g : Good L) (he : 0 ≤ e) (h : Ch L C e.toNat k) (h0 : (to15 m L k e x).2.2.1 = 0) :
    Ch (to15 m L k e x).2.2.2 C x.toNat (to15 m L k e x).1.1 ∧ ∀ i, i < (to15 m L k e x).2.1.length → Ky (to15 m L k e x).2.2.2 C (e + i).toNat ((to15 m L k e x).2.1.getD i 0) := by
  unfold to15 at h0 ⊢
  split at h0
  · simp at h0
  · rename_i a1
    rw [if_neg a1]
    split at h0
    · simp at h0
    · rename_i a2
      rw [if_neg a2]
      split at h0
      · rename_i a3
        rw [if_pos a3]
        obtain ⟨i1, i2⟩ := steps_ch m (x - e).toNat g h a3
        dsimp only
        refine ⟨by rw [show x.toNat = e.toNat + (x - e).toNat by omega]; exact i1, fun i hi => ?_⟩
        have hl : (steps15 m (x - e).toNat L k e).1.length ≤ (x - e).toNat := steps_len m _
        rw [show (e + i).toNat = e.toNat + i by omega]
        exact i2 i (by omega)
      · rename_i a3
        exact absurd h0 a3

/-- A receiver that hangs on a chain. -/
structure Rv (L : List T) (C : Int) (r : Rc) : Prop where
  lo : 0 ≤ r.ie
  ch : Ch L C r.ie.toNat r.ik
  es : ∀ z ∈ r.es, 0 ≤ z.ep ∧ z.ep < r.ie ∧ Ky L C z.ep.toNat z.key
theorem Rv.ext {r : Rc} (h : Rv L C r) (e : Ext L L') : Rv L' C r := ⟨h.lo, h.ch.ext e, fun z hz => ⟨(h.es z hz).1, (h.es z hz).2.1, (h.es z hz).2.2.ext e⟩⟩
/-- It takes a text of this epoch, and of this number, no more. -/
def Shut (r : Rc) (e n : Int) : Prop := e ≤ r.ie ∧ (e = r.ie → wCan r.nx r.bt n = false) ∧ ∀ z ∈ r.es, z.ep = e → wCan z.nx z.bt n = false

theorem mem_kPut' {es : List En} {e x : En} (h : Rises es) (h4 : es.length ≤ 4) (hx : x ∈ (kPut es e).1) : x = e ∨ x ∈ es ∧ x.ep ≠ e.ep := by
  rw [kPut_eq h h4] at hx
  unfold rPut at hx
  split at hx
  · exact mem_ins.1 hx
  · exact mem_ins.1 (List.mem_of_mem_drop hx)
theorem mem_puts : ∀ (ks : List Int) {es : List En} {e x y : Int} {z : En}, Rises es → es.length ≤ 4 → z ∈ puts19 es e x y ks → z ∈ es ∨ ∃ i, i < ks.length ∧ z.ep = e + i ∧ z.key = ks.getD i 0 ∧ (i = 0 → z.nx = x ∧ z.bt = y)
  | [], _, _, _, _, _, _, _, hz => .inl hz
  | k :: ks, es, e, x, y, z, hr, h4, hz => by
    rcases mem_puts ks (kPut_rises hr h4 _) (kPut_length hr h4 _) hz with h | ⟨i, h1, h2, h3, h5⟩
    · rcases mem_kPut hr h4 h with rfl | h
      · exact .inr ⟨0, by simp, by simp, by simp, fun _ => ⟨rfl, rfl⟩⟩
      · exact .inl h
    · exact .inr ⟨i + 1, by simp; omega, by rw [h2]; omega, by simpa using h3, fun e => by omega⟩

theorem now_spec {m : Int} {r : Rc} (hr : RcOk r) (hv : Rv L C r) (hn : 0 ≤ n) (h0 : (now19 m L r n).2.2.1 = 0) :
    Ky (now19 m L r n).2.2.2 C r.ie.toNat (now19 m L r n).2.1 ∧ Rv (now19 m L r n).2.2.2 C (now19 m L r n).1 ∧ (now19 m L r n).1.ie = r.ie ∧ (now19 m L r n).1.es = r.es ∧ wCan r.nx r.bt n = true ∧ wCan (now19 m L r n).1.nx (now19 m L r n).1.bt n = false ∧
      ∀ n', 0 ≤ n' → wCan r.nx r.bt n' = false → wCan (now19 m L r n).1.nx (now19 m L r n).1.bt n' = false := by
  unfold now19 at h0 ⊢
  split at h0
  · rename_i h1
    rw [if_pos h1]
    dsimp only at h0 ⊢
    have hv' := hv.ext (put_ext m L (keyT r.ik 1))
    exact ⟨⟨r.ik, hv'.ch, put_hit h0⟩, ⟨hv'.lo, hv'.ch, hv'.es⟩, rfl, rfl, wTake_can h1, wTake_shut hr.w hn h1 (.inr rfl), fun n' h2 h3 => wTake_shut hr.w h2 h1 (.inl h3)⟩
  · rename_i h1
    exact absurd h0 h1

theorem recv_spec {m : Int} {r : Rc} (g : Good L) (hr : RcOk r) (hv : Rv L C r) (hn : 0 ≤ n) (he : 0 ≤ e) (h0 : (recv19 m L r e n).2.2.1 = 0) :
    Ky (recv19 m L r e n).2.2.2 C e.toNat (recv19 m L r e n).2.1 ∧ Rv (recv19 m L r e n).2.2.2 C (recv19 m L r e n).1 ∧ ¬ Shut r e n ∧ Shut (recv19 m L r e n).1 e n ∧ ∀ e' n', 0 ≤ n' → Shut r e' n' → Shut (recv19 m L r e n).1 e' n' := by
  unfold recv19 at h0 ⊢
  split at h0
  · rename_i h1
    subst h1
    rw [if_pos rfl]
    obtain ⟨k1, k2, k3, k4, k5, k6, k7⟩ := now_spec hr hv hn h0
    refine ⟨k1, k2, fun hs => ?_, ⟨by rw [k3]; omega, fun _ => k6, fun z hz he => ?_⟩, fun e' n' hn' hs => ⟨by rw [k3]; exact hs.1, fun h => k7 n' hn' (hs.2.1 (by rw [h, k3])), fun z hz => hs.2.2 z (by rw [← k4]; exact hz)⟩⟩
    · rw [hs.2.1 rfl] at k5; exact absurd k5 (by decide)
    · rw [k4] at hz
      have := (hv.es z hz).2.1
      omega
  · rename_i h1
    rw [if_neg h1]
    split at h0
    · rename_i h2
      rw [if_pos h2]
      unfold later19 at h0 ⊢
      split at h0
      · rename_i h3
        rw [if_pos h3]
        obtain ⟨t1, t2⟩ := to_ch (x := e) g hv.lo hv.ch h3
        obtain ⟨u1, u2, u3, u4, u5, u6⟩ := to15_epoch (q := to15 m L r.ik r.ie e) rfl h3 hv.lo hr.hi
        have gt := grow_to m r.ik r.ie e g
        have hv' := hv.ext gt.1
        generalize to15 m L r.ik r.ie e = q at *
        obtain ⟨⟨qk, qe⟩, ks, qr, L1⟩ := q
        dsimp only at *
        subst u1
        have hmem : ∀ z ∈ puts19 r.es r.ie r.nx r.bt ks, 0 ≤ z.ep ∧ z.ep < qe ∧ Ky L1 C z.ep.toNat z.key := fun z hz => by
          rcases mem_puts ks hr.rises hr.len hz with h | ⟨i, i1, i2, i3, _⟩
          · have := hv'.es z h
            exact ⟨this.1, by omega, this.2.2⟩
          · refine ⟨by have := hv.lo; omega, by omega, ?_⟩
            rw [i2, i3]
            exact t2 i i1
        have hok : RcOk ⟨qk, qe, 0, 0, puts19 r.es r.ie r.nx r.bt ks⟩ := by
          obtain ⟨p1, p2, p3⟩ := puts19_ok ks (e := r.ie) hr.w hr.rises hr.len hr.ws
          exact ⟨wIn_zero, p3, p1, p2, he, u3⟩
        have hrv : Rv L1 C ⟨qk, qe, 0, 0, puts19 r.es r.ie r.nx r.bt ks⟩ := ⟨he, t1, hmem⟩
        obtain ⟨k1, k2, k3, k4, k5, k6, k7⟩ := now_spec hok hrv hn h0
        refine ⟨k1, k2, fun hs => by have := hs.1; omega, ⟨by rw [k3]; exact Int.le_refl _, fun _ => k6, fun z hz he => ?_⟩, fun e' n' hn' hs => ⟨by rw [k3]; have := hs.1; dsimp only; omega, fun h => ?_, fun z hz hze => ?_⟩⟩
        · rw [k4] at hz
          have := (hmem z hz).2.1
          omega
        · rw [k3] at h
          have := hs.1
          dsimp only at h
          omega
        · rw [k4] at hz
          rcases mem_puts ks hr.rises hr.len hz with h | ⟨i, i1, i2, _, i4⟩
          · exact hs.2.2 z h hze
          · have := hs.1
            obtain rfl : i = 0 := by omega
            rw [(i4 rfl).1, (i4 rfl).2]
            exact hs.2.1 (by omega)
      · rename_i h3
        exact absurd h0 h3
    · rename_i h2
      rw [if_neg h2]
      unfold ago19 at h0 ⊢
      split at h0
      · rename_i h3
        rw [if_pos h3]
        split at h0
        · rename_i h4
          rw [if_pos h4]
          obtain ⟨m1, m2⟩ := kGet_mem h3
          generalize (kGet r.es e).1 = z at *
          subst m2
          have hz := hv.es z m1
          have wz := hr.ws z m1
          dsimp only
          refine ⟨hz.2.2, ⟨hv.lo, hv.ch, fun y hy => ?_⟩, fun hs => ?_, ⟨by dsimp only; omega, fun h => absurd h h1, fun y hy hye => ?_⟩, fun e' n' hn' hs => ⟨hs.1, hs.2.1, fun y hy hye => ?_⟩⟩
          · rcases mem_kPut hr.rises hr.len hy with rfl | hy
            · exact hz
            · exact hv.es y hy
          · rw [wTake_no (hs.2.2 z m1 rfl)] at h4
            exact absurd h4 (by decide)
          · rcases mem_kPut' hr.rises hr.len hy with rfl | ⟨_, hy⟩
            · exact wTake_shut wz hn h4 (.inr rfl)
            · exact absurd hye hy
          · rcases mem_kPut' hr.rises hr.len hy with rfl | ⟨hy, _⟩
            · exact wTake_shut wz hn' h4 (.inl (hs.2.2 z m1 hye))
            · exact hs.2.2 y hy hye
        · rename_i h4
          exact absurd h0 h4
      · simp at h0

/-- What is opened was sealed, with this epoch, number and hash; and is not opened again. -/
theorem open_spec {m : Int} {r : Se} (g : Good L) (hr : SeOk r) (hv : Rv L C r.rc) :
    Rv (open19 m L r e n c).2.2 C (open19 m L r e n c).2.1.rc ∧ (open19 m L r e n c).2.1 = { r with rc := (open19 m L r e n c).2.1.rc } ∧
      ((open19 m L r e n c).1.2 = 0 → Sl (open19 m L r e n c).2.2 C r.h e n (open19 m L r e n c).1.1 c ∧ ¬ Shut r.rc e n ∧ Shut (open19 m L r e n c).2.1.rc e n) ∧
      ((open19 m L r e n c).1.2 ≠ 0 → (open19 m L r e n c).2.1 = r) ∧ ∀ e' n', 0 ≤ n' → Shut r.rc e' n' → Shut (open19 m L r e n c).2.1.rc e' n' := by
  have gr := grow_recv m e n r.rc g
  unfold open19
  split
  · rename_i hc
    split
    · rename_i h0
      obtain ⟨k1, k2, k3, k4, k5⟩ := recv_spec g hr.rc hv hc.2.2.1 hc.2.1 h0
      split
      · rename_i h1
        obtain ⟨p, p1, p2⟩ := read5_is gr.2.1 h1
        exact ⟨k2, rfl, fun _ => ⟨⟨hc.2.1, _, p, k1, p1, p2⟩, k3, k4⟩, fun h => absurd rfl h, k5⟩
      · rename_i h1
        exact ⟨hv.ext gr.1, rfl, fun h => absurd h h1, fun _ => rfl, fun _ _ _ h => h⟩
    · rename_i h0
      exact ⟨hv.ext gr.1, rfl, fun h => absurd h h0, fun _ => rfl, fun _ _ _ h => h⟩
  · exact ⟨hv, rfl, fun h => by simp at h, fun _ => rfl, fun _ _ _ h => h⟩
end
end Go.Proofs.Ytpcfmafokkffgaa
namespace Go.Proofs.Ytpcfmafokkffgaa
open Go.RowKit

section
variable {L L' : List T} {C D h e n x y c : Int} {t s : ByteArray} {m : Int}
theorem sealW_spec {k : Int} {j : Nat} (g : Good L) (hC : Non L C) (hh : 1 ≤ h ∧ h ≤ L.length) (hk : Ch L C j k) (hs : s.size ≤ 1000) (hroom : (L.length : Int) + 3 ≤ m) :
    ∃ c L', sealW m L k n h s = (c, 0, L') ∧ (∃ y p, Ky L' C j y ∧ At L' p (txtT s) ∧ At L' c (seaT y n h p)) ∧ Grow L L' 3 := by
  obtain ⟨hk1, hk2⟩ := hk.inn hC
  obtain ⟨i, L1, p1, a1, e1, g1, l1⟩ := put_ok (m := m) (L := L) (t := keyT k 1) g (may_key.2 ⟨hk1, hk2⟩) (by omega)
  obtain ⟨p, L2, p2, a2, e2, g2, l2⟩ := put_ok (m := m) (L := L1) (t := txtT s) g1 (may_txt s hs) (by omega)
  have t1 := e1.len
  have t2 := e2.len
  obtain ⟨c, L3, p3, a3, e3, g3, l3⟩ := put_ok (m := m) (L := L2) (t := seaT i n h p) g2 (may_sea.2 ⟨⟨a1.lo, by have := a1.hi; omega⟩, ⟨hh.1, by omega⟩, ⟨a2.lo, a2.hi⟩⟩) (by omega)
  refine ⟨c, L3, ?_, ⟨i, p, ⟨k, hk.ext ((e1.trans e2).trans e3), a1.ext (e2.trans e3)⟩, a2.ext e3, a3⟩, (e1.trans e2).trans e3, g3, by omega⟩
  unfold sealW
  rw [p1]
  dsimp only
  rw [if_pos rfl]
  unfold text5
  rw [if_pos ⟨a1.getT.2, (at_getT hh.1 (by omega)).getT.2⟩, p2]
  dsimp only
  rw [if_pos rfl, p3]

/-- A sender that hangs on a chain. -/
structure Sd (L : List T) (C h : Int) (x : Se) : Prop where
  ch : Ch L C x.oe.toNat x.ok
  h : x.h = h
theorem Sd.ext {x : Se} (hx : Sd L C h x) (e : Ext L L') : Sd L' C h x := ⟨hx.ch.ext e, hx.h⟩

theorem seal_spec {x : Se} (g : Good L) (hC : Non L C) (hh : 1 ≤ h ∧ h ≤ L.length) (hx : SeOk x) (hd : Sd L C h x) (hs : s.size ≤ 1000) (hlt : x.sent < 256) (hroom : (L.length : Int) + 3 ≤ m) :
    ∃ c L', seal19 m L x s = ((x.oe, x.sent, c, 0), { x with sent := x.sent + 1 }, L') ∧ Sl L' C h x.oe x.sent s c ∧ Grow L L' 3 := by
  obtain ⟨c, L', p1, p2, p3⟩ := sealW_spec (n := x.sent) (h := h) (s := s) (m := m) g hC hh hd.ch hs hroom
  refine ⟨c, L', ?_, ⟨hx.oe0, p2⟩, p3⟩
  unfold seal19
  rw [if_neg (by omega), if_neg (by omega), hd.h, p1]
  rfl
theorem next_spec {k : Int} (g : Good L) (hC : Non L C) (he : 0 ≤ e) (he' : e < 1000) (hk : Ch L C e.toNat k) (hroom : (L.length : Int) + 1 ≤ m) :
    ∃ u L', next15 m L k e = ((u, e + 1), 0, L') ∧ Ch L' C (e + 1).toNat u ∧ Grow L L' 1 := by
  obtain ⟨hk1, hk2⟩ := hk.inn hC
  obtain ⟨u, L1, p1, a1, e1, g1, l1⟩ := put_ok (m := m) (L := L) (t := keyT k 2) g (may_key.2 ⟨hk1, hk2⟩) (by omega)
  refine ⟨u, L1, next15_of he he' p1, ?_, e1, g1, l1⟩
  rw [show (e + 1).toNat = e.toNat + 1 by omega]
  exact ⟨k, hk.ext e1, a1⟩
theorem step_spec {x : Se} (g : Good L) (hC : Non L C) (hx : SeOk x) (hd : Sd L C h x) (he : x.oe < 1000) (hroom : (L.length : Int) + 1 ≤ m) :
    ∃ k L', step19 m L x = (0, { x with ok := k, oe := x.oe + 1, sent := 0 }, L') ∧ Sd L' C h { x with ok := k, oe := x.oe + 1, sent := 0 } ∧ Grow L L' 1 := by
  obtain ⟨u, L1, q1, q2, q3⟩ := next_spec (m := m) g hC hx.oe0 he hd.ch hroom
  refine ⟨u, L1, ?_, ⟨q2, hd.h⟩, q3⟩
  unfold step19
  rw [q1]
  rfl

/-- The next one, in this epoch or the next one. -/
def Foll (a b : Int × Int) : Prop := (b.1 = a.1 ∧ b.2 = a.2 + 1) ∨ (b.1 = a.1 + 1 ∧ b.2 = 0)
/-- Opened up to here. -/
def RAt (r : Rc) (a : Int × Int) : Prop := r.ie = a.1 ∧ r.nx = a.2 + 1
/-- The next but one was opened, the next one not yet. -/
def Mid (r : Rc) (a b : Int × Int) : Prop := RAt r b ∧ (a.1 = b.1 → a.2 < b.2 ∧ wCan r.nx r.bt a.2 = true) ∧ (a.1 ≠ b.1 → a.1 < b.1 ∧ ∃ z, kGet r.es a.1 = (z, true) ∧ wCan z.nx z.bt a.2 = true)

/-- The text of the number k was opened, in epoch 0, behind which there may be a next one. -/
def LateSt (r : Rc) (k : Nat) : Prop :=
  Shut r 0 k ∧ ((r.ie = 0 ∧ wCan r.nx r.bt 0 = decide (k ≤ 63)) ∨ (0 < r.ie ∧ ∃ z, kGet r.es 0 = (z, true) ∧ wCan z.nx z.bt 0 = decide (k ≤ 63)))
end
end Go.Proofs.Ytpcfmafokkffgaa
namespace Go.Proofs.Ytpcfmafokkffgaa
open Go.RowKit

section
variable {W w : World} {Rs : List Res} {b : Nat} {L L2 : List T} {m r2 : Int}
set_option maxRecDepth 100000 in
set_option maxHeartbeats 4000000 in
theorem snext_calls (k e s : Int) {dk de : Int} (hq : next15 m L k e = ((dk, de), r2, L2)) (h : Hd W w (Sto b L m :: Rs)) :
    Calls Try.prog 63 #[.agg #[.int .i64 k, .int .i64 e, .int .i64 s], .pointer (some ⟨b, 0, none⟩)] w fun e' w' => e' = .returned (.tuple #[.agg #[.int .i64 dk, .int .i64 de, .int .i64 0], .int .i64 r2]) ∧ Hd W w' (Sto b L2 m :: Rs) := by
  have HQ := hid hq
  have H := hid (((h.boxk (o := .cells #[.int .i64 k, .int .i64 e, .int .i64 s] 140 (0, 0)) w.heap.size rfl).boxk (o := .cells #[.int .i64 0, .int .i64 0, .int .i64 0] 140 (0, 0)) (w.heap.size + 1) (by simp)).front 2 rfl)
  obtain ⟨wo, hwo⟩ : ∃ wo, (w.alloc (.cells #[.int .i64 k, .int .i64 e, .int .i64 s] 140 (0, 0))).alloc (.cells #[.int .i64 0, .int .i64 0, .int .i64 0] 140 (0, 0)) = wo := ⟨_, rfl⟩
  rw [hwo] at H
  clear h hq
  have hk := Hd.nthk 2 H.out rfl
  have c0 := (cell_of_heap hk 0).trans (show _ = some (.int .i64 k) from rfl)
  have c1 := (cell_of_heap hk 1).trans (show _ = some (.int .i64 e) from rfl)
  have c2 := (cell_of_heap hk 2).trans (show _ = some (.int .i64 s) from rfl)
  have cs := (Array.getElem?_eq_some_iff.1 hk).1
  clear hk
  go_enter Try.func63, Try.ntmps63
  go_wp2_with fail
  refine (next15_calls k e HQ.out H.out).mono ?_
  rintro e2 w1 ⟨rfl, h1⟩
  clear H c0 c1 c2 cs hwo HQ
  have H := hid h1
  clear h1
  have hk := Hd.nthk 1 H.out rfl
  have q0 := (cell_of_heap hk 0).trans (show _ = some (.int .i64 0) from rfl)
  have q1 := (cell_of_heap hk 1).trans (show _ = some (.int .i64 0) from rfl)
  have q2 := (cell_of_heap hk 2).trans (show _ = some (.int .i64 0) from rfl)
  have qs := (Array.getElem?_eq_some_iff.1 hk).1
  have qf := frozen_of_heap hk
  clear hk
  go_wp2_with fail
  refine bodyPost_ret (v := .tuple #[.agg #[.int .i64 dk, .int .i64 de, .int .i64 0], .int .i64 r2]) (by simp [results, Try.results63, go_sem, q0, q1, q2, qs]) rfl ⟨rfl, ?_⟩
  first
    | exact (((((((H.out.front 2 rfl).front 1 rfl).front 2 rfl).set 0 (.int .i64 dk)).set 1 (.int .i64 de)).set 2 (.int .i64 0)).drop.un2).al
    | exact ((((((H.out.al.front 2 rfl).front 1 rfl).front 2 rfl).set 0 (.int .i64 dk)).set 1 (.int .i64 de)).set 2 (.int .i64 0)).drop.un2

set_option maxRecDepth 100000 in
set_option maxHeartbeats 4000000 in
theorem now19_calls {y y' : Rc} {n key er : Int} {ad : Option Addr} {len cap : Nat} (hy : WIn y.nx y.bt) (h0n : 0 ≤ n) (h1n : n ≤ 255) (hq : now19 m L y n = (y', key, er, L2)) (h : Hd W w (Sto b L m :: Rs)) :
    Calls Try.prog 66 #[.agg #[.int .i64 y.ik, .int .i64 y.ie, .int .u64 y.nx, .int .u64 y.bt, .slice ad len cap], .pointer (some ⟨b, 0, none⟩), .int .i64 n] w fun e' w' => e' = .returned (.tuple #[.agg #[.int .i64 y'.ik, .int .i64 y'.ie, .int .u64 y'.nx, .int .u64 y'.bt, .slice ad len cap], .int .i64 key, .int .i64 er]) ∧ Hd W w' (Sto b L2 m :: Rs) := by
  obtain ⟨ik, ie, nx, bt, es⟩ := y
  dsimp only at hy hq ⊢
  unfold now19 at hq
  dsimp only at hq
  obtain ⟨⟨⟨t1, t2⟩, t3⟩, ht⟩ : ∃ t, wTake nx bt n = t := ⟨_, rfl⟩
  rw [ht] at hq
  dsimp only at hq
  have HT := hid ht
  have HY := hid hy
  have z1 : IntKind.u64.wrap n = n := IntWalk.u64_in _ (by omega)
  have H := hid (((h.boxk (o := .cells #[.int .i64 ik, .int .i64 ie, .int .u64 nx, .int .u64 bt, .slice ad len cap] 146 (0, 0)) w.heap.size rfl).boxk (o := .cells #[.int .i64 0, .int .i64 0, .int .u64 0, .int .u64 0, .slice none 0 0] 146 (0, 0)) (w.heap.size + 1) (by simp)).front 2 rfl)
  obtain ⟨wo, hwo⟩ : ∃ wo, (w.alloc (.cells #[.int .i64 ik, .int .i64 ie, .int .u64 nx, .int .u64 bt, .slice ad len cap] 146 (0, 0))).alloc (.cells #[.int .i64 0, .int .i64 0, .int .u64 0, .int .u64 0, .slice none 0 0] 146 (0, 0)) = wo := ⟨_, rfl⟩
  rw [hwo] at H
  clear h ht hy
  by_cases h3 : t3 = 0
  · subst h3
    rw [if_pos rfl] at hq
    obtain ⟨p1, p2, L3, hp⟩ : ∃ p1 p2 L3, put m L (keyT ik 1) = (p1, p2, L3) := ⟨_, _, _, rfl⟩
    rw [hp] at hq
    simp only [Prod.mk.injEq] at hq
    obtain ⟨rfl, rfl, rfl, rfl⟩ := hq
    have HP := hid hp
    clear hp
    have hk := Hd.nthk 2 H.out rfl
    have c0 := (cell_of_heap hk 0).trans (show _ = some (.int .i64 ik) from rfl)
    have c1 := (cell_of_heap hk 1).trans (show _ = some (.int .i64 ie) from rfl)
    have c2 := (cell_of_heap hk 2).trans (show _ = some (.int .u64 nx) from rfl)
    have c3 := (cell_of_heap hk 3).trans (show _ = some (.int .u64 bt) from rfl)
    have c4 := (cell_of_heap hk 4).trans (show _ = some (.slice ad len cap) from rfl)
    have cs := (Array.getElem?_eq_some_iff.1 hk).1
    clear hk
    go_enter Try.func66, Try.ntmps66
    go_wp2_with fail
    refine (take14_calls HY.out h0n h1n HT.out _).mono ?_
    rintro e2 w1 ⟨rfl, h1⟩
    replace H := hid (H.out.still h1)
    clear c0 c1 c2 c3 c4 cs hwo h1 HT HY z1
    have hk := Hd.nthk 2 H.out rfl
    have c0 := (cell_of_heap hk 0).trans (show _ = some (.int .i64 ik) from rfl)
    have c1 := (cell_of_heap hk 1).trans (show _ = some (.int .i64 ie) from rfl)
    have c2 := (cell_of_heap hk 2).trans (show _ = some (.int .u64 nx) from rfl)
    have c3 := (cell_of_heap hk 3).trans (show _ = some (.int .u64 bt) from rfl)
    have c4 := (cell_of_heap hk 4).trans (show _ = some (.slice ad len cap) from rfl)
    have cs := (Array.getElem?_eq_some_iff.1 hk).1
    have cf := frozen_of_heap hk
    clear hk
    have hk := Hd.nthk 1 H.out rfl
    have q0 := (cell_of_heap hk 0).trans (show _ = some (.int .i64 0) from rfl)
    have q1 := (cell_of_heap hk 1).trans (show _ = some (.int .i64 0) from rfl)
    have q2 := (cell_of_heap hk 2).trans (show _ = some (.int .u64 0) from rfl)
    have q3 := (cell_of_heap hk 3).trans (show _ = some (.int .u64 0) from rfl)
    have q4 := (cell_of_heap hk 4).trans (show _ = some (.slice none 0 0) from rfl)
    have qs := (Array.getElem?_eq_some_iff.1 hk).1
    have qf := frozen_of_heap hk
    clear hk
    have hne := blks_ne H.out.drop
    have hne2 : ¬ w.heap.size = w.heap.size + 1 := by omega
    go_wp2_with fail
    have HB := hid (((((H.out.front 1 rfl).front 1 rfl).front 2 rfl).set 2 (.int .u64 t1)).set 3 (.int .u64 t2))
    clear H c0 c1 c2 c3 c4 cs cf q0 q1 q2 q3 q4 qs qf
    have H := hid (Hd.al (o := .cells #[.int .u64 t1, .int .u64 t2] 141 (0, 0)) (((HB.out.front 2 rfl).front 2 rfl)))
    clear HB
    refine (seal15_calls ik ie HP.out H.out).mono ?_
    rintro e2 w2 ⟨rfl, h1⟩
    clear H HP
    have H := hid h1
    clear h1
    have hk := Hd.nthk 2 H.out rfl
    have c0 := (cell_of_heap hk 0).trans (show _ = some (.int .i64 ik) from rfl)
    have c1 := (cell_of_heap hk 1).trans (show _ = some (.int .i64 ie) from rfl)
    have c2 := (cell_of_heap hk 2).trans (show _ = some (.int .u64 t1) from rfl)
    have c3 := (cell_of_heap hk 3).trans (show _ = some (.int .u64 t2) from rfl)
    have c4 := (cell_of_heap hk 4).trans (show _ = some (.slice ad len cap) from rfl)
    have cs := (Array.getElem?_eq_some_iff.1 hk).1
    have cf := frozen_of_heap hk
    clear hk
    have hk := Hd.nthk 1 H.out rfl
    have q0 := (cell_of_heap hk 0).trans (show _ = some (.int .i64 0) from rfl)
    have q1 := (cell_of_heap hk 1).trans (show _ = some (.int .i64 0) from rfl)
    have q2 := (cell_of_heap hk 2).trans (show _ = some (.int .u64 0) from rfl)
    have q3 := (cell_of_heap hk 3).trans (show _ = some (.int .u64 0) from rfl)
    have q4 := (cell_of_heap hk 4).trans (show _ = some (.slice none 0 0) from rfl)
    have qs := (Array.getElem?_eq_some_iff.1 hk).1
    have qf := frozen_of_heap hk
    clear hk
    go_wp2_with fail
    refine bodyPost_ret (v := .tuple #[.agg #[.int .i64 ik, .int .i64 ie, .int .u64 t1, .int .u64 t2, .slice ad len cap], .int .i64 p1, .int .i64 p2]) (by simp [results, Try.results66, go_sem, q0, q1, q2, q3, q4]) rfl ⟨rfl, ?_⟩
    exact (((((((((H.out.front 2 rfl).front 1 rfl).front 2 rfl).set 0 (.int .i64 ik)).set 1 (.int .i64 ie)).set 2 (.int .u64 t1)).set 3 (.int .u64 t2)).set 4 (.slice ad len cap))).drop.un2
  · rw [if_neg h3] at hq
    simp only [Prod.mk.injEq] at hq
    obtain ⟨rfl, rfl, rfl, rfl⟩ := hq
    have g1 : (t3 != 0) = true := by rw [bne_iff_ne]; exact h3
    have g2 : decide (t3 = 0) = false := by simpa using h3
    clear h3
    have hk := Hd.nthk 2 H.out rfl
    have c0 := (cell_of_heap hk 0).trans (show _ = some (.int .i64 ik) from rfl)
    have c1 := (cell_of_heap hk 1).trans (show _ = some (.int .i64 ie) from rfl)
    have c2 := (cell_of_heap hk 2).trans (show _ = some (.int .u64 nx) from rfl)
    have c3 := (cell_of_heap hk 3).trans (show _ = some (.int .u64 bt) from rfl)
    have c4 := (cell_of_heap hk 4).trans (show _ = some (.slice ad len cap) from rfl)
    have cs := (Array.getElem?_eq_some_iff.1 hk).1
    clear hk
    go_enter Try.func66, Try.ntmps66
    go_wp2_with fail
    refine (take14_calls HY.out h0n h1n HT.out _).mono ?_
    rintro e2 w1 ⟨rfl, h1⟩
    replace H := hid (H.out.still h1)
    clear c0 c1 c2 c3 c4 cs hwo h1 HT HY z1
    have hk := Hd.nthk 2 H.out rfl
    have c0 := (cell_of_heap hk 0).trans (show _ = some (.int .i64 ik) from rfl)
    have c1 := (cell_of_heap hk 1).trans (show _ = some (.int .i64 ie) from rfl)
    have c2 := (cell_of_heap hk 2).trans (show _ = some (.int .u64 nx) from rfl)
    have c3 := (cell_of_heap hk 3).trans (show _ = some (.int .u64 bt) from rfl)
    have c4 := (cell_of_heap hk 4).trans (show _ = some (.slice ad len cap) from rfl)
    have cs := (Array.getElem?_eq_some_iff.1 hk).1
    have cf := frozen_of_heap hk
    clear hk
    have hk := Hd.nthk 1 H.out rfl
    have q0 := (cell_of_heap hk 0).trans (show _ = some (.int .i64 0) from rfl)
    have q1 := (cell_of_heap hk 1).trans (show _ = some (.int .i64 0) from rfl)
    have q2 := (cell_of_heap hk 2).trans (show _ = some (.int .u64 0) from rfl)
    have q3 := (cell_of_heap hk 3).trans (show _ = some (.int .u64 0) from rfl)
    have q4 := (cell_of_heap hk 4).trans (show _ = some (.slice none 0 0) from rfl)
    have qs := (Array.getElem?_eq_some_iff.1 hk).1
    have qf := frozen_of_heap hk
    clear hk
    go_wp2_with fail
    refine bodyPost_ret (v := .tuple #[.agg #[.int .i64 ik, .int .i64 ie, .int .u64 nx, .int .u64 bt, .slice ad len cap], .int .i64 0, .int .i64 t3]) (by simp [results, Try.results66, go_sem, q0, q1, q2, q3, q4, qs]) rfl ⟨rfl, ?_⟩
    first
      | exact (((((((((H.out.front 2 rfl).front 1 rfl).front 2 rfl).set 0 (.int .i64 ik)).set 1 (.int .i64 ie)).set 2 (.int .u64 nx)).set 3 (.int .u64 bt)).set 4 (.slice ad len cap))).drop.un2.al
      | exact (((((((((H.out.al.front 2 rfl).front 1 rfl).front 2 rfl).set 0 (.int .i64 ik)).set 1 (.int .i64 ie)).set 2 (.int .u64 nx)).set 3 (.int .u64 bt)).set 4 (.slice ad len cap))).drop.un2
end
end Go.Proofs.Ytpcfmafokkffgaa
namespace Go.Proofs.Ytpcfmafokkffgaa
open Go.RowKit

section
variable {W w : World} {Rs : List Res} {b : Nat} {L L2 : List T} {m : Int}
theorem Hd.keep2 {A B C D : Res} (h : Hd W w (A :: B :: C :: D :: Rs)) : Hd W w (A :: B :: Rs) := ((((h.front 2 rfl).drop).front 2 rfl).drop)
theorem Hd.keep3 {A B C D E F G : Res} (h : Hd W w (A :: B :: C :: D :: E :: F :: G :: Rs)) : Hd W w (A :: B :: C :: Rs) := (((((((h.front 3 rfl).drop).front 3 rfl).drop).front 3 rfl).drop).front 3 rfl).drop
set_option maxRecDepth 100000 in
set_option maxHeartbeats 8000000 in
theorem later19_calls {y y' : Rc} {e n key er : Int} {ad : Option Addr} {cap : Nat} (hy : RcOk y) (hlt0 : y.ie < e) (be : -9223372036854775808 ≤ e) (be' : e ≤ 9223372036854775807) (h0n : 0 ≤ n) (h1n : n ≤ 255) (hq : later19 m L y e n = (y', key, er, L2)) (h : Hd W w (Sto b L m :: CaR (.slice ad y.es.length cap) y.es :: Rs)) :
    Calls Try.prog 67 #[.agg #[.int .i64 y.ik, .int .i64 y.ie, .int .u64 y.nx, .int .u64 y.bt, .slice ad y.es.length cap], .pointer (some ⟨b, 0, none⟩), .int .i64 e, .int .i64 n] w fun e' w' => ∃ ad' cap', e' = .returned (.tuple #[.agg #[.int .i64 y'.ik, .int .i64 y'.ie, .int .u64 y'.nx, .int .u64 y'.bt, .slice ad' y'.es.length cap'], .int .i64 key, .int .i64 er]) ∧ ((to15 m L y.ik y.ie e).2.2.1 = 0 → Hd W w' (Sto b L2 m :: CaR (.slice ad' y'.es.length cap') y'.es :: CaR (.slice ad y.es.length cap) y.es :: Rs)) ∧ ((to15 m L y.ik y.ie e).2.2.1 ≠ 0 → ad' = ad ∧ cap' = cap ∧ y' = y ∧ er ≠ 0 ∧ Hd W w' (Sto b L2 m :: CaR (.slice ad y.es.length cap) y.es :: Rs)) := by
  obtain ⟨ik, ie, nx, bt, es⟩ := y
  have HO := hid hy
  have hws := hid hy.ws
  have hrs := hid hy.rises
  have hl4 : es.length ≤ 4 := hy.len
  have HE := hid hy.lo
  have HE' := hid hy.hi
  dsimp only at hws hrs hq h HE HE' hlt0 ⊢
  unfold later19 at hq
  dsimp only at hq
  obtain ⟨⟨⟨tk, te⟩, ks, t3, L3⟩, ht⟩ : ∃ t, to15 m L ik ie e = t := ⟨_, rfl⟩
  rw [ht] at hq ⊢
  dsimp only at hq ⊢
  have HT := hid ht
  have H := hid (((h.boxk (o := .cells #[.int .i64 ik, .int .i64 ie, .int .u64 nx, .int .u64 bt, .slice ad es.length cap] 146 (0, 0)) w.heap.size rfl).boxk (o := .cells #[.int .i64 0, .int .i64 0, .int .u64 0, .int .u64 0, .slice none 0 0] 146 (0, 0)) (w.heap.size + 1) (by simp)).front 2 rfl)
  obtain ⟨wo, hwo⟩ : ∃ wo, (w.alloc (.cells #[.int .i64 ik, .int .i64 ie, .int .u64 nx, .int .u64 bt, .slice ad es.length cap] 146 (0, 0))).alloc (.cells #[.int .i64 0, .int .i64 0, .int .u64 0, .int .u64 0, .slice none 0 0] 146 (0, 0)) = wo := ⟨_, rfl⟩
  rw [hwo] at H
  clear h hy
  by_cases h3 : t3 = 0
  · subst h3
    rw [if_pos rfl] at hq
    obtain ⟨te1, te2, te3, hkl, te5, te6⟩ := to15_epoch (q := ((tk, te), ks, 0, L3)) ht rfl HE.out HE'.out
    dsimp only at te1 hkl
    have hkl4 : ks.length ≤ 4 := by omega
    obtain ⟨R, hR⟩ : ∃ R, puts19 es ie nx bt ks = R := ⟨_, rfl⟩
    rw [hR] at hq
    obtain ⟨hr1, hr2, hr3⟩ := puts19_ok ks (e := ie) HO.out.w HO.out.rises HO.out.len HO.out.ws
    have HQ := hid hq
    have HR := hid hR
    clear hq hR ht hr1 hr2 hr3 te1
    have hk := Hd.nthk 2 H.out rfl
    have c0 := (cell_of_heap hk 0).trans (show _ = some (.int .i64 ik) from rfl)
    have c1 := (cell_of_heap hk 1).trans (show _ = some (.int .i64 ie) from rfl)
    have c2 := (cell_of_heap hk 2).trans (show _ = some (.int .u64 nx) from rfl)
    have c3 := (cell_of_heap hk 3).trans (show _ = some (.int .u64 bt) from rfl)
    have c4 := (cell_of_heap hk 4).trans (show _ = some (.slice ad es.length cap) from rfl)
    have cs := (Array.getElem?_eq_some_iff.1 hk).1
    clear hk
    go_enter Try.func67, Try.ntmps67
    go_wp2_with fail
    refine (to_calls ik ie e be be' (by have := HE.out; omega) (by have := HE'.out; omega) H.out HT.out).mono ?_
    rintro e2 w1 ⟨v12, rfl, h1⟩
    clear H c0 c1 c2 c3 c4 cs hwo HT
    obtain ⟨a12, c12, rfl, ia⟩ := row_ints h1
    have H := hid (((((h1.front 3 rfl).front 3 rfl).front 2 rfl).front 4 rfl).front 4 rfl)
    clear h1 ia
    have hk := Hd.nthk 4 H.out rfl
    have c0 := (cell_of_heap hk 0).trans (show _ = some (.int .i64 ik) from rfl)
    have c1 := (cell_of_heap hk 1).trans (show _ = some (.int .i64 ie) from rfl)
    have c2 := (cell_of_heap hk 2).trans (show _ = some (.int .u64 nx) from rfl)
    have c3 := (cell_of_heap hk 3).trans (show _ = some (.int .u64 bt) from rfl)
    have c4 := (cell_of_heap hk 4).trans (show _ = some (.slice ad es.length cap) from rfl)
    have cs := (Array.getElem?_eq_some_iff.1 hk).1
    clear hk
    obtain ⟨N, hN⟩ : ∃ N, ks.length = N := ⟨_, rfl⟩
    rw [hN] at H hkl4 hkl ⊢
    have HN := hid hN
    have HNP : Hid (0 < N) := hid (by omega)
    clear hN hkl
    go_wp2_with fail
    have HB := hid ((H.out.bxk w1.heap.size rfl (o := .cells #[.int .i64 tk, .int .i64 te] 32 (0, 0))).bxk (w1.heap.size + 1) (by simp) (o := .cells #[.int .u64 nx, .int .u64 bt] 141 (0, 0)))
    clear H c0 c1 c2 c3 c4 cs
    go_loopw [34] (fun q wr => ∃ i : Nat, i ≤ N ∧ q = .int .i64 i ∧ ∃ (adi : Option Addr) (capi : Nat) (esi : List En) (wx wy : Int), Hid (puts19 esi (ie + i) wx wy (ks.drop i) = R) ∧ Hid (Rises esi ∧ esi.length ≤ 4) ∧ Hid ((i = 0 ∧ adi = ad ∧ capi = cap ∧ esi = es ∧ Hd W wr (Sto b L3 m :: CaR (.slice ad es.length cap) es :: RowR 3 1 (.slice a12 N c12) N (nums .i64 ks) :: Blk w1.heap.size (.cells #[.int .i64 tk, .int .i64 te] 32 (0, 0)) :: Blk (w1.heap.size + 1) (.cells #[.int .u64 wx, .int .u64 wy] 141 (0, 0)) :: Blk (w.heap.size + 1) (.cells #[.int .i64 0, .int .i64 0, .int .u64 0, .int .u64 0, .slice none 0 0] 146 (0, 0)) :: Blk w.heap.size (.cells #[.int .i64 ik, .int .i64 ie, .int .u64 nx, .int .u64 bt, .slice adi esi.length capi] 146 (0, 0)) :: Rs)) ∨ (0 < i ∧ Hd W wr (CaR (.slice adi esi.length capi) esi :: Sto b L3 m :: CaR (.slice ad es.length cap) es :: RowR 3 1 (.slice a12 N c12) N (nums .i64 ks) :: Blk w1.heap.size (.cells #[.int .i64 tk, .int .i64 te] 32 (0, 0)) :: Blk (w1.heap.size + 1) (.cells #[.int .u64 wx, .int .u64 wy] 141 (0, 0)) :: Blk (w.heap.size + 1) (.cells #[.int .i64 0, .int .i64 0, .int .u64 0, .int .u64 0, .slice none 0 0] 146 (0, 0)) :: Blk w.heap.size (.cells #[.int .i64 ik, .int .i64 ie, .int .u64 nx, .int .u64 bt, .slice adi esi.length capi] 146 (0, 0)) :: Rs)))) (fun q _ => N - (intOf q).toNat)
    case atStart => exact ⟨0, Nat.zero_le _, rfl, ad, cap, es, nx, bt, hid (by simpa using HR.out), hid ⟨hrs.out, hl4⟩, hid (.inl ⟨rfl, rfl, rfl, rfl, (((((((HB.out.front 6 rfl).front 6 rfl).front 3 rfl).front 4 rfl).front 6 rfl).front 6 rfl).front 6 rfl)⟩)⟩
    case round =>
      clear HB
      obtain ⟨i, hi, rfl, adi, capi, esi, wx, wy, HPu, HRi, HD⟩ := hrel
      obtain ⟨wl, hwl⟩ : ∃ wl : World, wl = wr := ⟨_, rfl⟩
      rw [← hwl] at HD ⊢
      clear hwl wr
      by_cases hlt : i < N
      · have hd1 : decide ((i : Int) < (N : Int)) = true := by simpa using hlt
        have HC : Hid (CaAt wl (.slice adi esi.length capi) esi) := hid (by
          rcases HD.out with ⟨_, rfl, rfl, rfl, hd⟩ | ⟨_, hd⟩
          · exact (hd.front 1 rfl).ca
          · exact hd.ca)
        have H : Hid (Hd W wl (Sto b L3 m :: CaR (.slice ad es.length cap) es :: RowR 3 1 (.slice a12 N c12) N (nums .i64 ks) :: Blk w1.heap.size (.cells #[.int .i64 tk, .int .i64 te] 32 (0, 0)) :: Blk (w1.heap.size + 1) (.cells #[.int .u64 wx, .int .u64 wy] 141 (0, 0)) :: Blk (w.heap.size + 1) (.cells #[.int .i64 0, .int .i64 0, .int .u64 0, .int .u64 0, .slice none 0 0] 146 (0, 0)) :: Blk w.heap.size (.cells #[.int .i64 ik, .int .i64 ie, .int .u64 nx, .int .u64 bt, .slice adi esi.length capi] 146 (0, 0)) :: Rs)) := hid (by
          rcases HD.out with ⟨_, _, _, _, hd⟩ | ⟨_, hd⟩
          · exact hd
          · exact hd.drop)
        clear HD
        have hi0 : (0 : Int) ≤ (i : Int) := by omega
        have hi1 : (i : Int) < (N : Int) := by omega
        have hil : i < ks.length := by rw [HN.out]; exact hlt
        obtain ⟨_, _, ea, la, _, ia⟩ := (H.out.front 2 rfl).row_is
        simp only [Value.slice.injEq, true_and] at ea
        obtain ⟨rfl, rfl⟩ := ea
        obtain ⟨g1, o1, rfl, hc1⟩ := ia.resolve_left fun e => by rw [e] at hil; simp at hil
        have d1 := hc1 i hil
        have d1s := World.block_lt_of_cell? _ _ d1
        obtain ⟨k, hk⟩ : ∃ k, ks.getD i 0 = k := ⟨_, rfl⟩
        rw [hk] at d1
        have hdr : ks.drop i = k :: ks.drop (i + 1) := by
          rw [List.drop_eq_getElem_cons hil, ← hk]
          simp [List.getD, List.getElem?_eq_getElem hil]
        have hpu := HPu.out
        rw [hdr] at hpu
        obtain ⟨⟨es2, ⟨pa, pk, px, py⟩, pb⟩, hp⟩ : ∃ t, kPut esi ⟨ie + i, k, wx, wy⟩ = t := ⟨_, rfl⟩
        unfold puts19 at hpu
        rw [hp] at hpu
        have HP := hid hp
        have HP2 : Hid (puts19 es2 (ie + ((i + 1 : Nat) : Int)) 0 0 (ks.drop (i + 1)) = R) := hid (by rw [← hpu]; congr 1; omega)
        have HR2 : Hid (Rises es2 ∧ es2.length ≤ 4) := hid (by
          have r1 := kPut_rises HRi.out.1 HRi.out.2 ⟨ie + i, k, wx, wy⟩
          have r2 := kPut_length HRi.out.1 HRi.out.2 ⟨ie + i, k, wx, wy⟩
          rw [hp] at r1 r2
          exact ⟨r1, r2⟩)
        have z1 : IntKind.i64.wrap (ie + (i : Int)) = ie + i := IntWalk.i64_in _ (by have := HE.out; have := HE'.out; omega)
        have HLT := hid hlt
        clear hc1 ia la hil hk hdr hpu hp hlt
        have hk := Hd.nthk 6 H.out rfl
        have c0 := (cell_of_heap hk 0).trans (show _ = some (.int .i64 ik) from rfl)
        have c1 := (cell_of_heap hk 1).trans (show _ = some (.int .i64 ie) from rfl)
        have c2 := (cell_of_heap hk 2).trans (show _ = some (.int .u64 nx) from rfl)
        have c3 := (cell_of_heap hk 3).trans (show _ = some (.int .u64 bt) from rfl)
        have c4 := (cell_of_heap hk 4).trans (show _ = some (.slice adi esi.length capi) from rfl)
        have cs := (Array.getElem?_eq_some_iff.1 hk).1
        have cf := frozen_of_heap hk
        clear hk
        have hk := Hd.nthk 4 H.out rfl
        have g0 := (cell_of_heap hk 0).trans (show _ = some (.int .u64 wx) from rfl)
        have g1 := (cell_of_heap hk 1).trans (show _ = some (.int .u64 wy) from rfl)
        have gs := (Array.getElem?_eq_some_iff.1 hk).1
        have gf := frozen_of_heap hk
        clear hk
        have hne := blks_ne ((((((((H.out.front 5 rfl).front 4 rfl).front 4 rfl).front 4 rfl).front 4 rfl).front 5 rfl).front 6 rfl))
        have hne2 : ¬ w1.heap.size + 1 = w.heap.size := fun e => hne e.symm
        go_wp2_with fail
        refine (put16_is (ie + i) k wx wy HP.out HRi.out.1 (by have := HRi.out.2; omega) HC.out H.out).mono ?_
        rintro e2 w2 ⟨ad2, cap2, rfl, h1⟩
        clear H HP HRi HC c0 c1 c2 c3 c4 cs cf g0 g1 gs gf d1 d1s z1
        have H := hid h1
        clear h1
        have hk := Hd.nthk 7 H.out rfl
        have c0 := (cell_of_heap hk 0).trans (show _ = some (.int .i64 ik) from rfl)
        have c1 := (cell_of_heap hk 1).trans (show _ = some (.int .i64 ie) from rfl)
        have c2 := (cell_of_heap hk 2).trans (show _ = some (.int .u64 nx) from rfl)
        have c3 := (cell_of_heap hk 3).trans (show _ = some (.int .u64 bt) from rfl)
        have c4 := (cell_of_heap hk 4).trans (show _ = some (.slice adi esi.length capi) from rfl)
        have cs := (Array.getElem?_eq_some_iff.1 hk).1
        have cf := frozen_of_heap hk
        clear hk
        have hk := Hd.nthk 5 H.out rfl
        have g0 := (cell_of_heap hk 0).trans (show _ = some (.int .u64 wx) from rfl)
        have g1 := (cell_of_heap hk 1).trans (show _ = some (.int .u64 wy) from rfl)
        have gs := (Array.getElem?_eq_some_iff.1 hk).1
        have gf := frozen_of_heap hk
        clear hk
        go_wp2_with fail
        go_roundw
        case rel =>
          refine ⟨i + 1, (by have := HLT.out; omega), by go_num, ad2, cap2, es2, 0, 0, HP2, HR2, hid (.inr ⟨by omega, ?_⟩)⟩
          have h8 := (((((((((H.out.front 6 rfl).front 5 rfl).front 5 rfl).front 5 rfl).front 5 rfl).front 5 rfl).front 6 rfl).front 7 rfl).set 4 (.slice ad2 es2.length cap2))
          have h9 := ((((((((((h8.front 7 rfl).front 7 rfl).front 7 rfl).front 7 rfl).front 7 rfl).front 7 rfl).front 6 rfl).front 7 rfl).set 0 (.int .u64 0)).set 1 (.int .u64 0))
          exact ((((((((h9.front 1 rfl).front 7 rfl).front 2 rfl).front 7 rfl).front 7 rfl).front 7 rfl).front 7 rfl).front 7 rfl)
        case measure => have := HLT.out; simp [intOf]; omega
      · obtain rfl : i = N := by omega
        have hd1 : decide ((i : Int) < (i : Int)) = false := by simp
        have hR2 : esi = R := by
          have := HPu.out
          rw [← HN.out, List.drop_length] at this
          simpa [puts19] using this
        subst hR2
        have H : Hid (Hd W wl (Sto b L3 m :: CaR (.slice adi esi.length capi) esi :: CaR (.slice ad es.length cap) es :: RowR 3 1 (.slice a12 i c12) i (nums .i64 ks) :: Blk w1.heap.size (.cells #[.int .i64 tk, .int .i64 te] 32 (0, 0)) :: Blk (w1.heap.size + 1) (.cells #[.int .u64 wx, .int .u64 wy] 141 (0, 0)) :: Blk (w.heap.size + 1) (.cells #[.int .i64 0, .int .i64 0, .int .u64 0, .int .u64 0, .slice none 0 0] 146 (0, 0)) :: Blk w.heap.size (.cells #[.int .i64 ik, .int .i64 ie, .int .u64 nx, .int .u64 bt, .slice adi esi.length capi] 146 (0, 0)) :: Rs)) := hid (by
          rcases HD.out with ⟨h0, _⟩ | ⟨_, hd⟩
          · have := HNP.out; omega
          · exact hd.front 1 rfl)
        clear HPu hlt hi HD
        have hk := Hd.nthk 7 H.out rfl
        have c0 := (cell_of_heap hk 0).trans (show _ = some (.int .i64 ik) from rfl)
        have c1 := (cell_of_heap hk 1).trans (show _ = some (.int .i64 ie) from rfl)
        have c2 := (cell_of_heap hk 2).trans (show _ = some (.int .u64 nx) from rfl)
        have c3 := (cell_of_heap hk 3).trans (show _ = some (.int .u64 bt) from rfl)
        have c4 := (cell_of_heap hk 4).trans (show _ = some (.slice adi esi.length capi) from rfl)
        have cs := (Array.getElem?_eq_some_iff.1 hk).1
        clear hk
        have hk := Hd.nthk 4 H.out rfl
        have g0 := (cell_of_heap hk 0).trans (show _ = some (.int .i64 tk) from rfl)
        have g1 := (cell_of_heap hk 1).trans (show _ = some (.int .i64 te) from rfl)
        have gs := (Array.getElem?_eq_some_iff.1 hk).1
        clear hk
        go_wp2_with fail
        refine (now19_calls wIn_zero h0n h1n HQ.out H.out).mono ?_
        rintro e2 w2 ⟨rfl, h1⟩
        clear H c0 c1 c2 c3 c4 cs g0 g1 gs
        have H := hid h1
        clear h1
        have hes : y'.es = esi := by
          have := HQ.out
          unfold now19 at this
          split at this <;> (simp only [Prod.mk.injEq] at this; obtain ⟨rfl, _⟩ := this; rfl)
        obtain ⟨ik', ie', nx', bt', es'⟩ := y'
        dsimp only at hes ⊢
        subst hes
        have hk := Hd.nthk 6 H.out rfl
        have q0 := (cell_of_heap hk 0).trans (show _ = some (.int .i64 0) from rfl)
        have q1 := (cell_of_heap hk 1).trans (show _ = some (.int .i64 0) from rfl)
        have q2 := (cell_of_heap hk 2).trans (show _ = some (.int .u64 0) from rfl)
        have q3 := (cell_of_heap hk 3).trans (show _ = some (.int .u64 0) from rfl)
        have q4 := (cell_of_heap hk 4).trans (show _ = some (.slice none 0 0) from rfl)
        have qs := (Array.getElem?_eq_some_iff.1 hk).1
        have qf := frozen_of_heap hk
        clear hk
        go_wp2_with fail
        refine bodyPost_ret (v := .tuple #[.agg #[.int .i64 ik', .int .i64 ie', .int .u64 nx', .int .u64 bt', .slice adi es'.length capi], .int .i64 key, .int .i64 er]) (by simp [results, Try.results67, go_sem, q0, q1, q2, q3, q4]) rfl ⟨adi, capi, rfl, ?_⟩
        have hd9 := ((((((((((((((H.out.front 7 rfl).front 6 rfl).front 6 rfl).front 6 rfl).front 6 rfl).front 6 rfl).front 6 rfl).front 7 rfl).set 0 (.int .i64 ik')).set 1 (.int .i64 ie')).set 2 (.int .u64 nx')).set 3 (.int .u64 bt')).set 4 (.slice adi es'.length capi))).drop.keep3
        first
          | exact ⟨fun _ => hd9, fun h => absurd rfl h⟩
          | exact ⟨hd9, fun h => absurd rfl h⟩
          | exact ⟨hd9, trivial⟩
          | exact hd9
  · rw [if_neg h3] at hq
    simp only [Prod.mk.injEq] at hq
    obtain ⟨rfl, rfl, rfl, rfl⟩ := hq
    have g1 : (t3 != 0) = true := by rw [bne_iff_ne]; exact h3
    have g2 : decide (t3 = 0) = false := by simpa using h3
    have HH3 := hid h3
    clear h3 ht
    have hk := Hd.nthk 2 H.out rfl
    have c0 := (cell_of_heap hk 0).trans (show _ = some (.int .i64 ik) from rfl)
    have c1 := (cell_of_heap hk 1).trans (show _ = some (.int .i64 ie) from rfl)
    have c2 := (cell_of_heap hk 2).trans (show _ = some (.int .u64 nx) from rfl)
    have c3 := (cell_of_heap hk 3).trans (show _ = some (.int .u64 bt) from rfl)
    have c4 := (cell_of_heap hk 4).trans (show _ = some (.slice ad es.length cap) from rfl)
    have cs := (Array.getElem?_eq_some_iff.1 hk).1
    clear hk
    go_enter Try.func67, Try.ntmps67
    go_wp2_with fail
    refine (to_calls ik ie e be be' (by have := HE.out; omega) (by have := HE'.out; omega) H.out HT.out).mono ?_
    rintro e2 w1 ⟨v12, rfl, h1⟩
    clear H c0 c1 c2 c3 c4 cs hwo HT
    obtain ⟨a12, c12, rfl, ia⟩ := row_ints h1
    have H := hid (((((h1.front 3 rfl).front 3 rfl).front 2 rfl).front 4 rfl).front 4 rfl)
    clear h1 ia
    have hk := Hd.nthk 4 H.out rfl
    have c0 := (cell_of_heap hk 0).trans (show _ = some (.int .i64 ik) from rfl)
    have c1 := (cell_of_heap hk 1).trans (show _ = some (.int .i64 ie) from rfl)
    have c2 := (cell_of_heap hk 2).trans (show _ = some (.int .u64 nx) from rfl)
    have c3 := (cell_of_heap hk 3).trans (show _ = some (.int .u64 bt) from rfl)
    have c4 := (cell_of_heap hk 4).trans (show _ = some (.slice ad es.length cap) from rfl)
    have cs := (Array.getElem?_eq_some_iff.1 hk).1
    clear hk
    have hk := Hd.nthk 3 H.out rfl
    have q0 := (cell_of_heap hk 0).trans (show _ = some (.int .i64 0) from rfl)
    have q1 := (cell_of_heap hk 1).trans (show _ = some (.int .i64 0) from rfl)
    have q2 := (cell_of_heap hk 2).trans (show _ = some (.int .u64 0) from rfl)
    have q3 := (cell_of_heap hk 3).trans (show _ = some (.int .u64 0) from rfl)
    have q4 := (cell_of_heap hk 4).trans (show _ = some (.slice none 0 0) from rfl)
    have qs := (Array.getElem?_eq_some_iff.1 hk).1
    have qf := frozen_of_heap hk
    clear hk
    go_wp2_with fail
    refine bodyPost_ret (v := .tuple #[.agg #[.int .i64 ik, .int .i64 ie, .int .u64 nx, .int .u64 bt, .slice ad es.length cap], .int .i64 0, .int .i64 t3]) (by simp [results, Try.results67, go_sem, q0, q1, q2, q3, q4, qs]) rfl ⟨_, _, rfl, fun h => absurd h HH3.out, fun _ => ⟨by first | rfl | trivial, by first | rfl | trivial, by first | rfl | trivial, HH3.out, ?_⟩⟩
    first
      | exact ((((((((((((H.out.front 4 rfl).front 3 rfl).front 3 rfl).front 3 rfl).front 4 rfl).set 0 (.int .i64 ik)).set 1 (.int .i64 ie)).set 2 (.int .u64 nx)).set 3 (.int .u64 bt)).set 4 (.slice ad es.length cap))).drop.keep2).al
      | exact (((((((((((H.out.al.front 4 rfl).front 3 rfl).front 3 rfl).front 3 rfl).front 4 rfl).set 0 (.int .i64 ik)).set 1 (.int .i64 ie)).set 2 (.int .u64 nx)).set 3 (.int .u64 bt)).set 4 (.slice ad es.length cap))).drop.keep2
end
end Go.Proofs.Ytpcfmafokkffgaa
namespace Go.Proofs.Ytpcfmafokkffgaa
open Go.RowKit

section
variable {W w : World} {Rs : List Res}
set_option maxRecDepth 100000 in
set_option maxHeartbeats 8000000 in
theorem ago19_calls {y y' : Rc} {e n key er : Int} {ad : Option Addr} {cap : Nat} (hy : RcOk y) (h0n : 0 ≤ n) (h1n : n ≤ 255) (hq : ago19 y e n = (y', key, er)) (h : Hd W w (CaR (.slice ad y.es.length cap) y.es :: Rs)) :
    Calls Try.prog 68 #[.agg #[.int .i64 y.ik, .int .i64 y.ie, .int .u64 y.nx, .int .u64 y.bt, .slice ad y.es.length cap], .int .i64 e, .int .i64 n] w fun e' w' => ∃ ad' cap', e' = .returned (.tuple #[.agg #[.int .i64 y'.ik, .int .i64 y'.ie, .int .u64 y'.nx, .int .u64 y'.bt, .slice ad' y'.es.length cap'], .int .i64 key, .int .i64 er]) ∧ (er = 0 → Hd W w' (CaR (.slice ad' y'.es.length cap') y'.es :: CaR (.slice ad y.es.length cap) y.es :: Rs)) ∧ (er ≠ 0 → ad' = ad ∧ cap' = cap ∧ y' = y ∧ Hd W w' (CaR (.slice ad y.es.length cap) y.es :: Rs)) := by
  have mixed : Try.prog.follows .mixedOrders = true := by kernel_rfl
  obtain ⟨ik, ie, nx, bt, es⟩ := y
  have HO := hid hy
  have hws := hid hy.ws
  have hrs := hid hy.rises
  have hl4 : es.length ≤ 4 := hy.len
  dsimp only at hws hrs hq h ⊢
  unfold ago19 at hq
  dsimp only at hq
  obtain ⟨⟨⟨ga, gk, gx, gy⟩, gb⟩, hg⟩ : ∃ t, kGet es e = t := ⟨_, rfl⟩
  rw [hg] at hq
  dsimp only at hq
  have HG := hid hg
  have HGI : Hid (gb = true → WIn gx gy) := hid fun hb => by
    have := kGet_mem (es := es) (n := e) (by rw [hg]; exact hb)
    rw [hg] at this
    exact hws.out _ this.1
  have z1 : IntKind.u64.wrap n = n := IntWalk.u64_in _ (by omega)
  have H := hid (((h.boxk (o := .cells #[.int .i64 ik, .int .i64 ie, .int .u64 nx, .int .u64 bt, .slice ad es.length cap] 146 (0, 0)) w.heap.size rfl).boxk (o := .cells #[.int .i64 0, .int .i64 0, .int .u64 0, .int .u64 0, .slice none 0 0] 146 (0, 0)) (w.heap.size + 1) (by simp)).front 2 rfl)
  obtain ⟨wo, hwo⟩ : ∃ wo, (w.alloc (.cells #[.int .i64 ik, .int .i64 ie, .int .u64 nx, .int .u64 bt, .slice ad es.length cap] 146 (0, 0))).alloc (.cells #[.int .i64 0, .int .i64 0, .int .u64 0, .int .u64 0, .slice none 0 0] 146 (0, 0)) = wo := ⟨_, rfl⟩
  rw [hwo] at H
  clear h hg hy
  cases gb
  · rw [if_neg (by simp)] at hq
    simp only [Prod.mk.injEq] at hq
    obtain ⟨rfl, rfl, rfl⟩ := hq
    clear HGI
    have hk := Hd.nthk 2 H.out rfl
    have c0 := (cell_of_heap hk 0).trans (show _ = some (.int .i64 ik) from rfl)
    have c1 := (cell_of_heap hk 1).trans (show _ = some (.int .i64 ie) from rfl)
    have c2 := (cell_of_heap hk 2).trans (show _ = some (.int .u64 nx) from rfl)
    have c3 := (cell_of_heap hk 3).trans (show _ = some (.int .u64 bt) from rfl)
    have c4 := (cell_of_heap hk 4).trans (show _ = some (.slice ad es.length cap) from rfl)
    have cs := (Array.getElem?_eq_some_iff.1 hk).1
    clear hk
    go_enter Try.func68, Try.ntmps68
    go_wp2_with fail
    refine (get16_is e HG.out hrs.out (by omega) H.out.ca H.out).mono ?_
    rintro e2 w1 ⟨rfl, h1⟩
    replace H := hid h1
    clear c0 c1 c2 c3 c4 cs hwo h1 HG
    have hk := Hd.nthk 2 H.out rfl
    have c0 := (cell_of_heap hk 0).trans (show _ = some (.int .i64 ik) from rfl)
    have c1 := (cell_of_heap hk 1).trans (show _ = some (.int .i64 ie) from rfl)
    have c2 := (cell_of_heap hk 2).trans (show _ = some (.int .u64 nx) from rfl)
    have c3 := (cell_of_heap hk 3).trans (show _ = some (.int .u64 bt) from rfl)
    have c4 := (cell_of_heap hk 4).trans (show _ = some (.slice ad es.length cap) from rfl)
    have cs := (Array.getElem?_eq_some_iff.1 hk).1
    clear hk
    have hk := Hd.nthk 1 H.out rfl
    have q0 := (cell_of_heap hk 0).trans (show _ = some (.int .i64 0) from rfl)
    have q1 := (cell_of_heap hk 1).trans (show _ = some (.int .i64 0) from rfl)
    have q2 := (cell_of_heap hk 2).trans (show _ = some (.int .u64 0) from rfl)
    have q3 := (cell_of_heap hk 3).trans (show _ = some (.int .u64 0) from rfl)
    have q4 := (cell_of_heap hk 4).trans (show _ = some (.slice none 0 0) from rfl)
    have qs := (Array.getElem?_eq_some_iff.1 hk).1
    have qf := frozen_of_heap hk
    clear hk
    go_wp2_with fail
    refine bodyPost_ret (v := .tuple #[.agg #[.int .i64 ik, .int .i64 ie, .int .u64 nx, .int .u64 bt, .slice ad es.length cap], .int .i64 0, .int .i64 12]) (by simp [results, Try.results68, go_sem, q0, q1, q2, q3, q4, qs]) rfl ⟨_, _, rfl, fun h => absurd h (by decide), fun _ => ⟨by first | rfl | trivial, by first | rfl | trivial, by first | rfl | trivial, ?_⟩⟩
    first
      | exact (((((((((H.out.front 2 rfl).front 1 rfl).front 2 rfl).set 0 (.int .i64 ik)).set 1 (.int .i64 ie)).set 2 (.int .u64 nx)).set 3 (.int .u64 bt)).set 4 (.slice ad es.length cap))).drop.un2.al
      | exact (((((((((H.out.al.front 2 rfl).front 1 rfl).front 2 rfl).set 0 (.int .i64 ik)).set 1 (.int .i64 ie)).set 2 (.int .u64 nx)).set 3 (.int .u64 bt)).set 4 (.slice ad es.length cap))).drop.un2
  rw [if_pos rfl] at hq
  obtain ⟨⟨⟨t1, t2⟩, t3⟩, ht⟩ : ∃ t, wTake gx gy n = t := ⟨_, rfl⟩
  rw [ht] at hq
  dsimp only at hq
  have HT := hid ht
  clear ht
  by_cases h3 : t3 = 0
  · subst h3
    rw [if_pos rfl] at hq
    obtain ⟨⟨es', ⟨pa, pk, px, py⟩, pb⟩, hp⟩ : ∃ t, kPut es ⟨ga, gk, t1, t2⟩ = t := ⟨_, rfl⟩
    rw [hp] at hq
    dsimp only at hq
    simp only [Prod.mk.injEq] at hq
    obtain ⟨rfl, rfl, rfl⟩ := hq
    have HP := hid hp
    clear hp
    have hk := Hd.nthk 2 H.out rfl
    have c0 := (cell_of_heap hk 0).trans (show _ = some (.int .i64 ik) from rfl)
    have c1 := (cell_of_heap hk 1).trans (show _ = some (.int .i64 ie) from rfl)
    have c2 := (cell_of_heap hk 2).trans (show _ = some (.int .u64 nx) from rfl)
    have c3 := (cell_of_heap hk 3).trans (show _ = some (.int .u64 bt) from rfl)
    have c4 := (cell_of_heap hk 4).trans (show _ = some (.slice ad es.length cap) from rfl)
    have cs := (Array.getElem?_eq_some_iff.1 hk).1
    clear hk
    go_enter Try.func68, Try.ntmps68
    go_wp2_with fail
    refine (get16_is e HG.out hrs.out (by omega) H.out.ca H.out).mono ?_
    rintro e2 w1 ⟨rfl, h1⟩
    replace H := hid h1
    clear c0 c1 c2 c3 c4 cs hwo h1 HG
    go_wp2_with fail
    have HB := hid (H.out.bxk w1.heap.size rfl (o := .cells #[.int .i64 ga, .int .i64 gk, .int .u64 gx, .int .u64 gy] 182 (0, 0)))
    clear H
    refine (take14_calls (HGI.out (by first | rfl | trivial)) h0n h1n HT.out _).mono ?_
    rintro e2 w2 ⟨rfl, h1⟩
    have H := hid (HB.out.still h1)
    clear h1 HB HT HGI z1
    have hk := Hd.nthk 3 H.out rfl
    have c0 := (cell_of_heap hk 0).trans (show _ = some (.int .i64 ik) from rfl)
    have c1 := (cell_of_heap hk 1).trans (show _ = some (.int .i64 ie) from rfl)
    have c2 := (cell_of_heap hk 2).trans (show _ = some (.int .u64 nx) from rfl)
    have c3 := (cell_of_heap hk 3).trans (show _ = some (.int .u64 bt) from rfl)
    have c4 := (cell_of_heap hk 4).trans (show _ = some (.slice ad es.length cap) from rfl)
    have cs := (Array.getElem?_eq_some_iff.1 hk).1
    clear hk
    have hk := Hd.nthk 1 H.out rfl
    have g0 := (cell_of_heap hk 0).trans (show _ = some (.int .i64 ga) from rfl)
    have g1 := (cell_of_heap hk 1).trans (show _ = some (.int .i64 gk) from rfl)
    have g2 := (cell_of_heap hk 2).trans (show _ = some (.int .u64 gx) from rfl)
    have g3 := (cell_of_heap hk 3).trans (show _ = some (.int .u64 gy) from rfl)
    have gs := (Array.getElem?_eq_some_iff.1 hk).1
    have gf := frozen_of_heap hk
    clear hk
    go_wp2_with fail
    have HB := hid (((((((H.out.front 3 rfl).front 3 rfl).front 2 rfl).front 3 rfl).set 2 (.int .u64 t1)).set 3 (.int .u64 t2)).al (o := .cells #[.int .u64 t1, .int .u64 t2] 141 (0, 0)))
    clear H c0 c1 c2 c3 c4 cs g0 g1 g2 g3 gs gf
    have H := hid ((((HB.out.front 3 rfl).front 3 rfl).front 2 rfl).front 3 rfl)
    clear HB
    refine (put16_is ga gk t1 t2 HP.out hrs.out (by omega) H.out.ca H.out).mono ?_
    rintro e2 w3 ⟨ad', cap', rfl, h1⟩
    clear H HP
    have H := hid h1
    clear h1
    have hk := Hd.nthk 4 H.out rfl
    have c0 := (cell_of_heap hk 0).trans (show _ = some (.int .i64 ik) from rfl)
    have c1 := (cell_of_heap hk 1).trans (show _ = some (.int .i64 ie) from rfl)
    have c2 := (cell_of_heap hk 2).trans (show _ = some (.int .u64 nx) from rfl)
    have c3 := (cell_of_heap hk 3).trans (show _ = some (.int .u64 bt) from rfl)
    have c4 := (cell_of_heap hk 4).trans (show _ = some (.slice ad es.length cap) from rfl)
    have cs := (Array.getElem?_eq_some_iff.1 hk).1
    have cf := frozen_of_heap hk
    clear hk
    go_wp2_with fail
    have HB := hid ((((((H.out.front 3 rfl).front 3 rfl).front 3 rfl).front 3 rfl).front 4 rfl).set 4 (.slice ad' es'.length cap'))
    clear H c0 c1 c2 c3 c4 cs cf
    have H := hid (((((HB.out.front 2 rfl).front 2 rfl).front 3 rfl).front 3 rfl).front 4 rfl)
    clear HB
    refine hold_coreB (P := Try.prog) (W := W) (Rs := (Blk w.heap.size (.cells #[.int .i64 ik, .int .i64 ie, .int .u64 nx, .int .u64 bt, .slice ad' es'.length cap'] 146 (0, 0)) :: Blk w1.heap.size (.cells #[.int .i64 ga, .int .i64 gk, .int .u64 t1, .int .u64 t2] 182 (0, 0)) :: CaR (.slice ad' es'.length cap') es' :: CaR (.slice ad es.length cap) es :: Rs)) [[], [], [1], [0], [2], []] [[], [], [], [], [], []] ([some 46, some 47, some 48, none, some 7, some 8] : List (Option Nat)) ([none, none, none, none, none, none, some 3] : List (Option Nat)) ((fun _ => .agg #[.int .i64 ik, .int .i64 ie, .int .u64 nx, .int .u64 bt, .slice ad' es'.length cap']) :: (fun _ => .pointer (some ⟨w1.heap.size, 1, none⟩)) :: (fun _ => .int .i64 gk) :: (fun _ => undef) :: (fun _ => .int .i64 gk) :: (fun _ => .int .i64 0) :: []) ((fun _ => []) :: (fun _ => []) :: (fun _ => []) :: (fun _ => []) :: (fun _ => []) :: (fun _ => []) :: (fun _ => [Blk (w.heap.size + 1) (.cells #[.int .i64 0, .int .i64 0, .int .u64 0, .int .u64 0, .slice none 0 0] 146 (0, 0))]) :: ([] : List (List Gh → List Res))) ((fun _ => []) :: (fun _ => []) :: (fun _ => []) :: (fun _ => []) :: (fun _ => []) :: (fun _ => []) :: (fun _ => [Blk (w.heap.size + 1) (.cells #[.int .i64 ik, .int .i64 ie, .int .u64 nx, .int .u64 bt, .slice ad' es'.length cap'] 146 (0, 0))]) :: ([] : List (List Gh → List Res))) (by kernel_rfl) rfl (hold_lt (n := 49) (by decide)) H.out rfl (by decide) (hold_nil (fs := [3]) trivial rfl ?nil9) ?gd9 ?step9 (fun t => (decide (7 ≤ t) && decide (t ≤ 8)) || (decide (46 ≤ t) && decide (t ≤ 48))) (by decide) ?done9 (fun I h0 st dn => run_wpB mixed I h0 st dn)
    case nil9 =>
      intro s gs hs
      simp only [List.mem_cons, List.not_mem_nil, or_false] at hs
      subst hs; rfl
    case gd9 =>
      repeat (refine StepAll.cons (by first | exact trivial | exact fun g => rfl) ?_)
      exact trivial
    case step9 =>
      refine StepAll.cons ?_ ?_
      · refine HoldStepB.val (by decide) fun a wx γ hn hr hres hpre Ss hH K hK => ?_
        have e3 : a.eval (.tmp 3) = .pointer (some ⟨w.heap.size, 0, none⟩) := (hr 3 (by decide)).trans rfl
        have hk := Hd.nthk 0 hH.rear rfl
        have c0 := (cell_of_heap hk 0).trans (show _ = some (.int .i64 ik) from rfl)
        have c1 := (cell_of_heap hk 1).trans (show _ = some (.int .i64 ie) from rfl)
        have c2 := (cell_of_heap hk 2).trans (show _ = some (.int .u64 nx) from rfl)
        have c3 := (cell_of_heap hk 3).trans (show _ = some (.int .u64 bt) from rfl)
        have c4 := (cell_of_heap hk 4).trans (show _ = some (.slice ad' es'.length cap') from rfl)
        clear hk
        exact hold_run (v := .agg #[.int .i64 ik, .int .i64 ie, .int .u64 nx, .int .u64 bt, .slice ad' es'.length cap']) (by clear hn hr hK; generalize a.eval = ρ at *; simp [execOp, e3, c0, c1, c2, c3, c4, go_sem]) rfl rfl hH hK
      refine StepAll.cons ?_ ?_
      · refine HoldStepB.val (by decide) fun a wx γ hn hr hres hpre Ss hH K hK => ?_
        have e9 : a.eval (.tmp 9) = .pointer (some ⟨w1.heap.size, 0, none⟩) := (hr 9 (by decide)).trans rfl
        exact hold_run (v := .pointer (some ⟨w1.heap.size, 1, none⟩)) (by clear hn hr hK; generalize a.eval = ρ at *; simp [execOp, e9, go_sem]) rfl rfl hH hK
      refine StepAll.cons ?_ ?_
      · refine HoldStepB.val (by decide) fun a wx γ hn hr hres hpre Ss hH K hK => ?_
        have e47 : a.eval (.tmp 47) = .pointer (some ⟨w1.heap.size, 1, none⟩) := hn 1 (by decide) 47 rfl
        have hk := Hd.nthk 1 hH.rear rfl
        have c0 := (cell_of_heap hk 1).trans (show _ = some (.int .i64 gk) from rfl)
        clear hk
        exact hold_run (v := .int .i64 gk) (by clear hn hr hK; generalize a.eval = ρ at *; simp [execOp, e47, c0, go_sem]) rfl rfl hH hK
      refine StepAll.cons ?_ ?_
      · refine HoldStepB.fil 6 (by decide) fun a wx γ hn hr hres hpre Ss hH K hK => ?_
        have e6 : a.eval (.tmp 6) = .pointer (some ⟨(w.heap.size + 1), 0, none⟩) := (hr 6 (by decide)).trans rfl
        have e46 : a.eval (.tmp 46) = .agg #[.int .i64 ik, .int .i64 ie, .int .u64 nx, .int .u64 bt, .slice ad' es'.length cap'] := hn 0 (by decide) 46 rfl
        have hH2 : Hd W wx (Blk (w.heap.size + 1) (.cells #[.int .i64 0, .int .i64 0, .int .u64 0, .int .u64 0, .slice none 0 0] 146 (0, 0)) :: (Ss ++ (Blk w.heap.size (.cells #[.int .i64 ik, .int .i64 ie, .int .u64 nx, .int .u64 bt, .slice ad' es'.length cap'] 146 (0, 0)) :: Blk w1.heap.size (.cells #[.int .i64 ga, .int .i64 gk, .int .u64 t1, .int .u64 t2] 182 (0, 0)) :: CaR (.slice ad' es'.length cap') es' :: CaR (.slice ad es.length cap) es :: Rs))) := hH
        have hk := hH2.blk
        have c0 := (cell_of_heap hk 0).trans (show _ = some (.int .i64 0) from rfl)
        have c1 := (cell_of_heap hk 1).trans (show _ = some (.int .i64 0) from rfl)
        have c2 := (cell_of_heap hk 2).trans (show _ = some (.int .u64 0) from rfl)
        have c3 := (cell_of_heap hk 3).trans (show _ = some (.int .u64 0) from rfl)
        have c4 := (cell_of_heap hk 4).trans (show _ = some (.slice none 0 0) from rfl)
        have cf := frozen_of_heap hk
        clear hk hH
        exact hold_filB (w' := (((((wx.setCell ⟨(w.heap.size + 1), 0, none⟩ (.int .i64 ik)).setCell ⟨(w.heap.size + 1), 1, none⟩ (.int .i64 ie)).setCell ⟨(w.heap.size + 1), 2, none⟩ (.int .u64 nx)).setCell ⟨(w.heap.size + 1), 3, none⟩ (.int .u64 bt)).setCell ⟨(w.heap.size + 1), 4, none⟩ (.slice ad' es'.length cap'))) (by clear hn hr hK hH2; generalize a.eval = ρ at *; simp [execOp, e6, e46, c0, c1, c2, c3, c4, cf, go_sem]) rfl rfl (((((hH2.set 0 (.int .i64 ik)).set 1 (.int .i64 ie)).set 2 (.int .u64 nx)).set 3 (.int .u64 bt)).set 4 (.slice ad' es'.length cap')) hK
      refine StepAll.cons ?_ ?_
      · refine HoldStepB.val (by decide) fun a wx γ hn hr hres hpre Ss hH K hK => ?_
        have e48 : a.eval (.tmp 48) = .int .i64 gk := hn 2 (by decide) 48 rfl
        exact hold_run (v := .int .i64 gk) (by clear hn hr hK; generalize a.eval = ρ at *; simp [execOp, e48, go_sem]) rfl rfl hH hK
      refine StepAll.cons ?_ ?_
      · refine HoldStepB.val (by decide) fun a wx γ hn hr hres hpre Ss hH K hK => ?_
        have ec := evc a
        exact hold_run (v := .int .i64 0) (by clear hn hr hK; generalize a.eval = ρ at *; simp [execOp, ec, go_sem]) rfl rfl hH hK
      exact trivial
    case done9 =>
      intro f w9 g9 hv h9
      have er7 : f 7 = .int .i64 gk := hv 4 7 rfl
      have er8 : f 8 = .int .i64 0 := hv 5 8 rfl
      have hd : Hd W w9 (Blk (w.heap.size + 1) (.cells #[.int .i64 ik, .int .i64 ie, .int .u64 nx, .int .u64 bt, .slice ad' es'.length cap'] 146 (0, 0)) :: Blk w.heap.size (.cells #[.int .i64 ik, .int .i64 ie, .int .u64 nx, .int .u64 bt, .slice ad' es'.length cap'] 146 (0, 0)) :: Blk w1.heap.size (.cells #[.int .i64 ga, .int .i64 gk, .int .u64 t1, .int .u64 t2] 182 (0, 0)) :: CaR (.slice ad' es'.length cap') es' :: CaR (.slice ad es.length cap) es :: Rs) := h9
      clear hv h9 
      clear g9
      simp only [patchG, Nat.reduceAdd, Nat.reduceLeDiff, decide_true, decide_false, Bool.and_true, Bool.and_false, Bool.or_true, Bool.or_false, cond_true, cond_false, er7, er8]
      clear er7 er8
      clear H
      have H := hid hd
      clear hd
      have hk := Hd.nthk 0 H.out rfl
      have q0 := (cell_of_heap hk 0).trans (show _ = some (.int .i64 ik) from rfl)
      have q1 := (cell_of_heap hk 1).trans (show _ = some (.int .i64 ie) from rfl)
      have q2 := (cell_of_heap hk 2).trans (show _ = some (.int .u64 nx) from rfl)
      have q3 := (cell_of_heap hk 3).trans (show _ = some (.int .u64 bt) from rfl)
      have q4 := (cell_of_heap hk 4).trans (show _ = some (.slice ad' es'.length cap') from rfl)
      have qs := (Array.getElem?_eq_some_iff.1 hk).1
      clear hk
      go_wp2_with fail
      refine bodyPost_ret (v := .tuple #[.agg #[.int .i64 ik, .int .i64 ie, .int .u64 nx, .int .u64 bt, .slice ad' es'.length cap'], .int .i64 gk, .int .i64 0]) (by simp [results, Try.results68, go_sem, q0, q1, q2, q3, q4]) rfl ⟨_, _, rfl, fun _ => ?_, fun h => absurd rfl h⟩
      exact H.out.drop.drop.drop
  · rw [if_neg h3] at hq
    simp only [Prod.mk.injEq] at hq
    obtain ⟨rfl, rfl, rfl⟩ := hq
    have g1 : (t3 != 0) = true := by rw [bne_iff_ne]; exact h3
    have g2 : decide (t3 = 0) = false := by simpa using h3
    have HH3 := hid h3
    clear h3
    have hk := Hd.nthk 2 H.out rfl
    have c0 := (cell_of_heap hk 0).trans (show _ = some (.int .i64 ik) from rfl)
    have c1 := (cell_of_heap hk 1).trans (show _ = some (.int .i64 ie) from rfl)
    have c2 := (cell_of_heap hk 2).trans (show _ = some (.int .u64 nx) from rfl)
    have c3 := (cell_of_heap hk 3).trans (show _ = some (.int .u64 bt) from rfl)
    have c4 := (cell_of_heap hk 4).trans (show _ = some (.slice ad es.length cap) from rfl)
    have cs := (Array.getElem?_eq_some_iff.1 hk).1
    clear hk
    go_enter Try.func68, Try.ntmps68
    go_wp2_with fail
    refine (get16_is e HG.out hrs.out (by omega) H.out.ca H.out).mono ?_
    rintro e2 w1 ⟨rfl, h1⟩
    replace H := hid h1
    clear c0 c1 c2 c3 c4 cs hwo h1 HG
    go_wp2_with fail
    have HB := hid (H.out.bxk w1.heap.size rfl (o := .cells #[.int .i64 ga, .int .i64 gk, .int .u64 gx, .int .u64 gy] 182 (0, 0)))
    clear H
    refine (take14_calls (HGI.out (by first | rfl | trivial)) h0n h1n HT.out _).mono ?_
    rintro e2 w2 ⟨rfl, h1⟩
    have H := hid (HB.out.still h1)
    clear h1 HB HT HGI z1
    have hk := Hd.nthk 3 H.out rfl
    have c0 := (cell_of_heap hk 0).trans (show _ = some (.int .i64 ik) from rfl)
    have c1 := (cell_of_heap hk 1).trans (show _ = some (.int .i64 ie) from rfl)
    have c2 := (cell_of_heap hk 2).trans (show _ = some (.int .u64 nx) from rfl)
    have c3 := (cell_of_heap hk 3).trans (show _ = some (.int .u64 bt) from rfl)
    have c4 := (cell_of_heap hk 4).trans (show _ = some (.slice ad es.length cap) from rfl)
    have cs := (Array.getElem?_eq_some_iff.1 hk).1
    clear hk
    have hk := Hd.nthk 2 H.out rfl
    have q0 := (cell_of_heap hk 0).trans (show _ = some (.int .i64 0) from rfl)
    have q1 := (cell_of_heap hk 1).trans (show _ = some (.int .i64 0) from rfl)
    have q2 := (cell_of_heap hk 2).trans (show _ = some (.int .u64 0) from rfl)
    have q3 := (cell_of_heap hk 3).trans (show _ = some (.int .u64 0) from rfl)
    have q4 := (cell_of_heap hk 4).trans (show _ = some (.slice none 0 0) from rfl)
    have qs := (Array.getElem?_eq_some_iff.1 hk).1
    have qf := frozen_of_heap hk
    clear hk
    go_wp2_with fail
    refine bodyPost_ret (v := .tuple #[.agg #[.int .i64 ik, .int .i64 ie, .int .u64 nx, .int .u64 bt, .slice ad es.length cap], .int .i64 0, .int .i64 t3]) (by simp [results, Try.results68, go_sem, q0, q1, q2, q3, q4, qs]) rfl ⟨_, _, rfl, fun h => absurd h HH3.out, fun _ => ⟨by first | rfl | trivial, by first | rfl | trivial, by first | rfl | trivial, ?_⟩⟩
    first
      | exact ((((((((((H.out.front 3 rfl).front 2 rfl).front 2 rfl).front 3 rfl).set 0 (.int .i64 ik)).set 1 (.int .i64 ie)).set 2 (.int .u64 nx)).set 3 (.int .u64 bt)).set 4 (.slice ad es.length cap))).drop.un2.un2.al
      | exact ((((((((((H.out.al.front 3 rfl).front 2 rfl).front 2 rfl).front 3 rfl).set 0 (.int .i64 ik)).set 1 (.int .i64 ie)).set 2 (.int .u64 nx)).set 3 (.int .u64 bt)).set 4 (.slice ad es.length cap))).drop.un2.un2
end
end Go.Proofs.Ytpcfmafokkffgaa
