/-
  Walks and laws that the proof stands on, one behind another: SessW SessX Turn ArgsC. For every input.
-/
import Derived.Test.YtpcfmafokkffgaaY5
import Derived.Test.YtpcfmafokkffgaaY8
import Derived.Test.YtpcfmafokkffgaaY10
import Derived.Test.YtpcfmafokkffgaaY9
import Derived.Test.YtpcfmafokkffgaaY1
import Derived.StillTail
namespace Go.Proofs.Ytpcfmafokkffgaa
open Go.RowKit

/-- What the store holds: Nonces, the keys of one chain, texts, and what is sealed with these keys. -/
def AllL (L : List T) : Prop := ∀ x t, At L x t →
  (∃ n, t = nonT n) ∨ (∃ q l j, t = keyT q l ∧ Ch L 2 j q ∧ (l = 1 ∨ l = 2)) ∨ (∃ s, t = txtT s) ∨ ∃ y n h p s, t = seaT y n h p ∧ At L p (txtT s)

theorem at_put_any {m : Int} {L : List T} {t : T} : ∀ (x : Int) (u : T), At (put m L t).2.2 x u → At L x u ∨ u = t := by
  intro x u hx
  unfold put at hx
  split at hx
  · split at hx
    · exact .inl hx
    · split at hx
      · exact .inl hx
      · by_cases hl : x ≤ L.length
        · refine .inl ⟨hx.lo, hl, ?_⟩
          have := hx.is
          rwa [List.getElem?_append_left (by have := hx.lo; omega)] at this
        · have h1 := hx.hi
          simp only [List.length_append, List.length_cons, List.length_nil] at h1
          have := hx.is
          rw [List.getElem?_append_right (by omega), show (x - 1).toNat - L.length = 0 by omega] at this
          simp only [List.getElem?_cons_zero, Option.some.injEq] at this
          exact .inr this.symm
  · exact .inl hx

section
variable {L L' : List T} {m : Int}
theorem allL_put {t : T} (h : AllL L) (ht : (∃ q l j, t = keyT q l ∧ Ch (put m L t).2.2 2 j q ∧ (l = 1 ∨ l = 2)) ∨ (∃ s, t = txtT s) ∨ ∃ y n h p s, t = seaT y n h p ∧ At (put m L t).2.2 p (txtT s)) : AllL (put m L t).2.2 := by
  intro x u hx
  have e := put_ext m L t
  rcases at_put_any x u hx with hx | rfl
  · rcases h x u hx with h1 | ⟨q, l, j, h1, h2, h3⟩ | h1 | ⟨y, n, hh, p, s, h1, h2⟩
    · exact .inl h1
    · exact .inr (.inl ⟨q, l, j, h1, h2.ext e, h3⟩)
    · exact .inr (.inr (.inl h1))
    · exact .inr (.inr (.inr ⟨y, n, hh, p, s, h1, h2.ext e⟩))
  · exact .inr ht
theorem allL_key {q l : Int} {j : Nat} (h : AllL L) (hq : Ch L 2 j q) (hl : l = 1 ∨ l = 2) : AllL (put m L (keyT q l)).2.2   := allL_put h (.inl ⟨q, l, j, rfl, hq.ext (put_ext m L _), hl⟩)
theorem allL_next {k e : Int} {j : Nat} (h : AllL L) (hk : Ch L 2 j k) : AllL (next15 m L k e).2.2 := by
  unfold next15
  split
  · exact h
  · split <;> exact allL_key h hk (.inr rfl)
theorem allL_steps (m : Int) : ∀ (n : Nat) {L : List T} {k e : Int} {j : Nat}, Good L → AllL L → Ch L 2 j k → AllL (steps15 m n L k e).2.2.2
  | 0, _, _, _, _, _, h, _ => h
  | n + 1, L, k, e, j, g, h, hk => by
    rw [steps15_succ]
    have g1 := grow_put m (keyT k 1) g
    have a1 : AllL (put m L (keyT k 1)).2.2 := allL_key h hk (.inl rfl)
    have k1 := hk.ext g1.1
    split
    · split
      · rename_i h2
        have g2 := grow_next m k e g1.2.1
        exact allL_steps m n g2.2.1 (allL_next a1 k1) (next_ch k1 h2)
      · exact allL_next a1 k1
    · exact a1
theorem allL_now {r : Rc} {n : Int} {C : Int} (h : AllL L) (hv : Rv L C r) (hC : C = 2) : AllL (now19 m L r n).2.2.2 := by
  subst hC
  unfold now19
  split
  · exact allL_key h hv.ch (.inl rfl)
  · exact h
theorem allL_recv {r : Rc} {e n : Int} (g : Good L) (h : AllL L) (_hr : RcOk r) (hv : Rv L 2 r) : AllL (recv19 m L r e n).2.2.2 := by
  unfold recv19
  split
  · exact allL_now h hv rfl
  · split
    · unfold later19
      have a : AllL (to15 m L r.ik r.ie e).2.2.2 := by
        unfold to15
        split
        · exact h
        · split
          · exact h
          · split <;> exact allL_steps m _ g h hv.ch
      split
      · rename_i h0
        have hc := (to_ch (x := e) g hv.lo hv.ch h0).1
        unfold now19
        split
        · exact allL_key a hc (.inl rfl)
        · exact a
      · exact a
    · exact h
theorem allL_open {y : Se} {e n c : Int} (g : Good L) (h : AllL L) (hy : SeOk y) (hv : Rv L 2 y.rc) : AllL (open19 m L y e n c).2.2 := by
  have a := allL_recv (m := m) (e := e) (n := n) g h hy.rc hv
  unfold open19
  split
  · split
    · split <;> exact a
    · exact a
  · exact h
theorem allL_step {x : Se} (h : AllL L) (hx : Sd L 2 1 x) : AllL (step19 m L x).2.2 := by
  unfold step19
  split <;> exact allL_next h hx.ch
theorem allL_seal {x : Se} {s : ByteArray} (h : AllL L) (hx : Sd L 2 1 x) (hlt : x.sent < 256) : AllL (seal19 m L x s).2.2 := by
  have a : AllL (sealW m L x.ok x.sent x.h s).2.2 := by
    unfold sealW
    have a1 : AllL (put m L (keyT x.ok 1)).2.2 := allL_key h hx.ch (.inl rfl)
    split
    · unfold text5
      split
      · have a2 : AllL (put m (put m L (keyT x.ok 1)).2.2 (txtT s)).2.2 := allL_put a1 (.inr (.inl ⟨s, rfl⟩))
        split
        · rename_i h0
          exact allL_put a2 (.inr (.inr ⟨_, _, _, _, s, rfl, (put_hit h0).ext (put_ext m _ _)⟩))
        · exact a2
      · exact a1
    · exact a1
  unfold seal19
  split
  · exact h
  · split
    · omega
    · split <;> exact a

/-- What is known from the epoch 'now' on, besides some keys. -/
def Kn (L : List T) (now : Nat) (ks : List Int) (x : Int) : Prop :=
  x = 1 ∨ x = 3 ∨ (∃ j, now ≤ j ∧ Ch L 2 j x) ∨ (∃ j, now ≤ j ∧ Ky L 2 j x) ∨ x ∈ ks ∨ (∃ s, At L x (txtT s)) ∨ ∃ y n h p, At L x (seaT y n h p)
open Classical in
noncomputable def knB (L : List T) (now : Nat) (ks : List Int) (x : Int) : Bool := decide (Kn L now ks x)
theorem knB_iff {now : Nat} {ks : List Int} {x : Int} : knB L now ks x = true ↔ Kn L now ks x := by simp [knB]

/-- Nonces 1, 2 and 3; and the keys that are kept are epochs' keys. -/
structure Fw (L : List T) (ks : List Int) : Prop where
  g : Good L
  all : AllL L
  n1 : Non L 1
  n2 : Non L 2
  n3 : Non L 3
  ks : ∀ x ∈ ks, ∃ j, Ky L 2 j x

theorem Ch.notNon {C D x : Int} (hD : Non L D) : ∀ {j : Nat}, Ch L C j x → x = D → x = C
  | 0, h, _ => h
  | _ + 1, ⟨k, _, h⟩, e => by obtain ⟨n, hn⟩ := hD; subst e; have := hn.same h; simp [nonT, keyT] at this
theorem Ch.notKey {C x q : Int} (hC : Non L C) : ∀ {j : Nat}, Ch L C j x → ¬ At L x (keyT q 1)
  | 0, h, hx => by obtain ⟨n, hn⟩ := hC; subst h; have := hn.same hx; simp [nonT, keyT] at this
  | _ + 1, ⟨k, _, h⟩, hx => by have := h.same hx; simp [keyT] at this
theorem Ch.kind {C x : Int} {t : T} (hC : Non L C) (ht : At L x t) : ∀ {j : Nat}, Ch L C j x → t.k = 2 ∨ t.k = 9
  | 0, h => by obtain ⟨n, hn⟩ := hC; subst h; rw [ht.same hn]; exact .inl rfl
  | _ + 1, ⟨k, _, h⟩ => by rw [ht.same h]; exact .inr rfl
theorem kn_chain {ks : List Int} {now j : Nat} {x : Int} (F : Fw L ks) (h : Ch L 2 j x) : Kn L now ks x ↔ now ≤ j := by
  constructor
  · rintro (h1 | h1 | ⟨i, h1, h2⟩ | ⟨i, h1, k, _, h2⟩ | h1 | ⟨s, h1⟩ | ⟨y, n, hh, p, h1⟩)
    · exact absurd (h.notNon F.n1 h1) (by omega)
    · exact absurd (h.notNon F.n3 h1) (by omega)
    · rw [(h.inj F.n2 F.n2 h2).1]; exact h1
    · exact absurd h2 (h.notKey F.n2)
    · obtain ⟨i, k, _, h2⟩ := F.ks x h1
      exact absurd h2 (h.notKey F.n2)
    · rcases h.kind F.n2 h1 with e | e <;> simp [txtT] at e
    · rcases h.kind F.n2 h1 with e | e <;> simp [seaT] at e
  · exact fun h1 => .inr (.inr (.inl ⟨j, h1, h⟩))
theorem kn_key {ks : List Int} {now j : Nat} {x : Int} (F : Fw L ks) (h : Ky L 2 j x) : Kn L now ks x ↔ now ≤ j ∨ x ∈ ks := by
  constructor
  · obtain ⟨k, hk, hx⟩ := h
    rintro (h1 | h1 | ⟨i, h1, h2⟩ | ⟨i, h1, h2⟩ | h1 | ⟨s, h1⟩ | ⟨y, n, hh, p, h1⟩)
    · obtain ⟨n, hn⟩ := F.n1; subst h1; have := hn.same hx; simp [nonT, keyT] at this
    · obtain ⟨n, hn⟩ := F.n3; subst h1; have := hn.same hx; simp [nonT, keyT] at this
    · exact absurd hx (h2.notKey F.n2)
    · rw [(Ky.inj F.n2 F.n2 (⟨k, hk, hx⟩ : Ky L 2 j x) h2).1]; exact .inl h1
    · exact .inr h1
    · have := hx.same h1; simp [txtT, keyT] at this
    · have := hx.same h1; simp [seaT, keyT] at this
  · rintro (h1 | h1)
    · exact .inr (.inr (.inr (.inl ⟨j, h1, h⟩)))
    · exact .inr (.inr (.inr (.inr (.inl h1))))

theorem kn_clo {ks : List Int} {now : Nat} (F : Fw L ks) (dh kem : Bool) : ∀ x t, At L x t → CloAt L dh kem (knB L now ks) x t := by
  intro x t hx
  rcases F.all x t hx with ⟨n, rfl⟩ | ⟨q, l, j, rfl, hq, hl⟩ | ⟨s, rfl⟩ | ⟨y, n, h, p, s, rfl, hp⟩
  · exact ⟨fun hm => by simp [mkB, nonT] at hm, fun _ hk => by simp [nonT] at hk, fun _ hk => by simp [nonT] at hk, fun _ hk => by simp [nonT] at hk⟩
  · refine ⟨fun hm => ?_, fun _ hk => by simp [keyT] at hk, fun _ hk => by simp [keyT] at hk, fun _ hk => by simp [keyT] at hk⟩
    have hm' : knB L now ks q = true := by simpa [mkB, keyT] using hm
    have hj := (kn_chain F hq).1 (knB_iff.1 hm')
    rw [knB_iff]
    rcases hl with rfl | rfl
    · exact (kn_key F ⟨q, hq, hx⟩).2 (.inl hj)
    · exact (kn_chain F (j := j + 1) ⟨q, hq, hx⟩).2 (by omega)
  · exact ⟨fun _ => knB_iff.2 (.inr (.inr (.inr (.inr (.inr (.inl ⟨s, hx⟩)))))), fun _ hk => by simp [txtT] at hk, fun _ hk => by simp [txtT] at hk, fun _ hk => by simp [txtT] at hk⟩
  · refine ⟨fun _ => knB_iff.2 (.inr (.inr (.inr (.inr (.inr (.inr ⟨y, n, h, p, hx⟩)))))), fun _ hk => by simp [seaT] at hk, fun _ hk => by simp [seaT] at hk, fun _ _ _ => ?_⟩
    exact knB_iff.2 (.inr (.inr (.inr (.inr (.inr (.inl ⟨s, hp⟩))))))

/-- Who knows the chain of 'now', the keys that are kept, and what can be known besides. -/
structure Knows (L : List T) (now : Nat) (ks : List Int) (ik : Int) (K : List Int) : Prop where
  ch : Ch L 2 now ik
  ik : ik ∈ K
  kept : ∀ x ∈ ks, x ∈ K
  all : ∀ x ∈ K, Kn L now ks x

theorem der_chain {now : Nat} {ks K : List Int} {ik : Int} {dh kem : Bool} (g : Good L) (h : Knows L now ks ik K) : ∀ (n : Nat) {x : Int}, Ch L 2 (now + n) x → Der L dh kem (fun x => x ∈ K) x
  | 0, x, hx => by
    have := (show Ch L 2 now x from hx).fn g h.ch
    subst this
    exact .known _ h.ik
  | n + 1, x, ⟨k, hk, hx⟩ => by
    have hd := der_chain (dh := dh) (kem := kem) g h n hk
    exact .make x _ (fun y => decide (y = k)) (fun y hy => by have := of_decide_eq_true hy; subst this; exact hd) hx (by simp [mkB, keyT])
/-- An epoch's key can be made just if the epoch is not ahead of 'now', or the key is kept. -/
theorem der_key {now j : Nat} {ks K : List Int} {ik x : Int} {dh kem : Bool} (F : Fw L ks) (h : Knows L now ks ik K) (hx : Ky L 2 j x) : Der L dh kem (fun x => x ∈ K) x ↔ now ≤ j ∨ x ∈ ks := by
  constructor
  · intro hd
    exact (kn_key F hx).1 (knB_iff.1 (der_of_clo (kn_clo F dh kem) (fun y hy => knB_iff.2 (h.all y hy)) hd))
  · rintro (hj | hk)
    · obtain ⟨k, hk, hx⟩ := hx
      have hd := der_chain (dh := dh) (kem := kem) F.g h (j - now) (x := k) (by rw [show now + (j - now) = j by omega]; exact hk)
      exact .make x _ (fun y => decide (y = k)) (fun y hy => by have := of_decide_eq_true hy; subst this; exact hd) hx (by simp [mkB, keyT])
    · exact .known _ (h.kept x hk)
/-- Where the chain began. -/
theorem der_two {now : Nat} {ks K : List Int} {ik : Int} {dh kem : Bool} (F : Fw L ks) (h : Knows L now ks ik K) : Der L dh kem (fun x => x ∈ K) 2 ↔ now = 0 := by
  have h2 : Ch L 2 0 2 := rfl
  constructor
  · intro hd
    have := (kn_chain F h2).1 (knB_iff.1 (der_of_clo (kn_clo F dh kem) (fun y hy => knB_iff.2 (h.all y hy)) hd))
    omega
  · intro h0
    subst h0
    have := h2.fn F.g h.ch
    rw [this]
    exact .known _ h.ik
end
theorem all_pl3 : AllL pl3 := by
  intro x t hx
  have h1 := hx.lo
  have h2 := hx.hi
  have h3 := hx.is
  rw [show pl3.length = 3 from rfl] at h2
  rcases (show x = 1 ∨ x = 2 ∨ x = 3 by omega) with rfl | rfl | rfl
  · exact .inl ⟨0, (Option.some.inj h3).symm⟩
  · exact .inl ⟨1, (Option.some.inj h3).symm⟩
  · exact .inl ⟨2, (Option.some.inj h3).symm⟩
end Go.Proofs.Ytpcfmafokkffgaa
namespace Go.Proofs.Ytpcfmafokkffgaa
open Go.RowKit

section
variable {W w : World} {Rs : List Res} {b pa pb : Nat} {x y : Se} {L : List T}
theorem seal_f {s : ByteArray} (A : AllL L) (hs : s.size ≤ 1000) (hlt : x.sent < 256) (hroom : L.length + 3 ≤ 20000) (G : Good2 L x y) (h : Two W w b pa pb x y L 20000 Rs) :
    Calls Try.prog 37 #[.pointer (some ⟨pa, 0, none⟩), .string s] w fun e' w' => ∃ c L', e' = .returned (.tuple #[.int .i64 x.oe, .int .i64 x.sent, .int .i64 c, .int .i64 0]) ∧
      Two W w' b pa pb { x with sent := x.sent + 1 } y L' 20000 Rs ∧ Good2 L' { x with sent := x.sent + 1 } y ∧ Sl L' 2 1 x.oe x.sent s c ∧ Ext L L' ∧ L'.length ≤ L.length + 3 ∧ AllL L' := by
  obtain ⟨c, L', q1, q2, q3⟩ := seal_spec (m := 20000) (s := s) G.g G.nc ⟨by decide, by have := G.le; omega⟩ G.xo G.xs hs hlt (by omega)
  have ho := seal19_ok (m := 20000) (L := L) (s := s) G.xo
  have ha := allL_seal (m := 20000) (s := s) A G.xs hlt
  rw [q1] at ho ha
  refine (seal_two G.xo (Nat.le_trans hs (by decide)) q1 h).mono fun e' w' h' => ⟨c, L', h'.1, h'.2, ?_, q2, q3.1, q3.2.2, ha⟩
  have G' := G.later q3
  exact ⟨G'.g, G'.nc, G'.nd, G'.le, ho, G'.yo, ⟨G'.xs.ch, G'.xs.h⟩, G'.xr, G'.yr, G'.yh⟩
theorem step_f (A : AllL L) (he : x.oe < 1000) (hroom : L.length + 1 ≤ 20000) (G : Good2 L x y) (h : Two W w b pa pb x y L 20000 Rs) :
    Calls Try.prog 39 #[.pointer (some ⟨pa, 0, none⟩)] w fun e' w' => ∃ k L', e' = .returned (.int .i64 0) ∧
      Two W w' b pa pb { x with ok := k, oe := x.oe + 1, sent := 0 } y L' 20000 Rs ∧ Good2 L' { x with ok := k, oe := x.oe + 1, sent := 0 } y ∧ Ext L L' ∧ L'.length ≤ L.length + 1 ∧ AllL L' := by
  obtain ⟨k, L', q1, q2, q3⟩ := step_spec (m := 20000) G.g G.nc G.xo G.xs he (by omega)
  have ho := step19_ok (m := 20000) (L := L) G.xo
  have ha := allL_step (m := 20000) A G.xs
  rw [q1] at ho ha
  refine (step_two q1 h).mono fun e' w' h' => ⟨k, L', h'.1, h'.2, ?_, q3.1, q3.2.2, ha⟩
  have G' := G.later q3
  exact ⟨G'.g, G'.nc, G'.nd, G'.le, ho, G'.yo, q2, G'.xr, G'.yr, G'.yh⟩
theorem get_two {m z : Int} {t : T} (hz : At L z t) (h : Two W w b pa pb x y L m Rs) :
    Calls Try.prog 49 #[.pointer (some ⟨b, 0, none⟩), .int .i64 z] w fun e w' => e = .returned (.tuple #[.agg #[.int .i64 t.k, .string t.s, .int .u64 t.n, .int .i64 t.a, .int .i64 t.b, .int .i64 t.c], .bool true]) ∧ Two W w' b pa pb x y L m Rs := by
  obtain ⟨ada, capa, adb, capb, h'⟩ := h
  exact (get_at h' hz).mono fun e w' h2 => ⟨h2.1, ada, capa, adb, capb, h'.still h2.2⟩
theorem can_two {m z : Int} {ks : List Int} {n : Nat} (dh kem : Bool) (ad : Option Addr) (cap : Nat) (hin : ∀ x ∈ ks, 1 ≤ x ∧ x ≤ L.length) (hz : 1 ≤ z ∧ z ≤ L.length) (h : Two W w b pa pb x y L m (RowR 3 1 (.slice ad n cap) n (nums .i64 ks) :: Rs)) :
    Calls Try.prog 50 #[.pointer (some ⟨b, 0, none⟩), .slice ad n cap, .agg #[.bool dh, .bool kem], .int .i64 z] w fun e w' => ∃ p : Bool, e = .returned (.tuple #[.bool p, .int .i64 0]) ∧ (p = true ↔ Der L dh kem (fun x => x ∈ ks) z) ∧
      Two W w' b pa pb x y L m (RowR 3 1 (.slice ad n cap) n (nums .i64 ks) :: Rs) := by
  obtain ⟨ada, capa, adb, capb, h'⟩ := h
  refine (can_c dh kem z ad cap hin hz ((h'.front 5 rfl).front 1 rfl)).mono fun e w' h2 => ?_
  obtain ⟨p, h3, h4, h5⟩ := h2
  exact ⟨p, h3, h4, ada, capa, adb, capb, (h5.front 1 rfl).back 5 rfl⟩
end
theorem beq_dec (u y : Int) : (u == y) = decide (y = u) := by
  by_cases h : u = y
  · subst h; simp
  · simp [h, Ne.symm h]
/-- What was sealed, the texts being one. -/
def SentX (L : List T) (l : List Tr) : Prop := ∀ (k : Nat) (z : Tr), l[k]? = some z → Sl L 2 1 z.1 z.2.1 ⟨#[120]⟩ z.2.2 ∧ (0 ≤ z.2.1 ∧ z.2.1 < 256) ∧ z.1 ≤ 100
theorem SentX.nil (L : List T) : SentX L [] := fun k z h => by simp at h
theorem SentX.ext {L L' : List T} {l : List Tr} (h : SentX L l) (e : Ext L L') : SentX L' l := fun k z hz => ⟨(h k z hz).1.ext e, (h k z hz).2⟩
theorem SentX.snoc {L : List T} {l : List Tr} {z : Tr} (h : SentX L l) (hz : Sl L 2 1 z.1 z.2.1 ⟨#[120]⟩ z.2.2) (h1 : 0 ≤ z.2.1 ∧ z.2.1 < 256) (h2 : z.1 ≤ 100) : SentX L (l ++ [z]) := fun k y hy => by
  rcases Nat.lt_trichotomy k l.length with hk | hk | hk
  · rw [List.getElem?_append_left hk] at hy
    exact h k y hy
  · subst hk
    rw [List.getElem?_append_right (Nat.le_refl _)] at hy
    simp at hy
    subst hy
    exact ⟨hz, h1, h2⟩
  · rw [List.getElem?_eq_none (by simp; omega)] at hy
    cases hy
/-- All that is known at the end. -/
def knowns (l : List Tr) (held : List Int) : List Int := 1 :: l.map (fun z => z.2.2) ++ held

theorem fw_of {L : List T} {x y : Se} (G : Good2 L x y) (A : AllL L) (n1 : Non L 1) : Fw L (kKeys y.rc.es) := by
  refine ⟨G.g, A, n1, G.nc, G.nd, fun z hz => ?_⟩
  simp only [kKeys, List.mem_map] at hz
  obtain ⟨e, he, rfl⟩ := hz
  exact ⟨_, (G.yr.es e he).2.2⟩
theorem mem_knowns {l : List Tr} {held : List Int} {a : Int} : a ∈ knowns l held ↔ a = 1 ∨ (∃ z ∈ l, z.2.2 = a) ∨ a ∈ held := by simp [knowns]
theorem knows_of {L : List T} {x y : Se} {l : List Tr} (G : Good2 L x y) (SO : SentX L l) (hok : y.ok = 3) : Knows L y.rc.ie.toNat (kKeys y.rc.es) y.rc.ik (knowns l ([y.ok, y.rc.ik] ++ kKeys y.rc.es)) := by
  refine ⟨G.yr.ch, mem_knowns.2 (.inr (.inr (by simp))), fun z hz => mem_knowns.2 (.inr (.inr (by simp [hz]))), fun z hz => ?_⟩
  rcases mem_knowns.1 hz with h | ⟨u, hu, rfl⟩ | h
  · exact .inl h
  · obtain ⟨k, hk⟩ := List.mem_iff_getElem?.1 hu
    obtain ⟨_, yk, p, _, _, h3⟩ := (SO k u hk).1
    exact .inr (.inr (.inr (.inr (.inr (.inr ⟨_, _, _, _, h3⟩)))))
  · simp only [List.cons_append, List.nil_append, List.mem_cons] at h
    rcases h with h | h | h
    · exact .inr (.inl (h.trans hok))
    · exact .inr (.inr (.inl ⟨_, Nat.le_refl _, by rw [h]; exact G.yr.ch⟩))
    · exact .inr (.inr (.inr (.inr (.inl h))))
theorem knows_in {L : List T} {x y : Se} {l : List Tr} (G : Good2 L x y) (SO : SentX L l) (hok : y.ok = 3) : ∀ a ∈ knowns l ([y.ok, y.rc.ik] ++ kKeys y.rc.es), 1 ≤ a ∧ a ≤ L.length := by
  intro a ha
  have hle := G.le
  rcases mem_knowns.1 ha with rfl | ⟨u, hu, rfl⟩ | h
  · omega
  · obtain ⟨k, hk⟩ := List.mem_iff_getElem?.1 hu
    exact (SO k u hk).1.inn
  · simp only [List.cons_append, List.nil_append, List.mem_cons] at h
    rcases h with h | h | h
    · omega
    · rw [h]; exact G.yr.ch.inn G.nc
    · simp only [kKeys, List.mem_map] at h
      obtain ⟨e, he, rfl⟩ := h
      exact ((G.yr.es e he).2.2).inn
/-- A text's key can be made just if its epoch has not gone, or its key is kept. -/
theorem can_text {L : List T} {x y : Se} {l : List Tr} {k : Nat} {z : Tr} (G : Good2 L x y) (A : AllL L) (n1 : Non L 1) (SO : SentX L l) (hok : y.ok = 3) (hz : l[k]? = some z) (dh kem : Bool) :
    ∃ yk p : Int, At L z.2.2 (seaT yk z.2.1 1 p) ∧ (1 ≤ yk ∧ yk ≤ L.length) ∧ (Der L dh kem (fun a => a ∈ knowns l ([y.ok, y.rc.ik] ++ kKeys y.rc.es)) yk ↔ (y.rc.ie ≤ z.1 ∨ yk ∈ kKeys y.rc.es)) := by
  obtain ⟨h0, yk, p, h1, h2, h3⟩ := (SO k z hz).1
  refine ⟨yk, p, h3, h1.inn, ?_⟩
  rw [der_key (fw_of G A n1) (knows_of G SO hok) h1]
  have := G.yr.lo
  constructor
  · rintro (h | h)
    · exact .inl (by omega)
    · exact .inr h
  · rintro (h | h)
    · exact .inl (by omega)
    · exact .inr h
theorem can_first {L : List T} {x y : Se} {l : List Tr} (G : Good2 L x y) (A : AllL L) (n1 : Non L 1) (SO : SentX L l) (hok : y.ok = 3) (dh kem : Bool) :
    Der L dh kem (fun a => a ∈ knowns l ([y.ok, y.rc.ik] ++ kKeys y.rc.es)) 2 ↔ y.rc.ie = 0 := by
  rw [der_two (fw_of G A n1) (knows_of G SO hok)]
  have := G.yr.lo
  omega
section
variable {W w : World} {Rs : List Res} {b pa pb : Nat} {x y : Se} {L : List T}
theorem open_f {e n c : Int} (A : AllL L) (hok : y.ok = 3) (be : -9223372036854775808 ≤ e) (be' : e ≤ 9223372036854775807) (bn : -9223372036854775808 ≤ n) (bn' : n ≤ 9223372036854775807) (G : Good2 L x y) (h : Two W w b pa pb x y L 20000 Rs) :
    Calls Try.prog 41 #[.pointer (some ⟨pb, 0, none⟩), .int .i64 e, .int .i64 n, .int .i64 c] w fun e' w' => ∃ t er y' L', e' = .returned (.tuple #[.string t, .int .i64 er]) ∧
      Two W w' b pa pb x y' L' 20000 Rs ∧ Good2 L' x y' ∧ Grow L L' 9 ∧ AllL L' ∧ y'.ok = 3 := by
  have hs := open_spec (m := 20000) (e := e) (n := n) (c := c) G.g G.yo G.yr
  have ha := allL_open (m := 20000) (e := e) (n := n) (c := c) G.g A G.yo G.yr
  refine (open_g (c := c) be be' bn bn' G h).mono fun e' w' h' => ?_
  obtain ⟨t, er, y', L', h1, h2, h3, h4, h5, _⟩ := h'
  rw [h1] at hs ha
  exact ⟨t, er, y', L', h2, h3, h4, h5, ha, by have := hs.2.1; dsimp only at this; rw [this]; exact hok⟩
theorem Two.pull {m : Int} {R : Res} (i : Nat) (h : Two W w b pa pb x y L m Rs) (e : Rs[i]? = some R) : Two W w b pa pb x y L m (R :: Rs.eraseIdx i) := by
  obtain ⟨ada, capa, adb, capb, h⟩ := h
  refine ⟨ada, capa, adb, capb, ?_⟩
  exact (h.front (i + 5) (R := R) (by simpa using e)).back 5 rfl
theorem get_sea {m z k n hh p : Int} (hz : At L z (seaT k n hh p)) (h : Two W w b pa pb x y L m Rs) :
    Calls Try.prog 49 #[.pointer (some ⟨b, 0, none⟩), .int .i64 z] w fun e w' => e = .returned (.tuple #[.agg #[.int .i64 10, .string ⟨#[]⟩, .int .u64 n, .int .i64 k, .int .i64 hh, .int .i64 p], .bool true]) ∧ Two W w' b pa pb x y L m Rs := get_two hz h
theorem Two.dropR {m : Int} {R : Res} (h : Two W w b pa pb x y L m (R :: Rs)) : Two W w b pa pb x y L m Rs := by
  obtain ⟨ada, capa, adb, capb, h⟩ := h
  exact ⟨ada, capa, adb, capb, (h.front 5 rfl).drop⟩
theorem Two.lit {E : TypeId} {m : Int} {cs : Array Value} {n : Nat} (k : Nat) (hk : w.heap.size = k) (zs : List Int) (hcs : cs = (nums .i64 zs).toArray) (hn : n = zs.length) (hm : n ≤ maxLen) (h : Two W w b pa pb x y L m Rs) : Two W (w.alloc (.cells cs E (0, 0))) b pa pb x y L m (RowR E 1 (.slice (some ⟨k, 0, none⟩) n n) n (nums .i64 zs) :: Rs) := by
  obtain ⟨Ss, h1, h2⟩ := h.nil
  exact h2 _ _ (h1.row_lit k hk zs hcs hn hm)
end
end Go.Proofs.Ytpcfmafokkffgaa
namespace Go.Proofs.Ytpcfmafokkffgaa
open Go.RowKit

section
variable {P : Program} {ops : Array Oper} {md : Region.Mode} {C : World → Prop}

/-- Each operation behind the n-th waits for one from the n-th on. -/
def laterB (md : Region.Mode) (ops : Array Oper) (n : Nat) : Bool :=
  (List.range ops.size).all fun t => decide (t ≤ n) || (List.range t).any fun j => decide (n ≤ j) && Region.waitsFor md ops t j

theorem stays {t j : Nat} {listed : Array Bool} (hw : Region.waitsFor md ops t j = true) (hj : listed.getD j true = false) : t ∉ Region.ready md ops listed := by
  intro hr
  obtain ⟨_, ot, hot, hall⟩ := mem_ready.1 hr
  obtain ⟨o', ho', e, he, hb, hon⟩ := Region.waitsFor_spec hw
  obtain rfl := Option.some.inj (ho'.symm.trans hot)
  have h2 := hall e he hb
  rw [hon, getD_both hj] at h2
  cases h2

theorem sink_stays {n : Nat} {listed : Array Bool} (hs : Region.sinkB md ops n = true) (hn : n < ops.size) (inv : HeadInv md ops n listed) : ∀ (d i : Nat), n ≤ i + d → i < n → listed.getD i true = false → n ∉ Region.ready md ops listed
  | 0, i, hd, hi, _ => by omega
  | d + 1, i, hd, hi, hun => by
    obtain ⟨j, hj, hj2⟩ := List.any_eq_true.1 (List.all_eq_true.1 hs i (List.mem_range.2 hi))
    simp only [Bool.and_eq_true, decide_eq_true_eq] at hj2
    have hjn := List.mem_range.1 hj
    by_cases hjt : j = n
    · subst hjt; exact stays hj2.2 hun
    · cases hl : listed.getD j true with
      | false => exact sink_stays hs hn inv d j (by omega) (by omega) hl
      | true =>
        exfalso
        obtain ⟨oj, hoj, e, he, hb, hon⟩ := Region.waitsFor_spec hj2.2
        have hjs : j < listed.size := by rw [inv.size]; omega
        have hl' : listed.getD j false = true := by simp [hjs] at hl ⊢; exact hl
        have := inv.closed j oj hoj hl' e he hb
        rw [hon, getD_both hun] at this
        cases this

theorem tail_stays {n : Nat} {listed : Array Bool} (hs : Region.sinkB md ops n = true) (hl : laterB md ops n = true) (hn : n < ops.size) (inv : HeadInv md ops n listed) {i : Nat} (hi : i < n) (hun : listed.getD i true = false) {t : Nat} (ht : n ≤ t) :
    t ∉ Region.ready md ops listed := by
  by_cases htn : t = n
  · subst htn; exact sink_stays hs hn inv t i (by omega) hi hun
  · intro hr
    have htl : t < ops.size := by obtain ⟨_, o, ho, _⟩ := mem_ready.1 hr; exact (Array.getElem?_eq_some_iff.1 ho).1
    have h1 := List.all_eq_true.1 hl t (List.mem_range.2 htl)
    simp only [Bool.or_eq_true, decide_eq_true_eq] at h1
    rcases h1 with h1 | h1
    · omega
    · obtain ⟨j, hj, hj2⟩ := List.any_eq_true.1 h1
      simp only [Bool.and_eq_true, decide_eq_true_eq] at hj2
      have := List.mem_range.1 hj
      exact stays hj2.2 (inv.tail j hj2.1 (by omega)) hr

/-- The first n operations in every order; then 'L'. -/
def headQ (P : Program) (md : Region.Mode) (ops : Array Oper) (C : World → Prop) (n : Nat) (L : Array Bool → Act → Prop) : Nat → Array Bool → Act → Prop
  | 0, listed, a => L listed a
  | f + 1, listed, a => Region.ready md ops listed ≠ [] ∧ ∀ i ∈ Region.ready md ops listed, i < n ∧ qOp P ops C i (headQ P md ops C n L f (listed.setIfInBounds i true)) a

theorem headQ_any {n g : Nat} {L : Array Bool → Act → Prop} {Q : Exit → Act → World → Prop} (hL : ∀ listed a w, C w → L listed a → wpAny P md ops Q g listed a w) :
    ∀ (f : Nat) (listed : Array Bool) (a : Act) (w : World), C w → headQ P md ops C n L f listed a → wpAny P md ops Q (f + g) listed a w
  | 0, listed, a, w, hw, h => by rw [Nat.zero_add]; exact hL _ _ _ hw h
  | f + 1, listed, a, w, hw, h => by
    rw [Nat.succ_add]
    exact ⟨fun h0 => absurd h0 h.1, fun i hi => wpOp_of_qOp hw (fun a' w' hw' h' => headQ_any hL f _ a' w' hw' h') (h.2 i hi).2⟩

theorem headQ_first {n i : Nat} {oi : Oper} {v : Value} {L : Array Bool → Act → Prop} (hi : ops[i]? = some oi) (hsel : Region.noSelect ops = true) (hs : Region.sinkB md ops n = true) (hl : laterB md ops n = true) (hn : n < ops.size) (hin : i < n)
    (hL : ∀ listed a, L listed a → ∀ j ∈ Region.ready md ops listed, n ≤ j) :
    ∀ (f : Nat) (listed : Array Bool) (a : Act), HeadInv md ops n listed →
      (∀ j oj, ops[j]? = some oj → j ≠ i → listed.getD j true = false → (∀ e ∈ oj.after, Region.binds md e = true → e.on ≠ i) → oi.apart ops oj = true) →
      i ∈ Region.ready md ops listed → YieldsIn P ops C oi v a →
      headQ P md ops C n L f (listed.setIfInBounds i true) (a.put oi.dst v) → headQ P md ops C n L (f + 1) listed a := by
  intro f
  induction f with
  | zero =>
    intro listed a inv _ hr hy H
    have hun := (mem_ready.1 hr).1
    refine ⟨List.ne_nil_of_mem hr, fun j hj => ?_⟩
    have hjn : j < n := Nat.lt_of_not_le fun h => tail_stays hs hl hn inv hin hun h hj
    by_cases hji : j = i
    · subst hji; exact ⟨hjn, hy.qOp hi H⟩
    · have := hL _ _ H j (ready_mono hj hji); omega
  | succ f ih =>
    intro listed a inv hap hr hy H
    have hun := (mem_ready.1 hr).1
    refine ⟨List.ne_nil_of_mem hr, fun j hj => ?_⟩
    have hjn : j < n := Nat.lt_of_not_le fun h => tail_stays hs hl hn inv hin hun h hj
    refine ⟨hjn, ?_⟩
    by_cases hji : j = i
    · subst hji; exact hy.qOp hi H
    obtain ⟨hjun, oj, hoj, hall⟩ := mem_ready.1 hj
    have hno : ∀ e ∈ oj.after, Region.binds md e = true → e.on ≠ i := fun e he hb heq => by
      have h1 := hall e he hb
      rw [heq, getD_both hun] at h1
      cases h1
    have h2 := qOp_put hoj (hap j oj hoj hji hjun hno) (fun cs b => Region.noSelect_spec hsel i oi cs b hi) (fun cs b => Region.noSelect_spec hsel j oj cs b hoj) hy (H.2 j (ready_mono hj hji)).2
    refine qOp_mono (fun a' h3 => ih (listed.setIfInBounds j true) a' (inv.set hj hjn) (fun k ok hk hki hkun hkno => hap k ok hk hki ?_ hkno) (ready_mono hr (Ne.symm hji)) h3.1 ?_) h2
    · by_cases hjk : j = k
      · subst hjk; exact hjun
      · rwa [getD_set_ne true hjk] at hkun
    · rw [Array.setIfInBounds_comm _ _ hji]
      exact h3.2

/-- In the text's order each of the first n can come up; then the n-th alone; then the others in the text's order. -/
def turnLex (md : Region.Mode) (ops : Array Oper) : Nat → Nat → Array Bool → Bool
  | 0, k, listed => decide (Region.ready md ops listed = [k]) && Region.lexFrom md ops (ops.size - (k + 1)) (k + 1) (listed.setIfInBounds k true)
  | f + 1, k, listed => (Region.ready md ops listed).contains k && Region.free md ops listed k && turnLex md ops f (k + 1) (listed.setIfInBounds k true)

def turnB (md : Region.Mode) (ops : Array Oper) (n : Nat) : Bool :=
  Region.noSelect ops && decide (n < ops.size) && Region.sinkB md ops n && laterB md ops n && turnLex md ops n 0 (Array.replicate ops.size false)

theorem headQ_lex {n : Nat} {R : Act → Prop} (hsel : Region.noSelect ops = true) (hs : Region.sinkB md ops n = true) (hl : laterB md ops n = true) (hn : n < ops.size) :
    ∀ (l : List Oper) (k : Nat) (listed : Array Bool) (a : Act), (∀ j, j < l.length → l[j]? = ops[k + j]?) → k + l.length = n → HeadInv md ops n listed → turnLex md ops l.length k listed = true → wpQuiet P ops C R l a →
      headQ P md ops C n (fun listed' a' => Region.ready md ops listed' = [n] ∧ Region.lexFrom md ops (ops.size - (n + 1)) (n + 1) (listed'.setIfInBounds n true) = true ∧ R a') l.length listed a
  | [], k, listed, a, _, hk, _, hB, h => by
    obtain rfl : k = n := by simpa using hk
    simp only [List.length_nil, turnLex, Bool.and_eq_true, decide_eq_true_eq] at hB
    exact ⟨hB.1, hB.2, h⟩
  | o :: l, k, listed, a, hops, hk, inv, hB, h => by
    have h0 : ops[k]? = some o := by simpa using (hops 0 (by simp)).symm
    simp only [List.length_cons, turnLex, Bool.and_eq_true] at hB
    obtain ⟨⟨hr, hf⟩, hB'⟩ := hB
    have hkn : k < n := by simp only [List.length_cons] at hk; omega
    have hr' : k ∈ Region.ready md ops listed := by simpa using hr
    have hq : qOp P ops C k (wpQuiet P ops C R l) a := by unfold qOp; simp only [h0]; exact h
    obtain ⟨v, hy, hK⟩ := yieldsIn_of_qOp h0 hq
    exact headQ_first h0 hsel hs hl hn hkn (fun listed' a' hL j hj => by rw [hL.1] at hj; have := List.mem_singleton.1 hj; omega) l.length listed a inv (Region.free_spec h0 hf) hr' hy
      (headQ_lex hsel hs hl hn l (k + 1) _ _ (fun j hj => by have := hops (j + 1) (by simp; omega); simpa [Nat.add_assoc, Nat.add_comm 1 j] using this) (by simp only [List.length_cons] at hk; omega) (inv.set hr' hkn) hB' hK)

theorem wp_turn_exit {o : Oper} {a : Act} {w : World} {R : Act → World → Prop} {Q : Exit → Act → World → Prop}
    (h : o.wp P a w (fun a' w' => R a' w') (fun e a' w' => e = .normal ∧ R a' w')) : o.wp P a w R Q := by
  unfold Oper.wp at *
  generalize (execOp a.eval o).run P w = r at *
  cases r with
  | ok n w' =>
    cases n <;> simp only [Oper.upon] at h ⊢ <;> first | exact h | skip
    case enter f args =>
      refine Calls.mono h fun e w'' he => ?_
      cases e with
      | returned v => exact he
      | panicked c => exact absurd he.1 (by simp)
      | outgrown => obtain ⟨_, _, he, _⟩ := he; exact absurd he (by simp)
  | halt x w' =>
    cases x <;> simp only [Oper.upon] at h ⊢
    case panic v => exact absurd h.1 (by simp)

/-- THE RULE. -/
theorem wp_region_turn {id : Nat} {Q : Exit → Act → World → Prop} {a : Act} {w : World} {l : List Oper} (n : Nat) (o : Oper) (hm : P.follows .mixedOrders = true) (hB : turnB .any l.toArray n = true) (ho : l[n]? = some o) (hg : o.guard = none) (hC : C { w with drawn := w.drawn + 1 })
    (h : wpQuiet P l.toArray C (fun a1 => ∀ w1, C w1 → ∀ K : Exit → Act → World → Prop,
        (∀ a2 w2, (∃ D : World → Prop, D w2 ∧ wpQuiet P l.toArray D (fun a3 => ∀ w3, D w3 → Q .normal a3 w3) (l.drop (n + 1)) a2) → K .normal a2 w2) → wpList P l.toArray K [o] a1 w1) (l.take n) a) :
    (Code.region id l.toArray true).wp P Q a w := by
  simp only [turnB, Bool.and_eq_true, decide_eq_true_eq] at hB
  obtain ⟨⟨⟨⟨hsel, hn⟩, hs⟩, hl⟩, hlex⟩ := hB
  have hn' : n < l.length := by simpa using hn
  have htl : (l.take n).length = n := by simp; omega
  have hsz : l.toArray.size - (n + 1) = (l.drop (n + 1)).length := by simp
  have inv0 : HeadInv .any l.toArray n (Array.replicate l.toArray.size false) :=
    ⟨by simp, fun j oj _ hl => (by rw [getD_replicate_false] at hl; cases hl), fun t _ ht => getD_in (by simpa using ht) (getD_replicate_false _ _)⟩
  have ho' : l.toArray[n]? = some o := by simpa using ho
  have H := headQ_lex (P := P) (C := C) (md := .any) (n := n) hsel hs hl hn (l.take n) 0 _ a (fun j hj => by
    have hj' : j < n := by rw [htl] at hj; exact hj
    simp [hj']) (by simpa using htl) inv0 (by rw [htl]; exact hlex) h
  refine wp_region_any hm ?_
  have := headQ_any (Q := Q) (g := (l.drop (n + 1)).length + 1) (fun listed a1 w1 hw1 hL => ?_) _ _ _ _ hC H
  · rw [htl, show n + ((l.drop (n + 1)).length + 1) = l.toArray.size by simp; omega] at this
    exact this
  · obtain ⟨hr, hx, hR⟩ := hL
    refine ⟨fun h0 => (by rw [hr] at h0; cases h0), fun i hi => ?_⟩
    rw [hr] at hi
    obtain rfl := List.mem_singleton.1 hi
    have hk := hR w1 hw1 (fun e a2 w2 => e = .normal ∧ (∃ D : World → Prop, D w2 ∧ wpQuiet P l.toArray D (fun a3 => ∀ w3, D w3 → Q .normal a3 w3) (l.drop (i + 1)) a2)) (fun a2 w2 h2 => ⟨rfl, h2⟩)
    have hwant : Region.wanted o (yielded l.toArray a1.tmps) = true := by simp [Region.wanted, hg]
    simp only [wpList, hwant, if_true] at hk
    unfold wpOp
    simp only [ho', hwant, if_true]
    rcases hk with hk | ⟨_, _, _, hk⟩
    · left
      refine Oper.wp_mono (fun a2 w2 h2 => ?_) (wp_turn_exit (Q := Q) (Oper.wp_mono (fun a2 w2 h2 => h2.2) hk))
      obtain ⟨D, hD, h3⟩ := h2
      refine wpAny_of_quiet (C := D) (Q := fun a3 => ∀ w3, D w3 → Q .normal a3 w3) (fun _ w3 hw3 h4 => h4 w3 hw3) _ _ _ _ hD ?_
      exact wpAnyQ_lex (C := D) (md := .any) hsel (l.drop (i + 1)) (i + 1) _ a2 (fun j => by simp [List.getElem?_drop]) (by rw [← hsz]; exact hx) h3
    · exact absurd hk.1 (by simp)
end
end Go.Proofs.Ytpcfmafokkffgaa
namespace Go.Proofs.Ytpcfmafokkffgaa
open Go.RowKit Go.ChangeShapes Go.WideShapes

/-- So many rows of n integers lie there. -/
def RowsIn (n : Nat) (k : IntKind) (w : World) (a : Option Addr) (zs : List (List Int)) : Prop :=
  ∀ (i : Nat) (z : List Int), zs[i]? = some z → z.length = n ∧ (∀ x ∈ z, k.min ≤ x ∧ x ≤ k.max) ∧ ∃ g o, a = some ⟨g, o, none⟩ ∧ ∀ (j : Nat) (v : Int), z[j]? = some v → w.cell? ⟨g, o + i * n + j, none⟩ = some (.int k v)

section
variable {H : Type} {enc : TypeId × Value → H} {w : World} {base : Nat} {spare : Nat → Bool} {held : Bool}

end
end Go.Proofs.Ytpcfmafokkffgaa
