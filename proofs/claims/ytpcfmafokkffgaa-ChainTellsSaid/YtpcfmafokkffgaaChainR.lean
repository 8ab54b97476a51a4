/-
  Chains side by side, plainly: levels of keys; has. For every store and every list.
-/
import Derived.Test.YtpcfmafokkffgaaChainQ
import Derived.Test.YtpcfmafokkffgaaFixCh
import Derived.Test.YtpcfmafokkffgaaKnowN
namespace Go.Proofs.Ytpcfmafokkffgaa
open Go.RowKit

/-- x is a chain's key, so many steps behind a Nonce. -/
def Lv (L : List T) : Nat → Int → Prop
  | 0, x => ∃ n, At L x (nonT n)
  | i + 1, x => ∃ k, Lv L i k ∧ At L x (keyT k 2)

theorem Lv.ext {L L' : List T} (e : Ext L L') : ∀ {i : Nat} {x : Int}, Lv L i x → Lv L' i x
  | 0, _, ⟨n, h⟩ => ⟨n, h.ext e⟩
  | _ + 1, _, ⟨k, h1, h2⟩ => ⟨k, Lv.ext e h1, h2.ext e⟩
theorem Lv.inn {L : List T} : ∀ {i : Nat} {x : Int}, Lv L i x → 1 ≤ x ∧ x ≤ L.length
  | 0, _, ⟨_, h⟩ => ⟨h.lo, h.hi⟩
  | _ + 1, _, ⟨_, _, h⟩ => ⟨h.lo, h.hi⟩
theorem Lv.uniq {L : List T} : ∀ {i j : Nat} {x : Int}, Lv L i x → Lv L j x → i = j
  | 0, 0, _, _, _ => rfl
  | 0, j + 1, _, ⟨n, h⟩, ⟨k, _, h2⟩ => by have := h.same h2; simp [nonT, keyT] at this
  | i + 1, 0, _, ⟨k, _, h2⟩, ⟨n, h⟩ => by have := h.same h2; simp [nonT, keyT] at this
  | i + 1, j + 1, _, ⟨k, h1, h2⟩, ⟨k', h3, h4⟩ => by
    have := h2.same h4
    simp only [keyT, T.mk.injEq, and_true, true_and] at this
    subst this
    rw [Lv.uniq h1 h3]
theorem Lv.notKey {L : List T} {k : Int} : ∀ {i : Nat} {x : Int}, Lv L i x → ¬ At L x (keyT k 1)
  | 0, _, ⟨n, h⟩, h2 => by have := h.same h2; simp [nonT, keyT] at this
  | _ + 1, _, ⟨k', _, h⟩, h2 => by have := h.same h2; simp [keyT] at this

theorem next15_of {m k e u : Int} {L L' : List T} (h0 : 0 ≤ e) (h1 : e < 1000) (h : put m L (keyT k 2) = (u, 0, L')) : next15 m L k e = ((u, e + 1), 0, L') := by
  unfold next15
  rw [if_neg (by omega), h]
  rfl

/-- Two chains, i steps behind their Nonces: the keys and the chains so far. -/
structure ApSt (L : List T) (i : Nat) (P : Prop) (c d : Int) (keys chains : List Int) : Prop where
  good : Good L
  lc : Lv L i c
  ld : Lv L i d
  eq : c = d ↔ P
  keys : ∀ y ∈ keys, ∃ j k, j < i ∧ Lv L j k ∧ At L y (keyT k 1)
  chains : ∀ y ∈ chains, ∃ j, j ≤ i ∧ Lv L j y

theorem keyT_inj {a b n : Int} : keyT a n = keyT b n ↔ a = b := by simp [keyT]

theorem apart_start {m n1 n2 : Int} (hm : 2 ≤ m) : ∃ x y L1 L2, put m [] (nonT n1) = (x, 0, L1) ∧ put m L1 (nonT n2) = (y, 0, L2) ∧ ApSt L2 0 (n1 = n2) x y [] [x, y] ∧ L2.length ≤ 2 := by
  obtain ⟨x, L1, p1, a1, e1, g1, l1⟩ := put_ok (m := m) (L := []) (t := nonT n1) good_nil (may_non _) (by simp; omega)
  obtain ⟨y, L2, p2, a2, e2, g2, l2⟩ := put_ok (m := m) (L := L1) (t := nonT n2) g1 (may_non _) (by simp at l1; omega)
  refine ⟨x, y, L1, L2, p1, p2, ⟨g2, ⟨n1, a1.ext e2⟩, ⟨n2, a2⟩, ?_, by simp, ?_⟩, by simp at l1; omega⟩
  · rw [at_iff g2 (a1.ext e2) a2]; simp [nonT]
  · intro z hz
    simp only [List.mem_cons, List.not_mem_nil, or_false] at hz
    rcases hz with rfl | rfl
    · exact ⟨0, Nat.le_refl _, n1, a1.ext e2⟩
    · exact ⟨0, Nat.le_refl _, n2, a2⟩

theorem apart_step {L : List T} {i : Nat} {P : Prop} {c d m : Int} {keys chains : List Int} (h : ApSt L i P c d keys chains) (hr : (L.length : Int) + 4 ≤ m) :
    ∃ a b u v L1 L2 L3 L4, put m L (keyT c 1) = (a, 0, L1) ∧ put m L1 (keyT d 1) = (b, 0, L2) ∧ put m L2 (keyT c 2) = (u, 0, L3) ∧ put m L3 (keyT d 2) = (v, 0, L4) ∧ (a = b ↔ P) ∧ (u = v ↔ P) ∧
      (a ∉ keys ∧ b ∉ keys ∧ a ∉ chains ∧ b ∉ chains) ∧ (u ∉ chains ∧ u ∉ keys ∧ v ∉ keys) ∧ (a ≠ u ∧ b ≠ v ∧ a ≠ v ∧ b ≠ u) ∧ ApSt L4 (i + 1) P u v (keys ++ [a, b]) (chains ++ [u, v]) ∧ L4.length ≤ L.length + 4 := by
  obtain ⟨hc1, hc2⟩ := h.lc.inn
  obtain ⟨hd1, hd2⟩ := h.ld.inn
  obtain ⟨a, L1, p1, a1, e1, g1, l1⟩ := put_ok (m := m) (L := L) (t := keyT c 1) h.good (may_key.2 ⟨hc1, hc2⟩) (by omega)
  have t1 := e1.len
  obtain ⟨b, L2, p2, a2, e2, g2, l2⟩ := put_ok (m := m) (L := L1) (t := keyT d 1) g1 (may_key.2 ⟨hd1, by omega⟩) (by omega)
  have t2 := e2.len
  obtain ⟨u, L3, p3, a3, e3, g3, l3⟩ := put_ok (m := m) (L := L2) (t := keyT c 2) g2 (may_key.2 ⟨hc1, by omega⟩) (by omega)
  have t3 := e3.len
  obtain ⟨v, L4, p4, a4, e4, g4, l4⟩ := put_ok (m := m) (L := L3) (t := keyT d 2) g3 (may_key.2 ⟨hd1, by omega⟩) (by omega)
  have f4 : Ext L L4 := ((e1.trans e2).trans e3).trans e4
  have b1 : At L4 a (keyT c 1) := a1.ext ((e2.trans e3).trans e4)
  have b2 : At L4 b (keyT d 1) := a2.ext (e3.trans e4)
  have b3 : At L4 u (keyT c 2) := a3.ext e4
  have lc := h.lc.ext f4
  have ld := h.ld.ext f4
  have hk : ∀ y ∈ keys, ∃ j k, j < i ∧ Lv L4 j k ∧ At L4 y (keyT k 1) := fun y hy => by
    obtain ⟨j, k, h1, h2, h3⟩ := h.keys y hy
    exact ⟨j, k, h1, h2.ext f4, h3.ext f4⟩
  have hs : ∀ y ∈ chains, ∃ j, j ≤ i ∧ Lv L4 j y := fun y hy => by
    obtain ⟨j, h1, h2⟩ := h.chains y hy
    exact ⟨j, h1, h2.ext f4⟩
  have lu : Lv L4 (i + 1) u := ⟨c, lc, b3⟩
  have lv : Lv L4 (i + 1) v := ⟨d, ld, a4⟩
  have nk : ∀ {x q : Int}, Lv L4 i q → At L4 x (keyT q 1) → x ∉ keys := fun {x q} hq hx hm => by
    obtain ⟨j, k, h1, h2, h3⟩ := hk x hm
    have := keyT_inj.1 (hx.same h3)
    subst this
    have := hq.uniq h2
    omega
  have nc : ∀ {x q : Int}, At L4 x (keyT q 1) → x ∉ chains := fun {x q} hx hm => by
    obtain ⟨j, _, h2⟩ := hs x hm
    exact h2.notKey hx
  have uk : ∀ {x : Int}, Lv L4 (i + 1) x → x ∉ keys := fun {x} hx hm => by
    obtain ⟨j, k, _, _, h3⟩ := hk x hm
    exact hx.notKey h3
  refine ⟨a, b, u, v, L1, L2, L3, L4, p1, p2, p3, p4, ?_, ?_, ⟨nk lc b1, nk ld b2, nc b1, nc b2⟩, ⟨?_, uk lu, uk lv⟩, ⟨?_, ?_, ?_, ?_⟩, ⟨g4, lu, lv, ?_, ?_, ?_⟩, by omega⟩
  · rw [at_iff g4 b1 b2, keyT_inj, h.eq]
  · rw [at_iff g4 b3 a4, keyT_inj, h.eq]
  · intro hm
    obtain ⟨j, h1, h2⟩ := hs u hm
    have := lu.uniq h2
    omega
  · rintro rfl; exact lu.notKey b1
  · rintro rfl; exact lv.notKey b2
  · rintro rfl; exact lv.notKey b1
  · rintro rfl; exact lu.notKey b2
  · rw [at_iff g4 b3 a4, keyT_inj, h.eq]
  · intro y hy
    rcases List.mem_append.1 hy with hy | hy
    · obtain ⟨j, k, h1, h2, h3⟩ := hk y hy
      exact ⟨j, k, by omega, h2, h3⟩
    · simp only [List.mem_cons, List.not_mem_nil, or_false] at hy
      rcases hy with rfl | rfl
      · exact ⟨i, c, by omega, lc, b1⟩
      · exact ⟨i, d, by omega, ld, b2⟩
  · intro y hy
    rcases List.mem_append.1 hy with hy | hy
    · obtain ⟨j, h1, h2⟩ := hs y hy
      exact ⟨j, by omega, h2⟩
    · simp only [List.mem_cons, List.not_mem_nil, or_false] at hy
      rcases hy with rfl | rfl
      · exact ⟨i + 1, Nat.le_refl _, lu⟩
      · exact ⟨i + 1, Nat.le_refl _, lv⟩

set_option maxRecDepth 100000 in
set_option maxHeartbeats 2000000 in
theorem has15_calls {l : List Int} {ad : Option Addr} {len cap : Nat} {w : World} (x : Int) (h : IntsAt w ad l) (hl : len = l.length) (hm : len ≤ 9223372036854775807) :
    Calls Try.prog 25 #[.slice ad len cap, .int .i64 x] w fun e w' => e = .returned (.bool (decide (x ∈ l))) ∧ w = w' := by
  have HL := hid hl
  have HI := hid h
  clear hl h
  go_enter Try.func25, Try.ntmps25
  go_wp2_with fail
  go_loopw [5] (fun i wr => ∃ j : Nat, j ≤ len ∧ i = .int .i64 j ∧ w = wr ∧ Hid (∀ r, r < j → l.getD r 0 ≠ x)) (fun i _ => len - (intOf i).toNat)
  case atStart => exact ⟨0, Nat.zero_le _, rfl, rfl, hid fun r hr => by omega⟩
  case round =>
    obtain ⟨j, hj, rfl, rfl, HN⟩ := hrel
    by_cases hlt : j < len
    · have hd1 : decide ((j : Int) < (len : Int)) = true := by simpa using hlt
      have hjl : j < l.length := by rw [← HL.out]; exact hlt
      obtain ⟨g, o, rfl, hc⟩ := HI.out.resolve_left fun e => by rw [e] at hjl; simp at hjl
      have d1 := hc j hjl
      have zj0 : (0 : Int) ≤ (j : Int) := by omega
      have zj1 : (j : Int) < (len : Int) := by omega
      have hmem : l.getD j 0 ∈ l := by
        rw [List.getD_eq_getElem?_getD, List.getElem?_eq_getElem hjl]; exact List.getElem_mem _
      obtain ⟨y, hy⟩ : ∃ y, l.getD j 0 = y := ⟨_, rfl⟩
      rw [hy] at d1 hmem
      have HY := hid hy
      have HM := hid hmem
      clear hc hlt hjl hy hmem
      by_cases he : y = x
      · have e1 : (y == x) = true := by simpa using he
        have HM2 : Hid (x ∈ l) := hid (he ▸ HM.out)
        clear he
        go_wp2_with fail
        go_ret
        exact ⟨by rw [decide_eq_true HM2.out]; rfl, rfl⟩
      · have e1 : (y == x) = false := by simpa using he
        have HN2 : Hid (∀ r, r < j + 1 → l.getD r 0 ≠ x) := hid fun r hr => by
          by_cases e : r = j
          · subst e; rw [HY.out]; exact he
          · exact HN.out r (by omega)
        clear he
        go_wp2_with fail
        go_roundw
        case rel => exact ⟨j + 1, by omega, by go_num, by first | rfl | trivial, HN2⟩
        case measure => simp [intOf]; omega
    · have hd1 : decide ((j : Int) < (len : Int)) = false := by simp; omega
      have hd2 : decide (j < len) = false := by simp; omega
      have hno : ¬ x ∈ l := fun hx => by
        obtain ⟨i, hi, e⟩ := List.getElem_of_mem hx
        refine HN.out i (by rw [← HL.out] at hi; omega) ?_
        rw [List.getD_eq_getElem?_getD, List.getElem?_eq_getElem hi]; exact e
      have HX := hid hno
      clear hlt hno
      go_wp2_with fail
      go_ret
      exact ⟨by rw [decide_eq_false HX.out]; rfl, rfl⟩
theorem has15_no {l : List Int} {ad : Option Addr} {len cap : Nat} {w : World} {x : Int} (hx : x ∉ l) (h : IntsAt w ad l) (hl : len = l.length) (hm : len ≤ 9223372036854775807) :
    Calls Try.prog 25 #[.slice ad len cap, .int .i64 x] w fun e w' => e = .returned (.bool false) ∧ w = w' := by
  have := has15_calls (cap := cap) x h hl hm
  rw [decide_eq_false hx] at this
  exact this
section
variable {W w : World} {Rs : List Res} {E : TypeId}
theorem Hd.row_newk (k : Nat) (hk : w.heap.size = k) (h : Hd W w Rs) : Hd W (w.alloc (.cells #[] E (0, 0))) (RowR E 1 (.slice (some ⟨k, 0, none⟩) 0 0) 0 (nums .i64 []) :: Rs) := by
  subst hk
  exact h.row_new
/-- A row that is written out. -/
theorem Hd.row_lit (k : Nat) (hk : w.heap.size = k) (zs : List Int) {cs : Array Value} {n : Nat} (hcs : cs = (nums .i64 zs).toArray) (hn : n = zs.length) (hm : n ≤ maxLen) (h : Hd W w Rs) : Hd W (w.alloc (.cells cs E (0, 0))) (RowR E 1 (.slice (some ⟨k, 0, none⟩) n n) n (nums .i64 zs) :: Rs) := by
  subst hk hcs hn
  refine h.add ((Below.refl _ _).alloc (Nat.le_refl _) _) (fun j => if j = w.heap.size then some (.cells (nums .i64 zs).toArray E (0, 0)) else none) ⟨by simp [nums], .inr ⟨w.heap.size, zs.length, (nums .i64 zs).toArray, rfl, Nat.le_refl _, hm, by simp [nums], by rw [List.take_of_length_le (by simp [nums])], rfl⟩⟩ (fun k o hk => ?_) (fun k hk => ?_)
  · dsimp only at hk
    split at hk
    · rename_i e1; subst e1; rw [heap_at rfl]; exact hk
    · cases hk
  · split at hk
    · omega
    · exact absurd rfl hk
theorem Hd.row_is {v : Value} {n : Nat} {ks : List Int} (h : Hd W w (RowR 3 1 v n (nums .i64 ks) :: Rs)) : ∃ ad cap, v = .slice ad n cap ∧ n = ks.length ∧ n ≤ maxLen ∧ IntsAt w ad ks := by
  have hl : n = ks.length := by
    obtain ⟨f, hR, _⟩ := h.open
    have := hR.1
    simpa [nums] using this.symm
  have hm : n ≤ maxLen := by
    obtain ⟨f, hR, _⟩ := h.open
    obtain ⟨_, ⟨_, rfl, _⟩ | ⟨_, cap, _, _, h1, h2, _⟩⟩ := hR
    · exact Nat.zero_le _
    · omega
  subst hl
  obtain ⟨ad, cap, e, hi⟩ := row_ints h
  exact ⟨ad, cap, e, rfl, hm, hi⟩
end
end Go.Proofs.Ytpcfmafokkffgaa
