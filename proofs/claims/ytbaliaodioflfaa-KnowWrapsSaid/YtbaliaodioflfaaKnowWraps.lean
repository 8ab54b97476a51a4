/-
  KnowWraps returns true, and writes nothing that was there. For every input.
-/
import Derived.Test.YtbaliaodioflfaaFixK
import Derived.Test.YtbaliaodioflfaaStores
import Derived.Test.YtbaliaodioflfaaKnowT
import Derived.Test.YtbaliaodioflfaaKnowY
import Derived.Test.YtbaliaodioflfaaKnowV
namespace Go.Proofs.Ytbaliaodioflfaa
open Go.RowKit

set_option maxRecDepth 100000 in
set_option maxHeartbeats 32000000 in
theorem knowWraps_walk (ad : Option Addr) (len cap : Nat) (ts : List T) (ad2 : Option Addr) (len2 cap2 : Nat) (zs : List Int) (nm : Int) (nm0 : 0 ≤ nm) (nm1 : nm ≤ 255) (W : World) (hlen : len = ts.length) (hmax : len ≤ maxLen) (hts : TermsIn W ad ts) (hlen2 : len2 = zs.length) (hmax2 : len2 ≤ maxLen) (hzs : NumsIn .u8 W ad2 zs) :
    Calls Try.prog 21 #[.slice ad len cap, .slice ad2 len2 cap2, .int .u8 nm] W fun e w' => e = .returned (.bool true) ∧ Below W.heap.size W w' := by
  have Hlen := hid hlen
  have Hts := hid hts
  have Hmax := hid hmax
  have Hlen2 := hid hlen2
  have Hzs := hid hzs
  have hm2 : len2 ≤ 9223372036854775807 := by unfold maxLen at hmax2; exact hmax2
  clear hts hlen hmax hlen2 hzs hmax2
  go_enter Try.func21, Try.ntmps21
  go_wp2_with fail
  refine (stores_calls (Hd.refl W) ad len cap ts Hlen.out Hmax.out Hts.out 20 (by decide)).mono ?_
  rintro e w1 ⟨b, b', L, rfl, hg, hl, hd⟩
  have H := hid (hd.un2)
  have hgd := hid hg
  have hl40 : L.length ≤ 20 := by omega
  clear hd hg hl
  go_wp2_with fail
  refine (len_at H.out).mono ?_
  rintro e w' ⟨rfl, rfl⟩
  by_cases hL : L.length = 0
  · have e0 : ((L.length : Int) == 0) = true := by simp [hL]
    have e1 : (L.length == 0) = true := by simp [hL]
    clear hL
    go_wp2_with fail
    refine (fixed8_calls H.out).mono ?_
    rintro e w' ⟨rfl, h5⟩
    have H5 := hid h5
    clear h5
    go_wp2_with fail
    go_ret
    exact ⟨rfl, H5.out.below⟩
  have e0 : ((L.length : Int) == 0) = false := by simpa using hL
  have e1 : (L.length == 0) = false := by simpa using hL
  have hL1 : 1 ≤ L.length := by omega
  clear hL
  go_wp2_with fail
  refine (len_at H.out).mono ?_
  rintro e w' ⟨rfl, rfl⟩
  clear e0 e1
  go_wp2_with fail
  refine (put1 2 ⟨#[]⟩ 8796093022208 0 0 0 hgd.out (may_non _) (by omega) H.out).mono ?_
  rintro e w2 ⟨k, L1, rfl, q, g, h⟩
  clear H
  have Q1 : Hid (PutAns L (nonT 8796093022208) k L1) := hid q
  have G1 := hid g
  have H := hid h
  have l1 := q.len
  have bbk := And.intro q.at.lo q.at.hi
  have Atk := hid q.at
  clear q g h
  go_wp2_with fail
  refine (put1 2 ⟨#[]⟩ 17592186044416 0 0 0 G1.out (may_non _) (by omega) H.out).mono ?_
  rintro e w3 ⟨x, L2, rfl, q, g, h⟩
  clear H
  have Q2 : Hid (PutAns L1 (nonT 17592186044416) x L2) := hid q
  have G2 := hid g
  have H := hid h
  have l2 := q.len
  have bbx := And.intro q.at.lo q.at.hi
  have Atx := hid q.at
  clear q g h
  go_wp2_with fail
  refine (kpub1 G2.out ⟨by omega, by omega⟩ (by omega) H.out).mono ?_
  rintro e w4 ⟨p1, L3, rfl, q, g, h⟩
  clear H
  have Q3 : Hid (PutAns L2 (kpuT k) p1 L3) := hid q
  have G3 := hid g
  have H := hid h
  have l3 := q.len
  have bbp1 := And.intro q.at.lo q.at.hi
  have Atp1 := hid q.at
  clear q g h
  go_wp2_with fail
  refine (wrap1 G3.out Atp1.out ⟨by omega, by omega⟩ (by omega) H.out).mono ?_
  rintro e w5 ⟨a, b1, L4, L5, rfl, q, q2, g, h⟩
  clear H
  have Q4 : Hid (PutAns L3 (boxT k x) a L4) := hid q
  have Q5 : Hid (PutAns L4 (kemT k x) b1 L5) := hid q2
  have G5 := hid g
  have H := hid h
  have l4 := q.len
  have l5 := q2.len
  have bba := And.intro q.at.lo q.at.hi
  have bbb1 := And.intro q2.at.lo q2.at.hi
  clear q q2 g h
  go_wp2_with fail
  refine (len_at H.out).mono ?_
  rintro e w' ⟨rfl, rfl⟩
  by_cases hn : L5.length = L.length + 5
  case neg =>
    have f1 : ((L5.length : Int) == (L.length : Int) + 5) = false := by simp; omega
    have f2 : ((L5.length : Int) != (L.length : Int) + 5) = true := by simp; omega
    go_wp2_with fail
    refine (fixed8_calls H.out).mono ?_
    rintro e w' ⟨rfl, h5⟩
    have H5 := hid h5
    clear h5
    go_wp2_with fail
    go_ret
    exact ⟨rfl, H5.out.below⟩
  have f1 : ((L5.length : Int) == (L.length : Int) + 5) = true := by simp; omega
  have f2 : ((L5.length : Int) != (L.length : Int) + 5) = false := by simp; omega
  have n1 := Q1.out.new (by omega)
  have n2 := Q2.out.new (by omega)
  have n3 := Q3.out.new (by omega)
  have n4 := Q4.out.new (by omega)
  have n5 := Q5.out.new (by omega)
  obtain ⟨e1, v1⟩ := n1
  obtain ⟨e2, v2⟩ := n2
  obtain ⟨e3, v3⟩ := n3
  obtain ⟨e4, v4⟩ := n4
  obtain ⟨e5, v5⟩ := n5
  skip
  rw [e1] at v2
  rw [e2, e1] at v3
  rw [e3, e2, e1] at v4
  rw [e4, e3, e2, e1] at v5
  simp only [List.length_append, List.length_cons, List.length_nil] at v2
  simp only [List.length_append, List.length_cons, List.length_nil] at v3
  simp only [List.length_append, List.length_cons, List.length_nil] at v4
  simp only [List.length_append, List.length_cons, List.length_nil] at v5
  have Vk : Hid (k = (L.length : Int) + 1) := hid (by omega)
  have Vx : Hid (x = (L.length : Int) + 2) := hid (by omega)
  have Vp1 : Hid (p1 = (L.length : Int) + 3) := hid (by omega)
  have Va : Hid (a = (L.length : Int) + 4) := hid (by omega)
  have Vb1 : Hid (b1 = (L.length : Int) + 5) := hid (by omega)
  have EX : Hid (L5 = L ++ [nonT 8796093022208, nonT 17592186044416, kpuT ((L.length : Int) + 1), boxT ((L.length : Int) + 1) ((L.length : Int) + 2), kemT ((L.length : Int) + 1) ((L.length : Int) + 2)]) := hid (by rw [e5, e4, e3, e2, e1]; simp only [List.append_assoc, List.cons_append, List.nil_append]; rw [Vk.out, Vx.out])
  clear e1 v1 e2 v2 e3 v3 e4 v4 e5 v5
  clear Q1 Q2 Q3 Q4 Q5
  go_wp2_with fail
  have H2 : Hid (Hd W _ (Sto b L5 1000 :: RowR 3 1 (.slice (some ⟨_, 0, none⟩) 1 1) 1 (nums .i64 [p1]) :: [])) := hid (H.out.row_one (E := 3) (v := .int .i64 p1)).swap
  clear H f1 f2 hn
  go_loopw [19, 20] (fun v i wr => ∃ j : Nat, j ≤ len2 ∧ j ≤ 5 ∧ i = .int .i64 j ∧ ∃ (kad : Option Addr) (kcap : Nat) (ks : List Int), v = .slice kad (j + 1) kcap ∧ Hid ((∀ x ∈ ks, (1 ≤ x ∧ x ≤ (L.length : Int)) ∨ x = p1) ∧ p1 ∈ ks) ∧ Hid (Hd W wr (Sto b L5 1000 :: RowR 3 1 (.slice kad (j + 1) kcap) (j + 1) (nums .i64 ks) :: []))) (fun _ i _ => len2 - (intOf i).toNat)
  case atStart => exact ⟨0, Nat.zero_le _, Nat.zero_le _, rfl, _, _, [p1], rfl, hid ⟨by simp, by simp⟩, H2⟩
  case round =>
    clear H2
    obtain ⟨j, hj, hj5, rfl, kad, kcap, ks, rfl, KI, H⟩ := hrel
    obtain ⟨wo, hwo⟩ : ∃ wo : World, wo = wr := ⟨_, rfl⟩
    rw [← hwo] at H ⊢
    clear hwo wr
    by_cases hlt : j < len2 ∧ j < 5
    · have hd1 : decide ((j : Int) < (len2 : Int)) = true := by simp; omega
      have hd1' : decide (j < len2) = true := by simp; omega
      have hd2 : decide ((j : Int) < 5) = true := by simp; omega
      obtain ⟨z, hz⟩ : ∃ z, zs[j]? = some z := ⟨zs[j]'(by rw [← Hlen2.out]; exact hlt.1), List.getElem?_eq_getElem _⟩
      obtain ⟨z0, z1, gg, oo, rfl, hc0⟩ := (Hzs.out.later H.out.below) j z hz
      have z0' : 0 ≤ z := by simpa [IntKind.min, IntKind.signed] using z0
      have z1' : z ≤ 255 := by simpa [IntKind.max, IntKind.signed, IntKind.bits] using z1
      have zj0 : (0 : Int) ≤ (j : Int) := by omega
      have zj1 : (j : Int) < (len2 : Int) := by omega
      have hmod := mod_range z (show (1 : Int) ≤ (L.length : Int) by omega)
      have Hmod := hid hmod
      clear hz z0 z1
      obtain ⟨i0, hi0, hz0, hs0, hy0⟩ := info_i64
      have Hi0 := hid hi0
      have Hz0 := hid hz0
      have Hs0 := hid hs0
      have Hy0 := hid hy0
      have HA := hid H.out.swap
      clear hi0 hz0 hs0 hy0 H
      go_wp2_with (at_builtin; refine append_num (k := .i64) Try.underlying60 Hi0.out Hz0.out Hs0.out Hy0.out (by decide) rfl (.tmp 107) (.tmp 116) rfl HA.out (by rfl) (1 + z % (L.length : Int)) (by rfl) (by omega) ?_; intro g3 c3 w9 hq; have H := hid hq.swap; clear hq HA)
      have KI3 : Hid ((∀ x ∈ ks ++ [1 + z % (L.length : Int)], (1 ≤ x ∧ x ≤ (L.length : Int)) ∨ x = p1) ∧ p1 ∈ ks ++ [1 + z % (L.length : Int)]) := hid ⟨fun x hx => by
        rcases List.mem_append.1 hx with hx | hx
        · exact KI.out.1 x hx
        · have := Hmod.out
          simp only [List.mem_singleton] at hx
          omega, List.mem_append_left _ KI.out.2⟩
      clear KI Hmod hmod
      go_wp2_with fail
      go_roundw
      case rel => exact ⟨j + 1, by omega, by omega, by go_num, _, _, _, rfl, KI3, H⟩
      case measure => simp [intOf]; omega
    · have hex : (decide ((j : Int) < (len2 : Int)) = false ∧ decide (j < len2) = false) ∨ (decide ((j : Int) < (len2 : Int)) = true ∧ decide (j < len2) = true ∧ decide ((j : Int) < 5) = false) := by
        by_cases h : j < len2
        · right; refine ⟨by simp; omega, by simp; omega, by simp; omega⟩
        · left; refine ⟨by simp; omega, by simp; omega⟩
      clear hlt
      rcases hex with ⟨hd1, hd1'⟩ | ⟨hd1, hd1', hd2⟩
      · have KR : Hid (∀ x ∈ ks, 1 ≤ x ∧ x ≤ L5.length) := hid fun y hy => by
          rcases KI.out.1 y hy with h | h
          · omega
          · omega
        have KR2 : Hid (∀ zz ∈ ks ++ [x], 1 ≤ zz ∧ zz ≤ L5.length) := hid fun y hy => by
          rcases List.mem_append.1 hy with h | h
          · exact KR.out y h
          · simp only [List.mem_singleton] at h; omega
        have KR3 : Hid (∀ x ∈ ks ++ [a], 1 ≤ x ∧ x ≤ L5.length) := hid fun y hy => by
          rcases List.mem_append.1 hy with h | h
          · exact KR.out y h
          · simp only [List.mem_singleton] at h; omega
        have KR4 : Hid (∀ x ∈ ks ++ [a] ++ [k], 1 ≤ x ∧ x ≤ L5.length) := hid fun y hy => by
          rcases List.mem_append.1 hy with h | h
          · exact KR3.out y h
          · simp only [List.mem_singleton] at h; omega
        have GE : Hid (Good (L ++ [nonT 8796093022208, nonT 17592186044416, kpuT ((L.length : Int) + 1), boxT ((L.length : Int) + 1) ((L.length : Int) + 2), kemT ((L.length : Int) + 1) ((L.length : Int) + 2)])) := hid (by have := G5.out; rw [EX.out] at this; exact this)
        have NO : Hid (∀ d1 d2, ¬ Der L5 d1 d2 (fun y => y ∈ ks) b1) := hid (fun d1 d2 => by
          rw [EX.out, Vb1.out]
          exact wraps_no GE.out fun y hy => by have := KI.out.1 y hy; rw [Vp1.out] at this; exact this)
        have h3 : (L.length : Int) + 3 ∈ ks := by have := KI.out.2; rw [Vp1.out] at this; exact this
        have DRAWN : Hid (Der L5 false false (fun y => y ∈ ks ++ [x]) b1) := hid (by
          rw [EX.out, Vb1.out]
          exact wraps_drawn GE.out (by rw [Vx.out]; simp) (List.mem_append_left _ h3))
        have CAN : Hid (∀ d1 d2, Der L5 d1 d2 (fun y => y ∈ ks ++ [a]) b1 ↔ d2 = true) := hid (fun d1 d2 => by
          rw [EX.out, Vb1.out]
          constructor
          · intro h
            cases d2 with
            | true => rfl
            | false =>
              refine absurd h (wraps_cant GE.out fun y hy => ?_)
              rcases List.mem_append.1 hy with hy | hy
              · have := KI.out.1 y hy
                rw [Vp1.out] at this
                rcases this with h | h
                · exact .inl h
                · exact .inr (.inl h)
              · simp only [List.mem_singleton] at hy
                rw [Va.out] at hy
                exact .inr (.inr hy)
          · rintro rfl
            exact wraps_can GE.out (by rw [Va.out]; simp))
        have YES : Hid (Der L5 false false (fun y => y ∈ ks ++ [a] ++ [k]) b1) := hid (by
          rw [EX.out, Vb1.out]
          exact wraps_yes GE.out (by rw [Vk.out]; simp) (by rw [Va.out]; simp))
        clear h3
        have hdx : ∀ d : Bool, (d == d) = true := fun d => by simp
        have HDX := hid hdx
        clear hdx
        go_wp2_with fail
        refine (can_c _ _ b1 kad kcap KR.out (by omega) (Hd.perm (List.Perm.cons _ (List.perm_middle (l₁ := [_]))) H.out.bx)).mono ?_
        generalize (bits .and .u8 nm 1 == 1) = d1
        generalize (bits .and .u8 nm 2 == 2) = d2
        generalize wo.heap.size = fb
        rintro e w10 ⟨p, rfl, hp, h4⟩
        have HP := hid hp
        clear H hp 
        have H := hid h4
        clear h4
        have p0 : p = false := by
          cases p with
          | false => rfl
          | true => exact absurd (HP.out.1 rfl) (NO.out d1 d2)
        subst p0
        clear HP
        obtain ⟨i0, hi0, hz0, hs0, hy0⟩ := info_i64
        have Hi0 := hid hi0
        have Hz0 := hid hz0
        have Hs0 := hid hs0
        have Hy0 := hid hy0
        have HA := hid H.out.swap
        clear hi0 hz0 hs0 hy0 H
        go_wp2_with (at_builtin; refine append_num (k := .i64) Try.underlying60 Hi0.out Hz0.out Hs0.out Hy0.out (by decide) rfl (.tmp 133) (.tmp 135) rfl HA.out (by rfl) (x) (by rfl) (by omega) ?_; intro g4 c4 w11 hq; have H := hid hq.swap; clear hq HA)
        go_wp2_with fail
        refine (can_c false false b1 (some ⟨g4, 0, none⟩) c4 KR2.out (by omega) H.out).mono ?_
        rintro e w12 ⟨p, rfl, hp, h4⟩
        have HP := hid hp
        clear H hp 
        have H := hid h4
        clear h4
        obtain rfl := HP.out.2 DRAWN.out
        clear HP
        obtain ⟨cur, hk, c1, c2, _⟩ := H.out.drop.row_heap
        obtain ⟨_, _, _, hkn, _, _⟩ := Hd.row_at H.out.drop
        have jc : j + 1 < cur.size := by omega
        have G0 := (cell_of_heap hk (j + 1)).trans (Array.getElem?_eq_getElem jc)
        have Gf := frozen_of_heap hk
        have Gl := (Array.getElem?_eq_some_iff.1 hk).1
        have hkf := H.out.drop.drop.blk
        have hne : fb ≠ g4 := fun e => by subst e; rw [hk] at hkf; simp at hkf
        have hne2 : g4 ≠ fb := fun e => hne e.symm
        clear hk hkf
        have hk := H.out.drop.drop.blk
        have F0 := (cell_of_heap hk 0).trans (show _ = some (.bool d1) from rfl)
        have F1 := (cell_of_heap hk 1).trans (show _ = some (.bool d2) from rfl)
        have Ff := frozen_of_heap hk
        have Fl := (Array.getElem?_eq_some_iff.1 hk).1
        clear hk
        have Hs : Hid (Hd W (w12.setCell ⟨g4, j + 1, none⟩ (.int .i64 a)) (Sto b L5 1000 :: RowR 3 1 (.slice (some ⟨g4, 0, none⟩) (j + 1 + 1) c4) (j + 1 + 1) (nums .i64 (ks ++ [a])) :: Blk fb (.cells #[.bool d1, .bool d2] 62 (0, 0)) :: [])) := hid (by
          have := (H.out.swap.row_set (j + 1) (.int .i64 a)).swap
          rw [nums_end ks x a hkn] at this
          exact this)
        clear H hkn
        have H := Hs
        clear Hs
        go_wp2_with fail
        refine (can_c d1 d2 b1 (some ⟨g4, 0, none⟩) c4 KR3.out (by omega) H.out).mono ?_
        rintro e w13 ⟨p, rfl, hp, h4⟩
        have HP := hid hp
        clear H hp F0 F1 Ff Fl G0 Gf Gl hne hne2 jc c1 c2
        have H := hid h4
        clear h4

        obtain rfl : p = d2 := by rw [Bool.eq_iff_iff, HP.out, CAN.out]
        clear HP
        have hdd := HDX.out p
        obtain ⟨i0, hi0, hz0, hs0, hy0⟩ := info_i64
        have Hi0 := hid hi0
        have Hz0 := hid hz0
        have Hs0 := hid hs0
        have Hy0 := hid hy0
        have HA := hid H.out.swap
        clear hi0 hz0 hs0 hy0 H
        go_wp2_with (at_builtin; refine append_num (k := .i64) Try.underlying60 Hi0.out Hz0.out Hs0.out Hy0.out (by decide) rfl (.tmp 159) (.tmp 161) rfl HA.out (by rfl) (k) (by rfl) (by omega) ?_; intro g5 c5 w14 hq; have H := hid hq.swap; clear hq HA)
        go_wp2_with fail
        refine (can_c false false b1 (some ⟨g5, 0, none⟩) c5 KR4.out (by omega) H.out).mono ?_
        rintro e w15 ⟨pp, rfl, hp, h4⟩
        obtain rfl := hp.2 YES.out
        clear H hp
        have H := hid h4
        clear h4
        have hk := H.out.drop.drop.blk
        have F0 := (cell_of_heap hk 0).trans (show _ = some (.bool d1) from rfl)
        have F1 := (cell_of_heap hk 1).trans (show _ = some (.bool p) from rfl)
        have Ff := frozen_of_heap hk
        have Fl := (Array.getElem?_eq_some_iff.1 hk).1
        clear hk
        go_wp2_with fail
        refine (fixed8_calls H.out).mono ?_
        rintro e w' ⟨rfl, h5⟩
        have H5 := hid h5
        clear h5
        go_wp2_with fail
        go_ret
        exact ⟨rfl, H5.out.below⟩
      · have KR : Hid (∀ x ∈ ks, 1 ≤ x ∧ x ≤ L5.length) := hid fun y hy => by
          rcases KI.out.1 y hy with h | h
          · omega
          · omega
        have KR2 : Hid (∀ zz ∈ ks ++ [x], 1 ≤ zz ∧ zz ≤ L5.length) := hid fun y hy => by
          rcases List.mem_append.1 hy with h | h
          · exact KR.out y h
          · simp only [List.mem_singleton] at h; omega
        have KR3 : Hid (∀ x ∈ ks ++ [a], 1 ≤ x ∧ x ≤ L5.length) := hid fun y hy => by
          rcases List.mem_append.1 hy with h | h
          · exact KR.out y h
          · simp only [List.mem_singleton] at h; omega
        have KR4 : Hid (∀ x ∈ ks ++ [a] ++ [k], 1 ≤ x ∧ x ≤ L5.length) := hid fun y hy => by
          rcases List.mem_append.1 hy with h | h
          · exact KR3.out y h
          · simp only [List.mem_singleton] at h; omega
        have GE : Hid (Good (L ++ [nonT 8796093022208, nonT 17592186044416, kpuT ((L.length : Int) + 1), boxT ((L.length : Int) + 1) ((L.length : Int) + 2), kemT ((L.length : Int) + 1) ((L.length : Int) + 2)])) := hid (by have := G5.out; rw [EX.out] at this; exact this)
        have NO : Hid (∀ d1 d2, ¬ Der L5 d1 d2 (fun y => y ∈ ks) b1) := hid (fun d1 d2 => by
          rw [EX.out, Vb1.out]
          exact wraps_no GE.out fun y hy => by have := KI.out.1 y hy; rw [Vp1.out] at this; exact this)
        have h3 : (L.length : Int) + 3 ∈ ks := by have := KI.out.2; rw [Vp1.out] at this; exact this
        have DRAWN : Hid (Der L5 false false (fun y => y ∈ ks ++ [x]) b1) := hid (by
          rw [EX.out, Vb1.out]
          exact wraps_drawn GE.out (by rw [Vx.out]; simp) (List.mem_append_left _ h3))
        have CAN : Hid (∀ d1 d2, Der L5 d1 d2 (fun y => y ∈ ks ++ [a]) b1 ↔ d2 = true) := hid (fun d1 d2 => by
          rw [EX.out, Vb1.out]
          constructor
          · intro h
            cases d2 with
            | true => rfl
            | false =>
              refine absurd h (wraps_cant GE.out fun y hy => ?_)
              rcases List.mem_append.1 hy with hy | hy
              · have := KI.out.1 y hy
                rw [Vp1.out] at this
                rcases this with h | h
                · exact .inl h
                · exact .inr (.inl h)
              · simp only [List.mem_singleton] at hy
                rw [Va.out] at hy
                exact .inr (.inr hy)
          · rintro rfl
            exact wraps_can GE.out (by rw [Va.out]; simp))
        have YES : Hid (Der L5 false false (fun y => y ∈ ks ++ [a] ++ [k]) b1) := hid (by
          rw [EX.out, Vb1.out]
          exact wraps_yes GE.out (by rw [Vk.out]; simp) (by rw [Va.out]; simp))
        clear h3
        have hdx : ∀ d : Bool, (d == d) = true := fun d => by simp
        have HDX := hid hdx
        clear hdx
        go_wp2_with fail
        refine (can_c _ _ b1 kad kcap KR.out (by omega) (Hd.perm (List.Perm.cons _ (List.perm_middle (l₁ := [_]))) H.out.bx)).mono ?_
        generalize (bits .and .u8 nm 1 == 1) = d1
        generalize (bits .and .u8 nm 2 == 2) = d2
        generalize wo.heap.size = fb
        rintro e w10 ⟨p, rfl, hp, h4⟩
        have HP := hid hp
        clear H hp 
        have H := hid h4
        clear h4
        have p0 : p = false := by
          cases p with
          | false => rfl
          | true => exact absurd (HP.out.1 rfl) (NO.out d1 d2)
        subst p0
        clear HP
        obtain ⟨i0, hi0, hz0, hs0, hy0⟩ := info_i64
        have Hi0 := hid hi0
        have Hz0 := hid hz0
        have Hs0 := hid hs0
        have Hy0 := hid hy0
        have HA := hid H.out.swap
        clear hi0 hz0 hs0 hy0 H
        go_wp2_with (at_builtin; refine append_num (k := .i64) Try.underlying60 Hi0.out Hz0.out Hs0.out Hy0.out (by decide) rfl (.tmp 133) (.tmp 135) rfl HA.out (by rfl) (x) (by rfl) (by omega) ?_; intro g4 c4 w11 hq; have H := hid hq.swap; clear hq HA)
        go_wp2_with fail
        refine (can_c false false b1 (some ⟨g4, 0, none⟩) c4 KR2.out (by omega) H.out).mono ?_
        rintro e w12 ⟨p, rfl, hp, h4⟩
        have HP := hid hp
        clear H hp 
        have H := hid h4
        clear h4
        obtain rfl := HP.out.2 DRAWN.out
        clear HP
        obtain ⟨cur, hk, c1, c2, _⟩ := H.out.drop.row_heap
        obtain ⟨_, _, _, hkn, _, _⟩ := Hd.row_at H.out.drop
        have jc : j + 1 < cur.size := by omega
        have G0 := (cell_of_heap hk (j + 1)).trans (Array.getElem?_eq_getElem jc)
        have Gf := frozen_of_heap hk
        have Gl := (Array.getElem?_eq_some_iff.1 hk).1
        have hkf := H.out.drop.drop.blk
        have hne : fb ≠ g4 := fun e => by subst e; rw [hk] at hkf; simp at hkf
        have hne2 : g4 ≠ fb := fun e => hne e.symm
        clear hk hkf
        have hk := H.out.drop.drop.blk
        have F0 := (cell_of_heap hk 0).trans (show _ = some (.bool d1) from rfl)
        have F1 := (cell_of_heap hk 1).trans (show _ = some (.bool d2) from rfl)
        have Ff := frozen_of_heap hk
        have Fl := (Array.getElem?_eq_some_iff.1 hk).1
        clear hk
        have Hs : Hid (Hd W (w12.setCell ⟨g4, j + 1, none⟩ (.int .i64 a)) (Sto b L5 1000 :: RowR 3 1 (.slice (some ⟨g4, 0, none⟩) (j + 1 + 1) c4) (j + 1 + 1) (nums .i64 (ks ++ [a])) :: Blk fb (.cells #[.bool d1, .bool d2] 62 (0, 0)) :: [])) := hid (by
          have := (H.out.swap.row_set (j + 1) (.int .i64 a)).swap
          rw [nums_end ks x a hkn] at this
          exact this)
        clear H hkn
        have H := Hs
        clear Hs
        go_wp2_with fail
        refine (can_c d1 d2 b1 (some ⟨g4, 0, none⟩) c4 KR3.out (by omega) H.out).mono ?_
        rintro e w13 ⟨p, rfl, hp, h4⟩
        have HP := hid hp
        clear H hp F0 F1 Ff Fl G0 Gf Gl hne hne2 jc c1 c2
        have H := hid h4
        clear h4

        obtain rfl : p = d2 := by rw [Bool.eq_iff_iff, HP.out, CAN.out]
        clear HP
        have hdd := HDX.out p
        obtain ⟨i0, hi0, hz0, hs0, hy0⟩ := info_i64
        have Hi0 := hid hi0
        have Hz0 := hid hz0
        have Hs0 := hid hs0
        have Hy0 := hid hy0
        have HA := hid H.out.swap
        clear hi0 hz0 hs0 hy0 H
        go_wp2_with (at_builtin; refine append_num (k := .i64) Try.underlying60 Hi0.out Hz0.out Hs0.out Hy0.out (by decide) rfl (.tmp 159) (.tmp 161) rfl HA.out (by rfl) (k) (by rfl) (by omega) ?_; intro g5 c5 w14 hq; have H := hid hq.swap; clear hq HA)
        go_wp2_with fail
        refine (can_c false false b1 (some ⟨g5, 0, none⟩) c5 KR4.out (by omega) H.out).mono ?_
        rintro e w15 ⟨pp, rfl, hp, h4⟩
        obtain rfl := hp.2 YES.out
        clear H hp
        have H := hid h4
        clear h4
        have hk := H.out.drop.drop.blk
        have F0 := (cell_of_heap hk 0).trans (show _ = some (.bool d1) from rfl)
        have F1 := (cell_of_heap hk 1).trans (show _ = some (.bool p) from rfl)
        have Ff := frozen_of_heap hk
        have Fl := (Array.getElem?_eq_some_iff.1 hk).1
        clear hk
        go_wp2_with fail
        refine (fixed8_calls H.out).mono ?_
        rintro e w' ⟨rfl, h5⟩
        have H5 := hid h5
        clear h5
        go_wp2_with fail
        go_ret
        exact ⟨rfl, H5.out.below⟩
end Go.Proofs.Ytbaliaodioflfaa
