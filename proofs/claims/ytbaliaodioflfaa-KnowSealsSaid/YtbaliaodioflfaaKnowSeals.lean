/-
  KnowSeals returns true, and writes nothing that was there. For every input.
-/
import Derived.Test.YtbaliaodioflfaaFixK
import Derived.Test.YtbaliaodioflfaaStores
import Derived.Test.YtbaliaodioflfaaKnowT
import Derived.Test.YtbaliaodioflfaaKnowY
namespace Go.Proofs.Ytbaliaodioflfaa
open Go.RowKit

set_option maxRecDepth 100000 in
set_option maxHeartbeats 32000000 in
theorem knowSeals_walk (ad : Option Addr) (len cap : Nat) (ts : List T) (ad2 : Option Addr) (len2 cap2 : Nat) (zs : List Int) (nm : Int) (nm0 : 0 ≤ nm) (nm1 : nm ≤ 18446744073709551615) (W : World) (hlen : len = ts.length) (hmax : len ≤ maxLen) (hts : TermsIn W ad ts) (hlen2 : len2 = zs.length) (hmax2 : len2 ≤ maxLen) (hzs : NumsIn .u8 W ad2 zs) :
    Calls Try.prog 12 #[.slice ad len cap, .slice ad2 len2 cap2, .int .u64 nm] W fun e w' => e = .returned (.bool true) ∧ Below W.heap.size W w' := by
  have Hlen := hid hlen
  have Hts := hid hts
  have Hmax := hid hmax
  have Hlen2 := hid hlen2
  have Hzs := hid hzs
  have hm2 : len2 ≤ 9223372036854775807 := by unfold maxLen at hmax2; exact hmax2
  clear hts hlen hmax hlen2 hzs hmax2
  go_enter Try.func12, Try.ntmps12
  go_wp2_with fail
  refine (stores_calls (Hd.refl W) ad len cap ts Hlen.out Hmax.out Hts.out 20 (by decide)).mono ?_
  rintro e w1 ⟨b, b', L, rfl, hg, hl, hd⟩
  have H := hid (hd.un2)
  have hgd := hid hg
  have hl40 : L.length ≤ 20 := by omega
  clear hd hg hl
  go_wp2_with fail
  refine (len_at H.out).mono ?_
  rintro e w' ⟨rfl, rfl⟩
  by_cases hL : L.length = 0
  · have e0 : ((L.length : Int) == 0) = true := by simp [hL]
    have e1 : (L.length == 0) = true := by simp [hL]
    clear hL
    go_wp2_with fail
    refine (fixed8_calls H.out).mono ?_
    rintro e w' ⟨rfl, h5⟩
    have H5 := hid h5
    clear h5
    go_wp2_with fail
    go_ret
    exact ⟨rfl, H5.out.below⟩
  have e0 : ((L.length : Int) == 0) = false := by simpa using hL
  have e1 : (L.length == 0) = false := by simpa using hL
  have hL1 : 1 ≤ L.length := by omega
  clear hL
  go_wp2_with fail
  refine (len_at H.out).mono ?_
  rintro e w' ⟨rfl, rfl⟩
  clear e0 e1
  go_wp2_with fail
  refine (put1 2 ⟨#[]⟩ 2199023255552 0 0 0 hgd.out (may_non _) (by omega) H.out).mono ?_
  rintro e w2 ⟨k, L1, rfl, q, g, h⟩
  clear H
  have Q1 : Hid (PutAns L (nonT 2199023255552) k L1) := hid q
  have G1 := hid g
  have H := hid h
  have l1 := q.len
  have bk := And.intro q.at.lo q.at.hi
  have Atk := hid q.at
  clear q g h
  go_wp2_with fail
  refine (put1 2 ⟨#[]⟩ 4398046511104 0 0 0 G1.out (may_non _) (by omega) H.out).mono ?_
  rintro e w3 ⟨x, L2, rfl, q, g, h⟩
  clear H
  have Q2 : Hid (PutAns L1 (nonT 4398046511104) x L2) := hid q
  have G2 := hid g
  have H := hid h
  have l2 := q.len
  have bx := And.intro q.at.lo q.at.hi
  have Atx := hid q.at
  clear q g h
  go_wp2_with fail
  refine (put1 10 ⟨#[]⟩ nm k 1 x G2.out (may_sea.2 (by omega)) (by omega) H.out).mono ?_
  rintro e w4 ⟨c, L3, rfl, q, g, h⟩
  clear H
  have Q3 : Hid (PutAns L2 (seaT k nm 1 x) c L3) := hid q
  have G3 := hid g
  have H := hid h
  have l3 := q.len
  have bc := And.intro q.at.lo q.at.hi
  have Atc := hid q.at
  clear q g h
  go_wp2_with fail
  refine (len_at H.out).mono ?_
  rintro e w' ⟨rfl, rfl⟩
  by_cases hn : L3.length = L.length + 3
  case neg =>
    have f1 : ((L3.length : Int) == (L.length : Int) + 3) = false := by simp; omega
    have f2 : ((L3.length : Int) != (L.length : Int) + 3) = true := by simp; omega
    go_wp2_with fail
    refine (fixed8_calls H.out).mono ?_
    rintro e w' ⟨rfl, h5⟩
    have H5 := hid h5
    clear h5
    go_wp2_with fail
    go_ret
    exact ⟨rfl, H5.out.below⟩
  have f1 : ((L3.length : Int) == (L.length : Int) + 3) = true := by simp; omega
  have f2 : ((L3.length : Int) != (L.length : Int) + 3) = false := by simp; omega
  have n1 := Q1.out.new (by omega)
  have n2 := Q2.out.new (by omega)
  have n3 := Q3.out.new (by omega)
  obtain ⟨e1, v1⟩ := n1
  obtain ⟨e2, v2⟩ := n2
  obtain ⟨e3, v3⟩ := n3
  skip
  rw [e1] at v2
  rw [e2, e1] at v3
  simp only [List.length_append, List.length_cons, List.length_nil] at v2
  simp only [List.length_append, List.length_cons, List.length_nil] at v3
  have Vk : Hid (k = (L.length : Int) + 1) := hid (by omega)
  have Vx : Hid (x = (L.length : Int) + 2) := hid (by omega)
  have Vc : Hid (c = (L.length : Int) + 3) := hid (by omega)
  have EX : Hid (L3 = L ++ [nonT 2199023255552, nonT 4398046511104, seaT ((L.length : Int) + 1) nm 1 ((L.length : Int) + 2)]) := hid (by rw [e3, e2, e1]; simp only [List.append_assoc, List.cons_append, List.nil_append]; rw [Vk.out, Vx.out])
  clear e1 v1 e2 v2 e3 v3
  clear Q1 Q2 Q3
  go_wp2_with fail
  have H2 : Hid (Hd W _ (Sto b L3 1000 :: RowR 3 1 (.slice (some ⟨_, 0, none⟩) 1 1) 1 (nums .i64 [c]) :: [])) := hid (H.out.row_one (E := 3) (v := .int .i64 c)).swap
  clear H f1 f2 hn
  go_loopw [16, 17] (fun v i wr => ∃ j : Nat, j ≤ len2 ∧ j ≤ 5 ∧ i = .int .i64 j ∧ ∃ (kad : Option Addr) (kcap : Nat) (ks : List Int), v = .slice kad (j + 1) kcap ∧ Hid ((∀ x ∈ ks, (1 ≤ x ∧ x ≤ (L.length : Int)) ∨ x = c) ∧ c ∈ ks) ∧ Hid (Hd W wr (Sto b L3 1000 :: RowR 3 1 (.slice kad (j + 1) kcap) (j + 1) (nums .i64 ks) :: []))) (fun _ i _ => len2 - (intOf i).toNat)
  case atStart => exact ⟨0, Nat.zero_le _, Nat.zero_le _, rfl, _, _, [c], rfl, hid ⟨by simp, by simp⟩, H2⟩
  case round =>
    clear H2
    obtain ⟨j, hj, hj5, rfl, kad, kcap, ks, rfl, KI, H⟩ := hrel
    obtain ⟨wo, hwo⟩ : ∃ wo : World, wo = wr := ⟨_, rfl⟩
    rw [← hwo] at H ⊢
    clear hwo wr
    by_cases hlt : j < len2 ∧ j < 5
    · have hd1 : decide ((j : Int) < (len2 : Int)) = true := by simp; omega
      have hd1' : decide (j < len2) = true := by simp; omega
      have hd2 : decide ((j : Int) < 5) = true := by simp; omega
      obtain ⟨z, hz⟩ : ∃ z, zs[j]? = some z := ⟨zs[j]'(by rw [← Hlen2.out]; exact hlt.1), List.getElem?_eq_getElem _⟩
      obtain ⟨z0, z1, gg, oo, rfl, hc0⟩ := (Hzs.out.later H.out.below) j z hz
      have z0' : 0 ≤ z := by simpa [IntKind.min, IntKind.signed] using z0
      have z1' : z ≤ 255 := by simpa [IntKind.max, IntKind.signed, IntKind.bits] using z1
      have zj0 : (0 : Int) ≤ (j : Int) := by omega
      have zj1 : (j : Int) < (len2 : Int) := by omega
      have hmod := mod_range z (show (1 : Int) ≤ (L.length : Int) by omega)
      have Hmod := hid hmod
      clear hz z0 z1
      obtain ⟨i0, hi0, hz0, hs0, hy0⟩ := info_i64
      have Hi0 := hid hi0
      have Hz0 := hid hz0
      have Hs0 := hid hs0
      have Hy0 := hid hy0
      have HA := hid H.out.swap
      clear hi0 hz0 hs0 hy0 H
      go_wp2_with (at_builtin; refine append_num (k := .i64) Try.underlying60 Hi0.out Hz0.out Hs0.out Hy0.out (by decide) rfl (.tmp 90) (.tmp 99) rfl HA.out (by rfl) (1 + z % (L.length : Int)) (by rfl) (by omega) ?_; intro g3 c3 w9 hq; have H := hid hq.swap; clear hq HA)
      have KI3 : Hid ((∀ x ∈ ks ++ [1 + z % (L.length : Int)], (1 ≤ x ∧ x ≤ (L.length : Int)) ∨ x = c) ∧ c ∈ ks ++ [1 + z % (L.length : Int)]) := hid ⟨fun x hx => by
        rcases List.mem_append.1 hx with hx | hx
        · exact KI.out.1 x hx
        · have := Hmod.out
          simp only [List.mem_singleton] at hx
          omega, List.mem_append_left _ KI.out.2⟩
      clear KI Hmod hmod
      go_wp2_with fail
      go_roundw
      case rel => exact ⟨j + 1, by omega, by omega, by go_num, _, _, _, rfl, KI3, H⟩
      case measure => simp [intOf]; omega
    · have hex : (decide ((j : Int) < (len2 : Int)) = false ∧ decide (j < len2) = false) ∨ (decide ((j : Int) < (len2 : Int)) = true ∧ decide (j < len2) = true ∧ decide ((j : Int) < 5) = false) := by
        by_cases h : j < len2
        · right; refine ⟨by simp; omega, by simp; omega, by simp; omega⟩
        · left; refine ⟨by simp; omega, by simp; omega⟩
      clear hlt
      rcases hex with ⟨hd1, hd1'⟩ | ⟨hd1, hd1', hd2⟩
      · have KR : Hid (∀ x ∈ ks, 1 ≤ x ∧ x ≤ L3.length) := hid fun y hy => by
          rcases KI.out.1 y hy with h | h
          · omega
          · omega
        have NO : Hid (¬ Der L3 true true (fun y => y ∈ ks) x) := hid (by
          have g := G3.out
          rw [EX.out] at g ⊢
          rw [Vx.out]
          exact seals_no g fun y hy => by have := KI.out.1 y hy; rw [Vc.out] at this; exact this)
        have YES : Hid (Der L3 false false (fun y => y ∈ ks ++ [k]) x) := hid (seals_yes Atc.out (List.mem_append_left _ KI.out.2) (by simp))
        have KR2 : Hid (∀ x ∈ ks ++ [k], 1 ≤ x ∧ x ≤ L3.length) := hid fun y hy => by
          rcases List.mem_append.1 hy with h | h
          · exact KR.out y h
          · simp only [List.mem_singleton] at h; omega
        go_wp2_with fail
        refine (can_c true true x kad kcap KR.out (by omega) H.out).mono ?_
        rintro e w10 ⟨p, rfl, hp, h4⟩
        have p0 : p = false := by
          cases p with
          | false => rfl
          | true => exact absurd (hp.1 rfl) NO.out
        subst p0
        clear H hp
        have H := hid h4
        clear h4
        obtain ⟨i0, hi0, hz0, hs0, hy0⟩ := info_i64
        have Hi0 := hid hi0
        have Hz0 := hid hz0
        have Hs0 := hid hs0
        have Hy0 := hid hy0
        have HA := hid H.out.swap
        clear hi0 hz0 hs0 hy0 H
        go_wp2_with (at_builtin; refine append_num (k := .i64) Try.underlying60 Hi0.out Hz0.out Hs0.out Hy0.out (by decide) rfl (.tmp 109) (.tmp 111) rfl HA.out (by rfl) (k) (by rfl) (by omega) ?_; intro g4 c4 w11 hq; have H := hid hq.swap; clear hq HA)
        go_wp2_with fail
        refine (can_c false false x (some ⟨g4, 0, none⟩) c4 KR2.out (by omega) H.out).mono ?_
        rintro e w12 ⟨p, rfl, hp, h4⟩
        obtain rfl := hp.2 YES.out
        clear H hp
        have H := hid h4
        clear h4
        go_wp2_with fail
        refine (fixed8_calls H.out).mono ?_
        rintro e w' ⟨rfl, h5⟩
        have H5 := hid h5
        clear h5
        go_wp2_with fail
        go_ret
        exact ⟨rfl, H5.out.below⟩
      · have KR : Hid (∀ x ∈ ks, 1 ≤ x ∧ x ≤ L3.length) := hid fun y hy => by
          rcases KI.out.1 y hy with h | h
          · omega
          · omega
        have NO : Hid (¬ Der L3 true true (fun y => y ∈ ks) x) := hid (by
          have g := G3.out
          rw [EX.out] at g ⊢
          rw [Vx.out]
          exact seals_no g fun y hy => by have := KI.out.1 y hy; rw [Vc.out] at this; exact this)
        have YES : Hid (Der L3 false false (fun y => y ∈ ks ++ [k]) x) := hid (seals_yes Atc.out (List.mem_append_left _ KI.out.2) (by simp))
        have KR2 : Hid (∀ x ∈ ks ++ [k], 1 ≤ x ∧ x ≤ L3.length) := hid fun y hy => by
          rcases List.mem_append.1 hy with h | h
          · exact KR.out y h
          · simp only [List.mem_singleton] at h; omega
        go_wp2_with fail
        refine (can_c true true x kad kcap KR.out (by omega) H.out).mono ?_
        rintro e w10 ⟨p, rfl, hp, h4⟩
        have p0 : p = false := by
          cases p with
          | false => rfl
          | true => exact absurd (hp.1 rfl) NO.out
        subst p0
        clear H hp
        have H := hid h4
        clear h4
        obtain ⟨i0, hi0, hz0, hs0, hy0⟩ := info_i64
        have Hi0 := hid hi0
        have Hz0 := hid hz0
        have Hs0 := hid hs0
        have Hy0 := hid hy0
        have HA := hid H.out.swap
        clear hi0 hz0 hs0 hy0 H
        go_wp2_with (at_builtin; refine append_num (k := .i64) Try.underlying60 Hi0.out Hz0.out Hs0.out Hy0.out (by decide) rfl (.tmp 109) (.tmp 111) rfl HA.out (by rfl) (k) (by rfl) (by omega) ?_; intro g4 c4 w11 hq; have H := hid hq.swap; clear hq HA)
        go_wp2_with fail
        refine (can_c false false x (some ⟨g4, 0, none⟩) c4 KR2.out (by omega) H.out).mono ?_
        rintro e w12 ⟨p, rfl, hp, h4⟩
        obtain rfl := hp.2 YES.out
        clear H hp
        have H := hid h4
        clear h4
        go_wp2_with fail
        refine (fixed8_calls H.out).mono ?_
        rintro e w' ⟨rfl, h5⟩
        have H5 := hid h5
        clear h5
        go_wp2_with fail
        go_ret
        exact ⟨rfl, H5.out.below⟩
end Go.Proofs.Ytbaliaodioflfaa
