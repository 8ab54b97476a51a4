/-
  Walks through All and Can: the names of what one can make; whether one can make a term. For every store and every list of known names.
-/
import Derived.Test.YtbaliaodioflfaaKnowC
import Derived.Test.YtbaliaodioflfaaKnowB
import Derived.Test.YtbaliaodioflfaaOwn
namespace Go.Proofs.Ytbaliaodioflfaa
open Go.RowKit

theorem info_i64 : ∃ i, Try.prog.info? 3 = some i ∧ i.zero = some (.int .i64 0) ∧ i.size = 1 ∧ i.bytes = 8 := info_parts (by kernel_rfl)

theorem Hd.row_nil {W w : World} {Rs : List Res} {E : TypeId} {size : Nat} (h : Hd W w Rs) : Hd W w (RowR E size (.slice none 0 0) 0 [] :: Rs) :=
  h.add (Below.refl _ _) (fun _ => none) ⟨by simp, .inl ⟨rfl, rfl, rfl⟩⟩ (fun k o hk => by cases hk) (fun k hk => absurd rfl hk)

/-- The names so far that are marked. -/
def markedTo (cs : List Bool) (j : Nat) : List Int := ((List.range j).map fun (i : Nat) => (i : Int)).filter fun x => on cs x
theorem markedTo_succ (cs : List Bool) (j : Nat) : markedTo cs (j + 1) = if on cs (j : Int) = true then markedTo cs j ++ [(j : Int)] else markedTo cs j := by
  unfold markedTo
  rw [List.range_succ, List.map_append, List.filter_append]
  by_cases h : on cs (j : Int) = true
  · rw [if_pos h]; simp [h]
  · rw [if_neg h]; simp [h]
theorem markedTo_le (cs : List Bool) (j : Nat) : (markedTo cs j).length ≤ j := by
  unfold markedTo
  refine Nat.le_trans (List.length_filter_le _ _) ?_
  simp
open Classical in
theorem markedTo_all {L : List T} {dh kem : Bool} {K : Int → Prop} {cs : List Bool} (h : ∀ x, on cs x = true ↔ Der L dh kem K x) (h0 : ¬ Der L dh kem K 0) : markedTo cs (L.length + 1) = allOf L dh kem K := by
  unfold markedTo allOf
  rw [List.range_succ_eq_map, List.map_cons, List.filter_cons_of_neg (by simpa [h] using h0), List.map_map]
  have e : ((fun (i : Nat) => (i : Int)) ∘ Nat.succ) = fun (i : Nat) => ((i : Nat) : Int) + 1 := by funext i; simp
  rw [e]
  refine List.filter_congr fun x _ => ?_
  rw [Bool.eq_iff_iff]
  simp [h]

/-- What All answers. -/
def AllAns (L : List T) (dh kem : Bool) (ks : List Int) (w : World) (e : Ending) (w' : World) : Prop :=
  ((∀ x ∈ ks, 1 ≤ x ∧ x ≤ L.length) ∧ ∃ v, e = .returned (.tuple #[v, .int .i64 0]) ∧ Hd w w' [RowR 3 1 v (allOf L dh kem (fun x => x ∈ ks)).length (nums .i64 (allOf L dh kem (fun x => x ∈ ks)))]) ∨
  (¬ (∀ x ∈ ks, 1 ≤ x ∧ x ≤ L.length) ∧ e = .returned (.tuple #[.slice none 0 0, .int .i64 1]) ∧ Below w.heap.size w w')

set_option maxRecDepth 100000 in
set_option maxHeartbeats 16000000 in
theorem know_all {b : Nat} {L : List T} {m : Int} {lb0 db0 mb0 lc0 dc0 : Nat} {w : World} (dh kem : Bool) (ad : Option Addr) (len cap : Nat) (ks : List Int) (hlen : len = ks.length) (hmax : len ≤ maxLen) (hks : KsIn w ad ks) (h : StoAt w b L m lb0 db0 mb0 lc0 dc0) :
    Calls Try.prog 40 #[.pointer (some ⟨b, 0, none⟩), .slice ad len cap, .agg #[.bool dh, .bool kem]] w (AllAns L dh kem ks w) := by
  have hgd := hid h.good
  have hL : L.length ≤ 1048576 := by have := h.m1; have := h.len; omega
  have hs := hid h
  have Hlen := hid hlen
  have Hks := hid hks
  have Hmax := hid hmax
  clear hks hlen hmax h
  go_enter Try.func40, Try.ntmps40
  go_wp2_with fail
  have hb1 := hid (show Below w.heap.size w (w.alloc (.cells #[.bool dh, .bool kem] 62 (0, 0))) from (Below.refl _ _).alloc (Nat.le_refl _) _)
  refine (begin_m dh kem ad len cap ks Hlen.out Hmax.out (Hks.out.later hb1.out) (hs.out.later hb1.out)).mono ?_
  rintro e w1 (⟨hin, hb, lb, cb, pb, kb, mb, N, es, ck, cs, rfl, hok, hmk, hd⟩ | ⟨hno, rfl, hbl⟩)
  · have Hin := hid hin
    have Ok := hid hok
    have Mk := hid hmk
    have H := hid ((Hd.refl w).box _ |>.join hd)
    clear hin hok hmk hd
    go_wp2_with fail
    refine (all_m (fun x => x ∈ ks) Mk.out Ok.out (by exact H.out)).mono ?_
    rintro e w2 ⟨rfl, cs2, hder, hok2, hd2⟩
    have Hder := hid hder
    have Ok2 := hid hok2
    have H2 := hid (hd2.row_nil (E := 3) (size := 1))
    have HN := hid hok2.hN
    have hN1 : N ≤ 1048577 := by have := hok2.hN; omega
    have hm := hd2.mindOk hok2
    have k1 := hm.h1
    clear hder hok2 hd2 H Ok Mk hm
    go_wp2_with fail
    clear k1
    go_loopw [10, 29] (fun v i wr => ∃ j : Nat, j ≤ N ∧ i = .int .i64 j ∧ Hid (Hd w wr (RowR 3 1 v (markedTo cs2 j).length (nums .i64 (markedTo cs2 j)) :: Mind hb lb cb pb kb mb N L dh kem es ck cs2 [Blk w.heap.size (.cells #[.bool dh, .bool kem] 62 (0, 0))]))) (fun _ i _ => N - (intOf i).toNat)
    case atStart => exact ⟨0, Nat.zero_le _, rfl, H2⟩
    case round =>
      clear H2
      obtain ⟨j, hj, rfl, H⟩ := hrel
      by_cases hlt : j < N
      · have hd1 : decide ((j : Int) < (N : Int)) = true := by simp; omega
        have hd1' : decide (j < N) = true := by simp; omega
        have zj0 : (0 : Int) ≤ (j : Int) := by omega
        have zj1 : (j : Int) < (N : Int) := by omega
        have hm := H.out.drop.mindOk Ok2.out
        have cj := hm.cc j hlt
        have hsu := hid (markedTo_succ cs2 j)
        have hle := markedTo_le cs2 j
        clear hm
        obtain ⟨p, hq⟩ : ∃ zz, on cs2 (j : Int) = zz := ⟨_, rfl⟩
        rw [hq] at cj
        have Ep := hid hq
        clear hq
        cases p
        · go_wp2_with fail
          go_roundw
          case rel =>
            have hs2 := hsu.out
            rw [Ep.out, if_neg Bool.false_ne_true] at hs2
            exact ⟨j + 1, by omega, by go_num, by rw [hs2]; exact H⟩
          case measure => simp [intOf]; omega
        · have hs2 := hsu.out
          rw [Ep.out, if_pos rfl] at hs2
          have Hs2 := hid hs2
          obtain ⟨zs, hzs⟩ : ∃ zs, markedTo cs2 j = zs := ⟨_, rfl⟩
          rw [hzs] at H hle Hs2
          have Hzs := hid hzs
          obtain ⟨i0, hi0, hz0, hs0, hy0⟩ := info_i64
          have Hi0 := hid hi0
          have Hz0 := hid hz0
          have Hs0 := hid hs0
          have Hy0 := hid hy0
          clear hs2 hzs hi0 hz0 hs0 hy0
          obtain ⟨zn, hzn⟩ : ∃ zn, zs.length = zn := ⟨_, rfl⟩
          rw [hzn] at H hle
          have Hzn := hid hzn
          clear hzn
          go_wp2_with (at_builtin; refine append_num (k := .i64) Try.underlying60 Hi0.out Hz0.out Hs0.out Hy0.out (by decide) rfl (.tmp 35) (.tmp 37) rfl H.out (by rfl) (j : Int) (by rfl) (by omega) ?_; intro g3 c3 w3 h3)
          have H3 := hid h3
          clear h3
          go_roundw
          case rel => exact ⟨j + 1, by omega, by go_num, by rw [Hs2.out, List.length_append, Hzn.out]; exact H3⟩
          case measure => simp [intOf]; omega
      · have hd1 : decide ((j : Int) < (N : Int)) = false := by simp; omega
        have hd1' : decide (j < N) = false := by simp; omega
        have Hj : Hid (j = L.length + 1) := hid (by have := HN.out; omega)
        clear hlt
        go_wp2_with fail
        go_ret2
        have h1 := H.out
        rw [Hj.out, markedTo_all Hder.out (fun hz => by have := Der.name hgd.out Hin.out hz; omega)] at h1
        exact .inl ⟨Hin.out, _, rfl, h1.only⟩
  · have Hno := hid hno
    have Hbl := hid hbl
    clear hno hbl
    go_wp2_with fail
    go_ret2
    exact .inr ⟨Hno.out, rfl, hb1.out.trans (Hbl.out.mono hb1.out.size)⟩

open Classical in
/-- What Can answers. -/
def CanAns (L : List T) (dh kem : Bool) (ks : List Int) (x : Int) (w : World) (e : Ending) (w' : World) : Prop :=
  Below w.heap.size w w' ∧
  (((∀ x ∈ ks, 1 ≤ x ∧ x ≤ L.length) ∧ (1 ≤ x ∧ x ≤ L.length) ∧ e = .returned (.tuple #[.bool (decide (Der L dh kem (fun x => x ∈ ks) x)), .int .i64 0])) ∨
  ((∀ x ∈ ks, 1 ≤ x ∧ x ≤ L.length) ∧ ¬ (1 ≤ x ∧ x ≤ L.length) ∧ e = .returned (.tuple #[.bool false, .int .i64 5])) ∨
  (¬ (∀ x ∈ ks, 1 ≤ x ∧ x ≤ L.length) ∧ e = .returned (.tuple #[.bool false, .int .i64 1])))

set_option maxRecDepth 100000 in
set_option maxHeartbeats 16000000 in
theorem know_can {b : Nat} {L : List T} {m : Int} {lb0 db0 mb0 lc0 dc0 : Nat} {w : World} (dh kem : Bool) (ad : Option Addr) (len cap : Nat) (ks : List Int) (x : Int) (hlen : len = ks.length) (hmax : len ≤ maxLen) (hks : KsIn w ad ks) (h : StoAt w b L m lb0 db0 mb0 lc0 dc0) :
    Calls Try.prog 42 #[.pointer (some ⟨b, 0, none⟩), .slice ad len cap, .agg #[.bool dh, .bool kem], .int .i64 x] w (CanAns L dh kem ks x w) := by
  have hgd := hid h.good
  have hL : L.length ≤ 1048576 := by have := h.m1; have := h.len; omega
  have hs := hid h
  have Hlen := hid hlen
  have Hks := hid hks
  have Hmax := hid hmax
  clear hks hlen hmax h
  go_enter Try.func42, Try.ntmps42
  go_wp2_with fail
  have hb1 := hid (show Below w.heap.size w (w.alloc (.cells #[.bool dh, .bool kem] 62 (0, 0))) from (Below.refl _ _).alloc (Nat.le_refl _) _)
  refine (begin_m dh kem ad len cap ks Hlen.out Hmax.out (Hks.out.later hb1.out) (hs.out.later hb1.out)).mono ?_
  rintro e w1 (⟨hin, hb, lb, cb, pb, kb, mb, N, es, ck, cs, rfl, hok, hmk, hd⟩ | ⟨hno, rfl, hbl⟩)
  · have Hin := hid hin
    have Ok := hid hok
    have Mk := hid hmk
    have H := hid ((Hd.refl w).box _ |>.join hd)
    have HN := hid hok.hN
    clear hin hok hmk hd
    by_cases h1 : x < 1
    · have e1 : decide (x < 1) = true := by simpa using h1
      have Hx : Hid (¬ (1 ≤ x ∧ x ≤ L.length)) := hid (by omega)
      clear h1
      go_wp2_with fail
      go_ret2
      exact ⟨H.out.below, .inr (.inl ⟨Hin.out, Hx.out, rfl⟩)⟩
    · have e1 : decide (x < 1) = false := by simpa using h1
      by_cases h2 : (L.length : Int) < x
      · have e2 : decide ((L.length : Int) < x) = true := by simpa using h2
        have Hx : Hid (¬ (1 ≤ x ∧ x ≤ L.length)) := hid (by omega)
        clear h1 h2
        go_wp2_with fail
        refine (len_calls' (hs.out.later H.out.below)).mono ?_
        rintro e w2 ⟨rfl, rfl⟩
        go_wp2_with fail
        go_ret2
        exact ⟨H.out.below, .inr (.inl ⟨Hin.out, Hx.out, rfl⟩)⟩
      · have e2 : decide ((L.length : Int) < x) = false := by simpa using h2
        have Hx : Hid (1 ≤ x ∧ x ≤ L.length) := hid (by omega)
        obtain ⟨x, rfl⟩ : ∃ i : Nat, x = i := ⟨x.toNat, by omega⟩
        have zx0 : (0 : Int) ≤ (x : Int) := by omega
        have xx : x < N := by have := HN.out; omega
        have zx1 : (x : Int) < (N : Int) := by omega
        have e3 : decide (L.length < x) = false := by simp; omega
        clear h1 h2
        go_wp2_with fail
        refine (len_calls' (hs.out.later H.out.below)).mono ?_
        rintro e w2 ⟨rfl, rfl⟩
        go_wp2_with fail
        refine (all_m (fun x => x ∈ ks) Mk.out Ok.out (by exact H.out)).mono ?_
        rintro e w2 ⟨rfl, cs2, hder, hok2, hd2⟩
        have Hder := hid hder
        have hm := hd2.mindOk hok2
        have H2 := hid hd2
        have k1 := hm.h1
        have cx := hm.cc x xx
        have Ecx : Hid (on cs2 (x : Int) = @decide (Der L dh kem (fun x => x ∈ ks) (x : Int)) (Classical.propDecidable _)) := hid (by
          rw [Bool.eq_iff_iff, hder, @decide_eq_true_iff _ (Classical.propDecidable _)])
        obtain ⟨p, hp⟩ : ∃ zz, on cs2 (x : Int) = zz := ⟨_, rfl⟩
        rw [hp] at cx
        have Ep := hid hp
        clear hder hok2 hd2 H Ok Mk hm hp
        go_wp2_with fail
        go_ret2
        exact ⟨H2.out.below, .inl ⟨Hin.out, Hx.out, by rw [← Ep.out, Ecx.out]; rfl⟩⟩
  · have Hno := hid hno
    have Hbl := hid hbl
    clear hno hbl
    go_wp2_with fail
    go_ret2
    exact ⟨hb1.out.trans (Hbl.out.mono hb1.out.size), .inr (.inr ⟨Hno.out, rfl⟩)⟩
end Go.Proofs.Ytbaliaodioflfaa
