/-
  Walks through what a mind learns: learn, apart. For every mind.
-/
import Derived.Test.YtbaliaodioflfaaKnowW
import Derived.Test.YtbaliaodioflfaaMade
namespace Go.Proofs.Ytbaliaodioflfaa
open Go.RowKit

structure MdOk (L : List T) (N : Nat) (es : Array MapEntry) (cs : List Bool) : Prop where
  good : Good L
  small : L.length ≤ 1048576
  hN : N = L.length + 1
  len : cs.length = L.length + 1
  box : BoxOk es L

theorem MdOk.lrn {L : List T} {N : Nat} {es : Array MapEntry} {cs : List Bool} (h : MdOk L N es cs) (x : Int) : MdOk L N es (lrn cs x) := ⟨h.good, h.small, h.hN, by rw [lrn_length]; exact h.len, h.box⟩
theorem apt_length (cs : List Bool) (t : T) : (apt cs t).2.length = cs.length := by
  unfold apt; split
  · rw [lrn_length, lrn_length]
  · split
    · rw [lrn_length]
    · rfl
theorem MdOk.apt {L : List T} {N : Nat} {es : Array MapEntry} {cs : List Bool} (h : MdOk L N es cs) (t : T) : MdOk L N es (apt cs t).2 := ⟨h.good, h.small, h.hN, by rw [apt_length]; exact h.len, h.box⟩

theorem bools_set (cs : List Bool) (x : Nat) : (bools cs).toArray.setIfInBounds x (.bool true) = (bools (lrn cs (x : Int))).toArray := by
  simp [bools, lrn, List.map_set]

section
variable {W w : World} {hb lb cb pb kb mb N ck : Nat} {L : List T} {dh kem : Bool} {es : Array MapEntry} {cs : List Bool} {Rs : List Res} {o : Obj} {A : Res}

theorem Hd.mindOk (h : Hd W w (Mind hb lb cb pb kb mb N L dh kem es ck cs Rs)) (ok : MdOk L N es cs) : MindAt w hb lb cb pb kb mb N L dh kem cs := h.mind ok.good ok.small ok.hN ok.len ok.box

theorem Hd.mbox (h : Hd W w (Mind hb lb cb pb kb mb N L dh kem es ck cs Rs)) (o : Obj) (k : Nat) (hk : w.heap.size = k) : Hd W (w.alloc o) (Mind hb lb cb pb kb mb N L dh kem es ck cs (Blk k o :: Rs)) := by
  subst hk
  refine Hd.perm ?_ (h.box o)
  exact (List.perm_middle (a := Blk w.heap.size o) (l₁ := [_, _, _, _, _, _]) (l₂ := Rs)).symm
theorem Hd.mun (h : Hd W w (Mind hb lb cb pb kb mb N L dh kem es ck cs (A :: Rs))) : Hd W w (Mind hb lb cb pb kb mb N L dh kem es ck cs Rs) := by
  refine (Hd.perm ?_ h).drop (A := A)
  exact (List.perm_middle (a := A) (l₁ := [_, _, _, _, _, _]) (l₂ := Rs))

set_option maxRecDepth 100000 in
set_option maxHeartbeats 2000000 in
theorem learn_m (x : Int) (hx0 : 0 ≤ x) (hx : x ≤ L.length) (ok : MdOk L N es cs) (hd : Hd W w (Mind hb lb cb pb kb mb N L dh kem es ck cs Rs)) :
    Calls Try.prog 118 #[.pointer (some ⟨hb, 0, none⟩), .int .i64 x] w fun e w' => e = .returned (.bool (!on cs x)) ∧ Hd W w' (Mind hb lb cb pb kb mb N L dh kem es ck (lrn cs x) Rs) := by
  obtain ⟨x, rfl⟩ : ∃ i : Nat, x = i := ⟨x.toNat, by omega⟩
  have h := hd.mindOk ok
  have hN := ok.hN
  have zx : (0 : Int) ≤ (x : Int) := by omega
  have yx : (x : Int) < (N : Int) := by omega
  have k1 := h.h1
  have cx := h.cc x (by omega)
  have fx := frozen_of_heap (Hd.kth 0 hd rfl) x
  have lx := h.lts.2.2.1
  obtain ⟨p, hq⟩ : ∃ zz, on cs (x : Int) = zz := ⟨_, rfl⟩
  rw [hq] at cx ⊢
  have Ep := hid hq
  have H := hid hd
  clear hq h hN hx0 hx hd ok
  go_enter Try.func118, Try.ntmps118
  go_wp2_with fail
  go_ret
  refine ⟨rfl, ?_⟩
  have := H.out.set x (.bool true)
  rw [bools_set] at this
  exact this

set_option maxRecDepth 100000 in
set_option maxHeartbeats 4000000 in
theorem apart_pair (s : ByteArray) (n a b c : Int) (ha0 : 0 ≤ a) (ha : a ≤ L.length) (hb0 : 0 ≤ b) (hb' : b ≤ L.length) (ok : MdOk L N es cs) (hd : Hd W w (Mind hb lb cb pb kb mb N L dh kem es ck cs Rs)) :
    Calls Try.prog 102 #[.pointer (some ⟨hb, 0, none⟩), .agg #[.int .i64 11, .string s, .int .u64 n, .int .i64 a, .int .i64 b, .int .i64 c]] w fun e w' => e = .returned (.bool (!on cs a || !on (lrn cs a) b)) ∧ Hd W w' (Mind hb lb cb pb kb mb N L dh kem es ck (lrn (lrn cs a) b) Rs) := by
  have Ok := hid ok
  have Ok2 := hid (ok.lrn a)
  have H := hid hd
  have Ha := hid ha
  have Hb := hid hb'
  have Ha0 := hid ha0
  have Hb0 := hid hb0
  clear ha hb' ha0 hb0
  obtain ⟨p, hq⟩ : ∃ zz, on cs a = zz := ⟨_, rfl⟩
  have Ep := hid hq
  rw [hq]
  clear hq
  obtain ⟨q, hq⟩ : ∃ zz, on (lrn cs a) b = zz := ⟨_, rfl⟩
  have Eq := hid hq
  rw [hq]
  clear hq ok hd
  go_enter Try.func102, Try.ntmps102
  go_wp2_with fail
  refine (learn_m a Ha0.out Ha.out Ok.out (H.out.mbox _ _ rfl)).mono ?_
  rw [Ep.out]
  rintro e w2 ⟨rfl, h2⟩
  have H2 := hid h2
  clear h2
  have hk := Hd.kth 6 H2.out rfl
  have d4 := (cell_of_heap hk 4).trans (show _ = some (.int .i64 b) from rfl)
  clear hk
  go_wp2_with fail
  refine (learn_m b Hb0.out Hb.out Ok2.out H2.out).mono ?_
  rw [Eq.out]
  rintro e w3 ⟨rfl, h3⟩
  have H3 := hid h3
  clear h3 d4 H2
  cases p
  · go_wp2_with fail
    go_ret
    exact ⟨rfl, H3.out.mun⟩
  · go_wp2_with fail
    go_ret
    exact ⟨by simp, H3.out.mun⟩

set_option maxRecDepth 100000 in
set_option maxHeartbeats 4000000 in
theorem apart_seal (s : ByteArray) (n a b c : Int) (ha0 : 0 ≤ a) (ha : a ≤ L.length) (hc0 : 0 ≤ c) (hc : c ≤ L.length) (ok : MdOk L N es cs) (hd : Hd W w (Mind hb lb cb pb kb mb N L dh kem es ck cs Rs)) :
    Calls Try.prog 102 #[.pointer (some ⟨hb, 0, none⟩), .agg #[.int .i64 10, .string s, .int .u64 n, .int .i64 a, .int .i64 b, .int .i64 c]] w fun e w' => e = .returned (.bool (if on cs a = true then !on cs c else false)) ∧ Hd W w' (Mind hb lb cb pb kb mb N L dh kem es ck (if on cs a = true then lrn cs c else cs) Rs) := by
  obtain ⟨a, rfl⟩ : ∃ i : Nat, a = i := ⟨a.toNat, by omega⟩
  have Ok := hid ok
  have H := hid hd
  have Hc := hid hc
  have Hc0 := hid hc0
  have hN := ok.hN
  have xa : a < N := by omega
  have za : (0 : Int) ≤ (a : Int) := by omega
  have ya : (a : Int) < (N : Int) := by omega
  clear ha hc ha0 hc0 hN
  obtain ⟨p, hq⟩ : ∃ zz, on cs (a : Int) = zz := ⟨_, rfl⟩
  have Ep := hid hq
  rw [hq]
  clear hq
  obtain ⟨q, hq⟩ : ∃ zz, on cs c = zz := ⟨_, rfl⟩
  have Eq := hid hq
  rw [hq]
  clear hq ok hd
  go_enter Try.func102, Try.ntmps102
  go_wp2_with fail
  obtain ⟨w2, hw2⟩ : ∃ w2, w2 = w.alloc (.cells #[.int .i64 10, .string s, .int .u64 n, .int .i64 a, .int .i64 b, .int .i64 c] 76 (0, 0)) := ⟨_, rfl⟩
  have h2 : Hd W w2 (Mind hb lb cb pb kb mb N L dh kem es ck cs (Blk w.heap.size (.cells #[.int .i64 10, .string s, .int .u64 n, .int .i64 a, .int .i64 b, .int .i64 c] 76 (0, 0)) :: Rs)) := by rw [hw2]; exact H.out.mbox _ _ rfl
  rw [← hw2]
  clear hw2
  generalize hB : w.heap.size = B at *
  have H2 := hid h2
  have hm := h2.mindOk Ok.out
  have hk := Hd.kth 6 h2 rfl
  have d0 : ∀ x : Later w2, x.w.cell? ⟨B, 0, none⟩ = some (.int .i64 10) := fun x => x.cell (by rw [cell_of_heap hk]; rfl)
  have d3 : ∀ x : Later w2, x.w.cell? ⟨B, 3, none⟩ = some (.int .i64 a) := fun x => x.cell (by rw [cell_of_heap hk]; rfl)
  have k1 : ∀ x : Later w2, x.w.cell? ⟨hb, 1, none⟩ = some (.slice (some ⟨cb, 0, none⟩) N N) := fun x => x.cell hm.h1
  have ca : ∀ x : Later w2, x.w.cell? ⟨cb, a, none⟩ = some (.bool p) := fun x => x.cell (by rw [← Ep.out]; exact hm.cc a xa)
  clear hm hk h2
  cases p
  · refine wp_region_calm (by kernel_rfl) (by kernel_rfl) ?_
    repeat (go_big_quiet_step (fail))
    refine wpQuiet_nil ?_
    intro w3 hw3
    obtain ⟨⟨w3, hb3⟩, rfl⟩ := hw3
    have H3 := hid (H2.out.still hb3)
    clear d0 d3 k1 ca H2
    go_wp2_with fail
    go_ret
    exact ⟨by simp, by simpa using H3.out.mun⟩
  · refine wp_region_calm (by kernel_rfl) (by kernel_rfl) ?_
    repeat (go_big_quiet_step (fail))
    refine wpQuiet_nil ?_
    intro w3 hw3
    obtain ⟨⟨w3, hb3⟩, rfl⟩ := hw3
    have H3 := hid (H2.out.still hb3)
    clear d0 d3 k1 ca H2
    have hk := Hd.kth 6 H3.out rfl
    have d5 := (cell_of_heap hk 5).trans (show _ = some (.int .i64 c) from rfl)
    clear hk
    go_wp2_with fail
    refine (learn_m c Hc0.out Hc.out Ok.out H3.out).mono ?_
    rw [Eq.out]
    rintro e w4 ⟨rfl, h4⟩
    have H4 := hid h4
    clear h4 d5 H3
    go_wp2_with fail
    go_ret
    exact ⟨by simp, by simpa using H4.out.mun⟩

set_option maxRecDepth 100000 in
set_option maxHeartbeats 4000000 in
theorem apart_none (k : Int) (s : ByteArray) (n a b c : Int) (h1 : k ≠ 11) (h2 : k ≠ 10) (hd : Hd W w Rs) :
    Calls Try.prog 102 #[.pointer (some ⟨hb, 0, none⟩), .agg #[.int .i64 k, .string s, .int .u64 n, .int .i64 a, .int .i64 b, .int .i64 c]] w fun e w' => e = .returned (.bool false) ∧ Hd W w' Rs := by
  have H := hid hd
  have e1 : (k == 11) = false := by simpa using h1
  have e2 : (k == 10) = false := by simpa using h2
  clear h1 h2 hd
  go_enter Try.func102, Try.ntmps102
  go_wp2_with fail
  obtain ⟨w2, hw2⟩ : ∃ w2, w2 = w.alloc (.cells #[.int .i64 k, .string s, .int .u64 n, .int .i64 a, .int .i64 b, .int .i64 c] 76 (0, 0)) := ⟨_, rfl⟩
  have hk : w2.heap[w.heap.size]? = some (.cells #[.int .i64 k, .string s, .int .u64 n, .int .i64 a, .int .i64 b, .int .i64 c] 76 (0, 0)) := by rw [hw2]; exact heap_at rfl
  have H2 : Hid (Hd W w2 Rs) := hid (by rw [hw2]; exact H.out.al)
  rw [← hw2]
  clear hw2
  generalize w.heap.size = B at *
  have d0 : ∀ x : Later w2, x.w.cell? ⟨B, 0, none⟩ = some (.int .i64 k) := fun x => x.cell (by rw [cell_of_heap hk]; rfl)
  clear hk
  refine wp_region_calm (by kernel_rfl) (by kernel_rfl) ?_
  repeat (go_big_quiet_step (fail))
  refine wpQuiet_nil ?_
  intro w3 hw3
  obtain ⟨⟨w3, hb3⟩, rfl⟩ := hw3
  have H3 := hid (H2.out.still hb3)
  clear d0 H2
  go_wp2_with fail
  go_ret
  exact ⟨rfl, H3.out⟩

/-- What can be made is taken apart. -/
theorem apart_m (k : Int) (s : ByteArray) (n a b c : Int) {x : Int} (hat : At L x ⟨k, s, n, a, b, c⟩) (ok : MdOk L N es cs) (hd : Hd W w (Mind hb lb cb pb kb mb N L dh kem es ck cs Rs)) :
    Calls Try.prog 102 #[.pointer (some ⟨hb, 0, none⟩), .agg #[.int .i64 k, .string s, .int .u64 n, .int .i64 a, .int .i64 b, .int .i64 c]] w fun e w' => e = .returned (.bool (apt cs ⟨k, s, n, a, b, c⟩).1) ∧ Hd W w' (Mind hb lb cb pb kb mb N L dh kem es ck (apt cs ⟨k, s, n, a, b, c⟩).2 Rs) := by
  by_cases h11 : k = 11
  · subst h11
    have pa := parts_in ok.good hat (p := a) (by simp [T.parts, many])
    have pb := parts_in ok.good hat (p := b) (by simp [T.parts, many])
    exact apart_pair s n a b c (by omega) pa.2 (by omega) pb.2 ok hd
  · by_cases h10 : k = 10
    · subst h10
      have pa := parts_in ok.good hat (p := a) (by simp [T.parts, many])
      have pc := parts_in ok.good hat (p := c) (by simp [T.parts, many])
      have := apart_seal s n a b c (by omega) pa.2 (by omega) pc.2 ok hd
      by_cases hp : on cs a = true
      · have e : apt cs ⟨10, s, n, a, b, c⟩ = (!on cs c, lrn cs c) := by simp [apt, hp]
        rw [e]
        simpa [hp] using this
      · have e : apt cs ⟨10, s, n, a, b, c⟩ = (false, cs) := by simp [apt, hp]
        rw [e]
        simpa [hp] using this
    · have e : apt cs ⟨k, s, n, a, b, c⟩ = (false, cs) := by simp [apt, h11, h10]
      rw [e]
      exact apart_none k s n a b c h11 h10 hd
end
end Go.Proofs.Ytbaliaodioflfaa
