/- The generator of two tasks. No condition but on sizes. -/
import Derived.Test.YthfhlcmgeacddaaTy
import Derived.Test.YthfhlcmgeacddaaVb
namespace Go.Proofs.Ythfhlcmgeacddaa
open Go.RowKit
/-- two tasks in new memory -/
def GenTT (w : World) (e : Ending) (w' : World) : Prop :=
  ∃ (i j : Int) (A : Option Addr) (c : Nat) (a : List Int) (B : Option Addr) (d : Nat) (b : List Int),
    e = .returned (.tuple #[.agg #[.int .i64 i, .slice A a.length c], .agg #[.int .i64 j, .slice B b.length d]]) ∧
    0 ≤ i ∧ i ≤ 100 ∧ 0 ≤ j ∧ j ≤ 100 ∧
    Ints w' w.heap.size w'.heap.size A c a ∧ a.length = 3 ∧ (∀ z, z ∈ a → -1 ≤ z ∧ z ≤ 100) ∧
    Ints w' w.heap.size w'.heap.size B d b ∧ b.length = 3 ∧ (∀ z, z ∈ b → -1 ≤ z ∧ z ≤ 100) ∧ Below w.heap.size w w'
set_option maxHeartbeats 1000000 in
theorem DrawTaskBefore_any (A : Option Addr) (n c : Nat) (w : World) (hA : BytesR w w.heap.size A n) (hc : n ≤ c) (hm : c ≤ maxLen) :
    Calls Try.prog 15 #[.slice A n c] w (GenTT w) := by
  have HA := Lib.hid hA; clear hA
  go_enter Try.func15, Try.ntmps15
  go_wp2_with fail
  obtain ⟨w0, hw0⟩ : ∃ W, W = (w.alloc (.cells #[.int .i64 0, .slice none 0 0] 25)).alloc (.cells #[.int .i64 0, .slice none 0 0] 25) := ⟨_, rfl⟩
  rw [← hw0]
  have HB : Hid (Below w.heap.size w w0) := Lib.hid (by rw [hw0]; exact ((Below.refl _ _).alloc (Nat.le_refl _) _).alloc (by simp) _)
  have HP : Hid (Blk w0 w.heap.size 25 [.int .i64 0, .slice none 0 0]) := Lib.hid (by rw [hw0]; exact (Blk.new w _ _).alloc _)
  have HQ : Hid (Blk w0 (w.heap.size + 1) 25 [.int .i64 0, .slice none 0 0]) := Lib.hid (by rw [hw0]; simpa using Blk.new (w.alloc (.cells #[.int .i64 0, .slice none 0 0] 25)) 25 [.int .i64 0, .slice none 0 0])
  obtain ⟨ha0, hb0⟩ := le_le (show w0.heap.size = w.heap.size + 2 by rw [hw0]; simp)
  clear hw0
  have hbq := HB.out
  first | replace HA := Lib.hid (BytesR.below HA.out hbq (by omega)) | replace HA := Lib.hid (BytesR.below HA.out (Only.below hbq (by omega) (by omega)) (by omega))
  clear hbq
  refine (l6Open_any A n c w0 (HA.out.mono (by omega)) hc hm).mono ?_; rintro e w1 ⟨g, rfl, hg, hR, hb⟩
  have HR := Lib.hid hR; clear hR
  first | replace HP := Lib.hid (Blk.only HP.out hb (by omega)) | replace HP := Lib.hid (Blk.below HP.out hb (by omega))
  first | replace HQ := Lib.hid (Blk.only HQ.out hb (by omega)) | replace HQ := Lib.hid (Blk.below HQ.out hb (by omega))
  first | replace HB := Lib.hid (Below.trans HB.out (Below.mono hb (by omega))) | replace HB := Lib.hid (Below.trans HB.out (Only.below hb (by omega) (by omega)))
  have hs1 := hb.size; clear hb
  have HG := Lib.hid HR.out.lt; have hg1 := HG.out
  go_wp2_with fail
  refine (pick_any g 0 9 w1 HR.out (by omega) (by omega)).mono ?_; rintro e w2 ⟨r1, rfl, hr0, hr1, hR, hO, hs⟩
  obtain ⟨hs2, hs2'⟩ := le_le hs; clear hs
  replace HR := Lib.hid hR; clear hR
  first | replace HP := Lib.hid (Blk.only HP.out hO (by omega)) | replace HP := Lib.hid (Blk.below HP.out hO (by omega))
  first | replace HQ := Lib.hid (Blk.only HQ.out hO (by omega)) | replace HQ := Lib.hid (Blk.below HQ.out hO (by omega))
  first | replace HB := Lib.hid (Below.trans HB.out (Below.mono hO (by omega))) | replace HB := Lib.hid (Below.trans HB.out (Only.below hO (by omega) (by omega)))
  clear hO
  have hsum1 : IntKind.i64.wrap (1 + r1) = 1 + r1 := wrap_small (by omega)
  go_wp2_with fail
  refine (l91Task_any g (0 + 1) (1 + r1) w2 HR.out (by omega)).mono ?_; rintro e w3 ⟨A1, c1, a, p3, rfl, hI, hla, hza, hR, hp3, hp3', hO⟩
  replace HR := Lib.hid hR; clear hR
  have HX := Lib.hid hI; clear hI
  have HZ := Lib.hid hza; clear hza
  rw [hla]
  have HLa := Lib.hid hla; clear hla
  first | replace HP := Lib.hid (Blk.only HP.out hO (by omega)) | replace HP := Lib.hid (Blk.below HP.out hO (by omega))
  first | replace HQ := Lib.hid (Blk.only HQ.out hO (by omega)) | replace HQ := Lib.hid (Blk.below HQ.out hO (by omega))
  first | replace HB := Lib.hid (Below.trans HB.out (Below.mono hO (by omega))) | replace HB := Lib.hid (Below.trans HB.out (Only.below hO (by omega) (by omega)))
  have hs3 := hO.size; clear hO
  go_wp2_with fail
  obtain ⟨w4, hw4⟩ : ∃ W, W = w3.alloc (.cells #[.int .i64 (1 + r1), .slice A1 3 c1] 25) := ⟨_, rfl⟩
  rw [← hw4]
  have hb : Below w3.heap.size w3 w4 := by rw [hw4]; exact (Below.refl _ _).alloc (Nat.le_refl _) _
  have HU : Hid (Blk w4 w3.heap.size 25 [.int .i64 (1 + r1), .slice A1 3 c1]) := Lib.hid (by rw [hw4]; exact Blk.new w3 _ _)
  obtain ⟨ha4, hb4⟩ := le_le (show w4.heap.size = w3.heap.size + 1 by rw [hw4]; simp)
  first | replace HP := Lib.hid (Blk.only HP.out hb (by omega)) | replace HP := Lib.hid (Blk.below HP.out hb (by omega))
  first | replace HQ := Lib.hid (Blk.only HQ.out hb (by omega)) | replace HQ := Lib.hid (Blk.below HQ.out hb (by omega))
  first | replace HB := Lib.hid (Below.trans HB.out (Below.mono hb (by omega))) | replace HB := Lib.hid (Below.trans HB.out (Only.below hb (by omega) (by omega)))
  replace HR := Lib.hid (Rd.below HR.out hb (by omega))
  first | replace HX := Lib.hid (Ints.only HX.out hb (by omega) (by omega)) | replace HX := Lib.hid (Ints.below HX.out hb (by omega))
  clear hb hw4
  refine (pick_any g p3 9 w4 HR.out (by omega) (by omega)).mono ?_; rintro e w5 ⟨r2, rfl, hr2, hr3, hR, hO, hs⟩
  obtain ⟨hs5, hs5'⟩ := le_le hs; clear hs
  replace HR := Lib.hid hR; clear hR
  first | replace HP := Lib.hid (Blk.only HP.out hO (by omega)) | replace HP := Lib.hid (Blk.below HP.out hO (by omega))
  first | replace HQ := Lib.hid (Blk.only HQ.out hO (by omega)) | replace HQ := Lib.hid (Blk.below HQ.out hO (by omega))
  first | replace HB := Lib.hid (Below.trans HB.out (Below.mono hO (by omega))) | replace HB := Lib.hid (Below.trans HB.out (Only.below hO (by omega) (by omega)))
  first | replace HX := Lib.hid (Ints.only HX.out hO (by omega) (by omega)) | replace HX := Lib.hid (Ints.below HX.out hO (by omega))
  first | replace HU := Lib.hid (Blk.only HU.out hO (by omega)) | replace HU := Lib.hid (Blk.below HU.out hO (by omega))
  clear hO
  have hsum2 : IntKind.i64.wrap (1 + r2) = 1 + r2 := wrap_small (by omega)
  go_wp2_with fail
  refine (l91Task_any g (p3 + 1) (1 + r2) w5 HR.out (by omega)).mono ?_; rintro e w6 ⟨B1, d1, b, p6, rfl, hI, hlb, hzb, hR, hp6, hp6', hO⟩
  replace HR := Lib.hid hR; clear hR
  have HY := Lib.hid hI; clear hI
  have HT := Lib.hid hzb; clear hzb
  rw [hlb]
  have HLb := Lib.hid hlb; clear hlb
  first | replace HP := Lib.hid (Blk.only HP.out hO (by omega)) | replace HP := Lib.hid (Blk.below HP.out hO (by omega))
  first | replace HQ := Lib.hid (Blk.only HQ.out hO (by omega)) | replace HQ := Lib.hid (Blk.below HQ.out hO (by omega))
  first | replace HB := Lib.hid (Below.trans HB.out (Below.mono hO (by omega))) | replace HB := Lib.hid (Below.trans HB.out (Only.below hO (by omega) (by omega)))
  first | replace HX := Lib.hid (Ints.only HX.out hO (by omega) (by omega)) | replace HX := Lib.hid (Ints.below HX.out hO (by omega))
  first | replace HU := Lib.hid (Blk.only HU.out hO (by omega)) | replace HU := Lib.hid (Blk.below HU.out hO (by omega))
  have hs6 := hO.size; clear hO
  go_wp2_with fail
  obtain ⟨w7, hw7⟩ : ∃ W, W = w6.alloc (.cells #[.int .i64 (1 + r2), .slice B1 3 d1] 25) := ⟨_, rfl⟩
  rw [← hw7]
  have hb : Below w6.heap.size w6 w7 := by rw [hw7]; exact (Below.refl _ _).alloc (Nat.le_refl _) _
  have HV : Hid (Blk w7 w6.heap.size 25 [.int .i64 (1 + r2), .slice B1 3 d1]) := Lib.hid (by rw [hw7]; exact Blk.new w6 _ _)
  obtain ⟨ha7, hb7⟩ := le_le (show w7.heap.size = w6.heap.size + 1 by rw [hw7]; simp)
  first | replace HP := Lib.hid (Blk.only HP.out hb (by omega)) | replace HP := Lib.hid (Blk.below HP.out hb (by omega))
  first | replace HQ := Lib.hid (Blk.only HQ.out hb (by omega)) | replace HQ := Lib.hid (Blk.below HQ.out hb (by omega))
  first | replace HB := Lib.hid (Below.trans HB.out (Below.mono hb (by omega))) | replace HB := Lib.hid (Below.trans HB.out (Only.below hb (by omega) (by omega)))
  replace HR := Lib.hid (Rd.below HR.out hb (by omega))
  first | replace HX := Lib.hid (Ints.only HX.out hb (by omega) (by omega)) | replace HX := Lib.hid (Ints.below HX.out hb (by omega))
  first | replace HU := Lib.hid (Blk.only HU.out hb (by omega)) | replace HU := Lib.hid (Blk.below HU.out hb (by omega))
  first | replace HY := Lib.hid (Ints.only HY.out hb (by omega) (by omega)) | replace HY := Lib.hid (Ints.below HY.out hb (by omega))
  clear hb hw7
  refine (pick_any g p6 4 w7 HR.out (by omega) (by omega)).mono ?_; rintro e w8 ⟨q, rfl, hq0, hq1, hR, hO, hs⟩
  obtain ⟨hs8, hs8'⟩ := le_le hs; clear hs
  replace HR := Lib.hid hR; clear hR
  first | replace HP := Lib.hid (Blk.only HP.out hO (by omega)) | replace HP := Lib.hid (Blk.below HP.out hO (by omega))
  first | replace HQ := Lib.hid (Blk.only HQ.out hO (by omega)) | replace HQ := Lib.hid (Blk.below HQ.out hO (by omega))
  first | replace HB := Lib.hid (Below.trans HB.out (Below.mono hO (by omega))) | replace HB := Lib.hid (Below.trans HB.out (Only.below hO (by omega) (by omega)))
  first | replace HX := Lib.hid (Ints.only HX.out hO (by omega) (by omega)) | replace HX := Lib.hid (Ints.below HX.out hO (by omega))
  first | replace HU := Lib.hid (Blk.only HU.out hO (by omega)) | replace HU := Lib.hid (Blk.below HU.out hO (by omega))
  first | replace HY := Lib.hid (Ints.only HY.out hO (by omega) (by omega)) | replace HY := Lib.hid (Ints.below HY.out hO (by omega))
  first | replace HV := Lib.hid (Blk.only HV.out hO (by omega)) | replace HV := Lib.hid (Blk.below HV.out hO (by omega))
  clear hO
--REST
  by_cases e0 : q = 0
  · subst e0
    have hu1 := HU.out.cell (i := 1) rfl
    have hv1 := HV.out.cell (i := 1) rfl
    have hvf := HV.out.frozen 1
    have hu1' := (HU.out.alloc (.cells #[] 3)).cell (i := 1) rfl
    have hown0 := ownsRow_empty w8 3 1
    have HO0 := Lib.hid hown0; clear hown0
    have hb9 : Below w8.heap.size w8 (w8.alloc (.cells #[] 3)) := (Below.refl _ _).alloc (Nat.le_refl _) _
    have HX9 := Lib.hid (HX.out.below hb9 (by omega))
    have HBq := Lib.hid hb9; clear hb9
    go_wp2_with (at_builtin; refine wpList_appI elI rfl (.tmp 22) (.tmp 24) rfl _ HO0.out A1 3 c1 a rfl rfl HLa.out.symm (HX9.out.r) (by simp) (by omega) ?_; intro A2 c2 w9 hown2 hb2 hg2; have HOW := Lib.hid hown2; have hb3 := HBq.out.trans hb2; have hs9 := hb3.size; clear hown2 hb2 hg2 HBq HO0 HX9 hu1' hu1; (first | replace HP := Lib.hid (Blk.only HP.out hb3 (by omega)) | replace HP := Lib.hid (Blk.below HP.out hb3 (by omega))); (first | replace HQ := Lib.hid (Blk.only HQ.out hb3 (by omega)) | replace HQ := Lib.hid (Blk.below HQ.out hb3 (by omega))); (first | replace HB := Lib.hid (Below.trans HB.out (Below.mono hb3 (by omega))) | replace HB := Lib.hid (Below.trans HB.out (Only.below hb3 (by omega) (by omega)))); (first | replace HX := Lib.hid (Ints.only HX.out hb3 (by omega) (by omega)) | replace HX := Lib.hid (Ints.below HX.out hb3 (by omega))); (first | replace HU := Lib.hid (Blk.only HU.out hb3 (by omega)) | replace HU := Lib.hid (Blk.below HU.out hb3 (by omega))); (first | replace HY := Lib.hid (Ints.only HY.out hb3 (by omega) (by omega)) | replace HY := Lib.hid (Ints.below HY.out hb3 (by omega))); (first | replace HV := Lib.hid (Blk.only HV.out hb3 (by omega)) | replace HV := Lib.hid (Blk.below HV.out hb3 (by omega))); (replace HR := Lib.hid (Rd.below HR.out hb3 (by omega))); clear hb3; have hv1 := HV.out.cell (i := 1) rfl; have hvf := HV.out.frozen 1)
    obtain ⟨w10, hw10⟩ : ∃ W, W = w9.setCell ⟨w6.heap.size, 1, none⟩ (.slice A2 3 c2) := ⟨_, rfl⟩
    rw [← hw10]
    have hb : Below w6.heap.size w9 w10 := by rw [hw10]; exact (Below.refl _ _).setCell (p := ⟨w6.heap.size, 1, none⟩) (Nat.le_refl _) _
    have hO : Only w6.heap.size (w6.heap.size + 1) w9 w10 := by rw [hw10]; exact (Only.refl _ _ _).setCell (p := ⟨w6.heap.size, 1, none⟩) (Nat.le_refl _) (by simp) _
    obtain ⟨A3, c3, he, hl, hI⟩ := Ints.of_own (ys := a) (by simpa using HOW.out)
    simp only [Value.slice.injEq] at he
    obtain ⟨rfl, -, rfl⟩ := he
    have HY2 := Lib.hid hI; clear hI hl
    have hs10 := hb.size
    have hs10' : w10.heap.size ≤ w9.heap.size := by rw [hw10]; simp [World.setCell]
    replace HV : Hid (Blk w10 w6.heap.size 25 [.int .i64 (1 + r2), .slice A2 3 c2]) := Lib.hid (by rw [hw10]; exact HV.out.set_ 1 (.slice A2 3 c2))
    first | replace HP := Lib.hid (Blk.only HP.out hO (by omega)) | replace HP := Lib.hid (Blk.below HP.out hO (by omega))
    first | replace HQ := Lib.hid (Blk.only HQ.out hO (by omega)) | replace HQ := Lib.hid (Blk.below HQ.out hO (by omega))
    first | replace HB := Lib.hid (Below.trans HB.out (Below.mono hO (by omega))) | replace HB := Lib.hid (Below.trans HB.out (Only.below hO (by omega) (by omega)))
    first | replace HX := Lib.hid (Ints.only HX.out hO (by omega) (by omega)) | replace HX := Lib.hid (Ints.below HX.out hO (by omega))
    first | replace HU := Lib.hid (Blk.only HU.out hO (by omega)) | replace HU := Lib.hid (Blk.below HU.out hO (by omega))
    first | replace HY2 := Lib.hid (Ints.only HY2.out hO (by omega) (by omega)) | replace HY2 := Lib.hid (Ints.below HY2.out hO (by omega))
    replace HR := Lib.hid (Rd.below HR.out hb (by omega))
    clear hb hO hw10 hvf hv1 HOW HY
    have HY := HY2; clear HY2
    refine (pick_any g (p6 + 1) 24 w10 HR.out (by omega) (by omega)).mono ?_; rintro e w11 ⟨q2, rfl, hq20, hq21, hR, hO, hs⟩
    obtain ⟨hs11, hs11'⟩ := le_le hs; clear hs
    replace HR := Lib.hid hR; clear hR
    first | replace HP := Lib.hid (Blk.only HP.out hO (by omega)) | replace HP := Lib.hid (Blk.below HP.out hO (by omega))
    first | replace HQ := Lib.hid (Blk.only HQ.out hO (by omega)) | replace HQ := Lib.hid (Blk.below HQ.out hO (by omega))
    first | replace HB := Lib.hid (Below.trans HB.out (Below.mono hO (by omega))) | replace HB := Lib.hid (Below.trans HB.out (Only.below hO (by omega) (by omega)))
    first | replace HX := Lib.hid (Ints.only HX.out hO (by omega) (by omega)) | replace HX := Lib.hid (Ints.below HX.out hO (by omega))
    first | replace HU := Lib.hid (Blk.only HU.out hO (by omega)) | replace HU := Lib.hid (Blk.below HU.out hO (by omega))
    first | replace HY := Lib.hid (Ints.only HY.out hO (by omega) (by omega)) | replace HY := Lib.hid (Ints.below HY.out hO (by omega))
    first | replace HV := Lib.hid (Blk.only HV.out hO (by omega)) | replace HV := Lib.hid (Blk.below HV.out hO (by omega))
    clear hO
    by_cases e1 : q2 = 0
    · subst e1
      have hu0 := HU.out.cell (i := 0) rfl
      have huf := HU.out.frozen 0
      go_wp2_with fail
      obtain ⟨w12, hw12⟩ : ∃ W, W = w11.setCell ⟨w3.heap.size, 0, none⟩ (.int .i64 0) := ⟨_, rfl⟩
      rw [← hw12]
      have hb : Below w3.heap.size w11 w12 := by rw [hw12]; exact (Below.refl _ _).setCell (p := ⟨w3.heap.size, 0, none⟩) (Nat.le_refl _) _
      have hO : Only w3.heap.size (w3.heap.size + 1) w11 w12 := by rw [hw12]; exact (Only.refl _ _ _).setCell (p := ⟨w3.heap.size, 0, none⟩) (Nat.le_refl _) (by simp) _
      have hs12 := hb.size
      replace HU : Hid (Blk w12 w3.heap.size 25 [.int .i64 0, .slice A1 3 c1]) := Lib.hid (by rw [hw12]; exact HU.out.set_ 0 (.int .i64 0))
      first | replace HP := Lib.hid (Blk.only HP.out hO (by omega)) | replace HP := Lib.hid (Blk.below HP.out hO (by omega))
      first | replace HQ := Lib.hid (Blk.only HQ.out hO (by omega)) | replace HQ := Lib.hid (Blk.below HQ.out hO (by omega))
      first | replace HB := Lib.hid (Below.trans HB.out (Below.mono hO (by omega))) | replace HB := Lib.hid (Below.trans HB.out (Only.below hO (by omega) (by omega)))
      first | replace HX := Lib.hid (Ints.only HX.out hO (by omega) (by omega)) | replace HX := Lib.hid (Ints.below HX.out hO (by omega))
      first | replace HY := Lib.hid (Ints.only HY.out hO (by omega) (by omega)) | replace HY := Lib.hid (Ints.below HY.out hO (by omega))
      first | replace HV := Lib.hid (Blk.only HV.out hO (by omega)) | replace HV := Lib.hid (Blk.below HV.out hO (by omega))
      replace HR := Lib.hid (Rd.below HR.out hb (by omega))
      clear hb hO hw12 huf hu0
      have hi0 : (0 : Int) ≤ 0 ∧ (0 : Int) ≤ 100 := by omega
      have hu0 := HU.out.cell (i := 0) rfl
      have hu1 := HU.out.cell (i := 1) rfl
      have hv0 := HV.out.cell (i := 0) rfl
      have hv1 := HV.out.cell (i := 1) rfl
      have hp0 := HP.out.cell (i := 0) rfl
      have hp1 := HP.out.cell (i := 1) rfl
      have hq0 := HQ.out.cell (i := 0) rfl
      have hq1 := HQ.out.cell (i := 1) rfl
      have hpf0 := HP.out.frozen 0
      have hpf1 := HP.out.frozen 1
      have hqf0 := HQ.out.frozen 0
      have hqf1 := HQ.out.frozen 1
      have hn1 : w3.heap.size ≠ w.heap.size := by omega
      have hn2 : w3.heap.size ≠ w.heap.size + 1 := by omega
      have hn3 : w6.heap.size ≠ w.heap.size := by omega
      have hn4 : w6.heap.size ≠ w.heap.size + 1 := by omega
      go_wp2_with fail
      go_region
      obtain ⟨wf, hwf⟩ : ∃ W, W = ((((w12.setCell ⟨w.heap.size, 0, none⟩ (.int .i64 0)).setCell ⟨w.heap.size, 1, none⟩ (.slice A1 3 c1)).setCell ⟨w.heap.size + 1, 0, none⟩ (.int .i64 (1 + r2))).setCell ⟨w.heap.size + 1, 1, none⟩ (.slice A2 3 c2)).drew := ⟨_, rfl⟩
      rw [← hwf]
      have HPf : Blk wf w.heap.size 25 [.int .i64 0, .slice A1 3 c1] := by rw [hwf]; exact ((((HP.out.set_ 0 (.int .i64 0)).set_ 1 (.slice A1 3 c1)).far (by simp) _).far (by simp) _).drew
      have HQf : Blk wf (w.heap.size + 1) 25 [.int .i64 (1 + r2), .slice A2 3 c2] := by rw [hwf]; exact ((((HQ.out.far (by simp) _).far (by simp) _).set_ 0 (.int .i64 (1 + r2))).set_ 1 (.slice A2 3 c2)).drew
      have hO : Only w.heap.size (w.heap.size + 2) w12 wf := by rw [hwf]; exact (((((Only.refl _ _ _).setCell (p := ⟨w.heap.size, 0, none⟩) (Nat.le_refl _) (by simp) _).setCell (p := ⟨w.heap.size, 1, none⟩) (Nat.le_refl _) (by simp) _).setCell (p := ⟨w.heap.size + 1, 0, none⟩) (by simp) (by simp) _).setCell (p := ⟨w.heap.size + 1, 1, none⟩) (by simp) (by simp) _).drew
      have hsf := hO.size
      first | replace HX := Lib.hid (Ints.only HX.out hO (by omega) (by omega)) | replace HX := Lib.hid (Ints.below HX.out hO (by omega))
      first | replace HY := Lib.hid (Ints.only HY.out hO (by omega) (by omega)) | replace HY := Lib.hid (Ints.below HY.out hO (by omega))
      first | replace HB := Lib.hid (Below.trans HB.out (Below.mono hO (by omega))) | replace HB := Lib.hid (Below.trans HB.out (Only.below hO (by omega) (by omega)))
      clear hwf hO
      go_wp2_with fail
      have hf0 := HPf.cell (i := 0) rfl
      have hf1 := HPf.cell (i := 1) rfl
      have hf2 := HQf.cell (i := 0) rfl
      have hf3 := HQf.cell (i := 1) rfl
      refine bodyPost_ret (v := .tuple #[.agg #[.int .i64 0, .slice A1 3 c1], .agg #[.int .i64 (1 + r2), .slice A2 3 c2]]) (by simp [results, Try.results15, go_sem, hf0, hf1, hf2, hf3]) rfl ?_
      exact ⟨0, 1 + r2, A1, c1, a, A2, c2, a, by first | rw [HLa.out, HLa.out] | rw [HLa.out], hi0.1, hi0.2, by omega, by omega, HX.out.mono (by omega) (by omega), HLa.out, HZ.out, HY.out.mono (by omega) (by omega), HLa.out, HZ.out, HB.out⟩
    · have hq2' : (q2 == 0) = false := by simp; omega
      have hi0 : (0 : Int) ≤ 1 + r1 ∧ 1 + r1 ≤ 100 := by omega
      have hu0 := HU.out.cell (i := 0) rfl
      have hu1 := HU.out.cell (i := 1) rfl
      have hv0 := HV.out.cell (i := 0) rfl
      have hv1 := HV.out.cell (i := 1) rfl
      have hp0 := HP.out.cell (i := 0) rfl
      have hp1 := HP.out.cell (i := 1) rfl
      have hq0 := HQ.out.cell (i := 0) rfl
      have hq1 := HQ.out.cell (i := 1) rfl
      have hpf0 := HP.out.frozen 0
      have hpf1 := HP.out.frozen 1
      have hqf0 := HQ.out.frozen 0
      have hqf1 := HQ.out.frozen 1
      have hn1 : w3.heap.size ≠ w.heap.size := by omega
      have hn2 : w3.heap.size ≠ w.heap.size + 1 := by omega
      have hn3 : w6.heap.size ≠ w.heap.size := by omega
      have hn4 : w6.heap.size ≠ w.heap.size + 1 := by omega
      go_wp2_with fail
      go_region
      obtain ⟨wf, hwf⟩ : ∃ W, W = ((((w11.setCell ⟨w.heap.size, 0, none⟩ (.int .i64 (1 + r1))).setCell ⟨w.heap.size, 1, none⟩ (.slice A1 3 c1)).setCell ⟨w.heap.size + 1, 0, none⟩ (.int .i64 (1 + r2))).setCell ⟨w.heap.size + 1, 1, none⟩ (.slice A2 3 c2)).drew := ⟨_, rfl⟩
      rw [← hwf]
      have HPf : Blk wf w.heap.size 25 [.int .i64 (1 + r1), .slice A1 3 c1] := by rw [hwf]; exact ((((HP.out.set_ 0 (.int .i64 (1 + r1))).set_ 1 (.slice A1 3 c1)).far (by simp) _).far (by simp) _).drew
      have HQf : Blk wf (w.heap.size + 1) 25 [.int .i64 (1 + r2), .slice A2 3 c2] := by rw [hwf]; exact ((((HQ.out.far (by simp) _).far (by simp) _).set_ 0 (.int .i64 (1 + r2))).set_ 1 (.slice A2 3 c2)).drew
      have hO : Only w.heap.size (w.heap.size + 2) w11 wf := by rw [hwf]; exact (((((Only.refl _ _ _).setCell (p := ⟨w.heap.size, 0, none⟩) (Nat.le_refl _) (by simp) _).setCell (p := ⟨w.heap.size, 1, none⟩) (Nat.le_refl _) (by simp) _).setCell (p := ⟨w.heap.size + 1, 0, none⟩) (by simp) (by simp) _).setCell (p := ⟨w.heap.size + 1, 1, none⟩) (by simp) (by simp) _).drew
      have hsf := hO.size
      first | replace HX := Lib.hid (Ints.only HX.out hO (by omega) (by omega)) | replace HX := Lib.hid (Ints.below HX.out hO (by omega))
      first | replace HY := Lib.hid (Ints.only HY.out hO (by omega) (by omega)) | replace HY := Lib.hid (Ints.below HY.out hO (by omega))
      first | replace HB := Lib.hid (Below.trans HB.out (Below.mono hO (by omega))) | replace HB := Lib.hid (Below.trans HB.out (Only.below hO (by omega) (by omega)))
      clear hwf hO
      go_wp2_with fail
      have hf0 := HPf.cell (i := 0) rfl
      have hf1 := HPf.cell (i := 1) rfl
      have hf2 := HQf.cell (i := 0) rfl
      have hf3 := HQf.cell (i := 1) rfl
      refine bodyPost_ret (v := .tuple #[.agg #[.int .i64 (1 + r1), .slice A1 3 c1], .agg #[.int .i64 (1 + r2), .slice A2 3 c2]]) (by simp [results, Try.results15, go_sem, hf0, hf1, hf2, hf3]) rfl ?_
      exact ⟨(1 + r1), 1 + r2, A1, c1, a, A2, c2, a, by first | rw [HLa.out, HLa.out] | rw [HLa.out], hi0.1, hi0.2, by omega, by omega, HX.out.mono (by omega) (by omega), HLa.out, HZ.out, HY.out.mono (by omega) (by omega), HLa.out, HZ.out, HB.out⟩
  · have hq' : (q == 0) = false := by simp; omega
    go_wp2_with fail
    refine (pick_any g (p6 + 1) 24 w8 HR.out (by omega) (by omega)).mono ?_; rintro e w11 ⟨q2, rfl, hq20, hq21, hR, hO, hs⟩
    obtain ⟨hs11, hs11'⟩ := le_le hs; clear hs
    replace HR := Lib.hid hR; clear hR
    first | replace HP := Lib.hid (Blk.only HP.out hO (by omega)) | replace HP := Lib.hid (Blk.below HP.out hO (by omega))
    first | replace HQ := Lib.hid (Blk.only HQ.out hO (by omega)) | replace HQ := Lib.hid (Blk.below HQ.out hO (by omega))
    first | replace HB := Lib.hid (Below.trans HB.out (Below.mono hO (by omega))) | replace HB := Lib.hid (Below.trans HB.out (Only.below hO (by omega) (by omega)))
    first | replace HX := Lib.hid (Ints.only HX.out hO (by omega) (by omega)) | replace HX := Lib.hid (Ints.below HX.out hO (by omega))
    first | replace HU := Lib.hid (Blk.only HU.out hO (by omega)) | replace HU := Lib.hid (Blk.below HU.out hO (by omega))
    first | replace HY := Lib.hid (Ints.only HY.out hO (by omega) (by omega)) | replace HY := Lib.hid (Ints.below HY.out hO (by omega))
    first | replace HV := Lib.hid (Blk.only HV.out hO (by omega)) | replace HV := Lib.hid (Blk.below HV.out hO (by omega))
    clear hO
    by_cases e1 : q2 = 0
    · subst e1
      have hu0 := HU.out.cell (i := 0) rfl
      have huf := HU.out.frozen 0
      go_wp2_with fail
      obtain ⟨w12, hw12⟩ : ∃ W, W = w11.setCell ⟨w3.heap.size, 0, none⟩ (.int .i64 0) := ⟨_, rfl⟩
      rw [← hw12]
      have hb : Below w3.heap.size w11 w12 := by rw [hw12]; exact (Below.refl _ _).setCell (p := ⟨w3.heap.size, 0, none⟩) (Nat.le_refl _) _
      have hO : Only w3.heap.size (w3.heap.size + 1) w11 w12 := by rw [hw12]; exact (Only.refl _ _ _).setCell (p := ⟨w3.heap.size, 0, none⟩) (Nat.le_refl _) (by simp) _
      have hs12 := hb.size
      replace HU : Hid (Blk w12 w3.heap.size 25 [.int .i64 0, .slice A1 3 c1]) := Lib.hid (by rw [hw12]; exact HU.out.set_ 0 (.int .i64 0))
      first | replace HP := Lib.hid (Blk.only HP.out hO (by omega)) | replace HP := Lib.hid (Blk.below HP.out hO (by omega))
      first | replace HQ := Lib.hid (Blk.only HQ.out hO (by omega)) | replace HQ := Lib.hid (Blk.below HQ.out hO (by omega))
      first | replace HB := Lib.hid (Below.trans HB.out (Below.mono hO (by omega))) | replace HB := Lib.hid (Below.trans HB.out (Only.below hO (by omega) (by omega)))
      first | replace HX := Lib.hid (Ints.only HX.out hO (by omega) (by omega)) | replace HX := Lib.hid (Ints.below HX.out hO (by omega))
      first | replace HY := Lib.hid (Ints.only HY.out hO (by omega) (by omega)) | replace HY := Lib.hid (Ints.below HY.out hO (by omega))
      first | replace HV := Lib.hid (Blk.only HV.out hO (by omega)) | replace HV := Lib.hid (Blk.below HV.out hO (by omega))
      replace HR := Lib.hid (Rd.below HR.out hb (by omega))
      clear hb hO hw12 huf hu0
      have hi0 : (0 : Int) ≤ 0 ∧ (0 : Int) ≤ 100 := by omega
      have hu0 := HU.out.cell (i := 0) rfl
      have hu1 := HU.out.cell (i := 1) rfl
      have hv0 := HV.out.cell (i := 0) rfl
      have hv1 := HV.out.cell (i := 1) rfl
      have hp0 := HP.out.cell (i := 0) rfl
      have hp1 := HP.out.cell (i := 1) rfl
      have hq0 := HQ.out.cell (i := 0) rfl
      have hq1 := HQ.out.cell (i := 1) rfl
      have hpf0 := HP.out.frozen 0
      have hpf1 := HP.out.frozen 1
      have hqf0 := HQ.out.frozen 0
      have hqf1 := HQ.out.frozen 1
      have hn1 : w3.heap.size ≠ w.heap.size := by omega
      have hn2 : w3.heap.size ≠ w.heap.size + 1 := by omega
      have hn3 : w6.heap.size ≠ w.heap.size := by omega
      have hn4 : w6.heap.size ≠ w.heap.size + 1 := by omega
      go_wp2_with fail
      go_region
      obtain ⟨wf, hwf⟩ : ∃ W, W = ((((w12.setCell ⟨w.heap.size, 0, none⟩ (.int .i64 0)).setCell ⟨w.heap.size, 1, none⟩ (.slice A1 3 c1)).setCell ⟨w.heap.size + 1, 0, none⟩ (.int .i64 (1 + r2))).setCell ⟨w.heap.size + 1, 1, none⟩ (.slice B1 3 d1)).drew := ⟨_, rfl⟩
      rw [← hwf]
      have HPf : Blk wf w.heap.size 25 [.int .i64 0, .slice A1 3 c1] := by rw [hwf]; exact ((((HP.out.set_ 0 (.int .i64 0)).set_ 1 (.slice A1 3 c1)).far (by simp) _).far (by simp) _).drew
      have HQf : Blk wf (w.heap.size + 1) 25 [.int .i64 (1 + r2), .slice B1 3 d1] := by rw [hwf]; exact ((((HQ.out.far (by simp) _).far (by simp) _).set_ 0 (.int .i64 (1 + r2))).set_ 1 (.slice B1 3 d1)).drew
      have hO : Only w.heap.size (w.heap.size + 2) w12 wf := by rw [hwf]; exact (((((Only.refl _ _ _).setCell (p := ⟨w.heap.size, 0, none⟩) (Nat.le_refl _) (by simp) _).setCell (p := ⟨w.heap.size, 1, none⟩) (Nat.le_refl _) (by simp) _).setCell (p := ⟨w.heap.size + 1, 0, none⟩) (by simp) (by simp) _).setCell (p := ⟨w.heap.size + 1, 1, none⟩) (by simp) (by simp) _).drew
      have hsf := hO.size
      first | replace HX := Lib.hid (Ints.only HX.out hO (by omega) (by omega)) | replace HX := Lib.hid (Ints.below HX.out hO (by omega))
      first | replace HY := Lib.hid (Ints.only HY.out hO (by omega) (by omega)) | replace HY := Lib.hid (Ints.below HY.out hO (by omega))
      first | replace HB := Lib.hid (Below.trans HB.out (Below.mono hO (by omega))) | replace HB := Lib.hid (Below.trans HB.out (Only.below hO (by omega) (by omega)))
      clear hwf hO
      go_wp2_with fail
      have hf0 := HPf.cell (i := 0) rfl
      have hf1 := HPf.cell (i := 1) rfl
      have hf2 := HQf.cell (i := 0) rfl
      have hf3 := HQf.cell (i := 1) rfl
      refine bodyPost_ret (v := .tuple #[.agg #[.int .i64 0, .slice A1 3 c1], .agg #[.int .i64 (1 + r2), .slice B1 3 d1]]) (by simp [results, Try.results15, go_sem, hf0, hf1, hf2, hf3]) rfl ?_
      exact ⟨0, 1 + r2, A1, c1, a, B1, d1, b, by first | rw [HLa.out, HLb.out] | rw [HLa.out], hi0.1, hi0.2, by omega, by omega, HX.out.mono (by omega) (by omega), HLa.out, HZ.out, HY.out.mono (by omega) (by omega), HLb.out, HT.out, HB.out⟩
    · have hq2' : (q2 == 0) = false := by simp; omega
      have hi0 : (0 : Int) ≤ 1 + r1 ∧ 1 + r1 ≤ 100 := by omega
      have hu0 := HU.out.cell (i := 0) rfl
      have hu1 := HU.out.cell (i := 1) rfl
      have hv0 := HV.out.cell (i := 0) rfl
      have hv1 := HV.out.cell (i := 1) rfl
      have hp0 := HP.out.cell (i := 0) rfl
      have hp1 := HP.out.cell (i := 1) rfl
      have hq0 := HQ.out.cell (i := 0) rfl
      have hq1 := HQ.out.cell (i := 1) rfl
      have hpf0 := HP.out.frozen 0
      have hpf1 := HP.out.frozen 1
      have hqf0 := HQ.out.frozen 0
      have hqf1 := HQ.out.frozen 1
      have hn1 : w3.heap.size ≠ w.heap.size := by omega
      have hn2 : w3.heap.size ≠ w.heap.size + 1 := by omega
      have hn3 : w6.heap.size ≠ w.heap.size := by omega
      have hn4 : w6.heap.size ≠ w.heap.size + 1 := by omega
      go_wp2_with fail
      go_region
      obtain ⟨wf, hwf⟩ : ∃ W, W = ((((w11.setCell ⟨w.heap.size, 0, none⟩ (.int .i64 (1 + r1))).setCell ⟨w.heap.size, 1, none⟩ (.slice A1 3 c1)).setCell ⟨w.heap.size + 1, 0, none⟩ (.int .i64 (1 + r2))).setCell ⟨w.heap.size + 1, 1, none⟩ (.slice B1 3 d1)).drew := ⟨_, rfl⟩
      rw [← hwf]
      have HPf : Blk wf w.heap.size 25 [.int .i64 (1 + r1), .slice A1 3 c1] := by rw [hwf]; exact ((((HP.out.set_ 0 (.int .i64 (1 + r1))).set_ 1 (.slice A1 3 c1)).far (by simp) _).far (by simp) _).drew
      have HQf : Blk wf (w.heap.size + 1) 25 [.int .i64 (1 + r2), .slice B1 3 d1] := by rw [hwf]; exact ((((HQ.out.far (by simp) _).far (by simp) _).set_ 0 (.int .i64 (1 + r2))).set_ 1 (.slice B1 3 d1)).drew
      have hO : Only w.heap.size (w.heap.size + 2) w11 wf := by rw [hwf]; exact (((((Only.refl _ _ _).setCell (p := ⟨w.heap.size, 0, none⟩) (Nat.le_refl _) (by simp) _).setCell (p := ⟨w.heap.size, 1, none⟩) (Nat.le_refl _) (by simp) _).setCell (p := ⟨w.heap.size + 1, 0, none⟩) (by simp) (by simp) _).setCell (p := ⟨w.heap.size + 1, 1, none⟩) (by simp) (by simp) _).drew
      have hsf := hO.size
      first | replace HX := Lib.hid (Ints.only HX.out hO (by omega) (by omega)) | replace HX := Lib.hid (Ints.below HX.out hO (by omega))
      first | replace HY := Lib.hid (Ints.only HY.out hO (by omega) (by omega)) | replace HY := Lib.hid (Ints.below HY.out hO (by omega))
      first | replace HB := Lib.hid (Below.trans HB.out (Below.mono hO (by omega))) | replace HB := Lib.hid (Below.trans HB.out (Only.below hO (by omega) (by omega)))
      clear hwf hO
      go_wp2_with fail
      have hf0 := HPf.cell (i := 0) rfl
      have hf1 := HPf.cell (i := 1) rfl
      have hf2 := HQf.cell (i := 0) rfl
      have hf3 := HQf.cell (i := 1) rfl
      refine bodyPost_ret (v := .tuple #[.agg #[.int .i64 (1 + r1), .slice A1 3 c1], .agg #[.int .i64 (1 + r2), .slice B1 3 d1]]) (by simp [results, Try.results15, go_sem, hf0, hf1, hf2, hf3]) rfl ?_
      exact ⟨(1 + r1), 1 + r2, A1, c1, a, B1, d1, b, by first | rw [HLa.out, HLb.out] | rw [HLa.out], hi0.1, hi0.2, by omega, by omega, HX.out.mono (by omega) (by omega), HLa.out, HZ.out, HY.out.mono (by omega) (by omega), HLb.out, HT.out, HB.out⟩
end Go.Proofs.Ythfhlcmgeacddaa
