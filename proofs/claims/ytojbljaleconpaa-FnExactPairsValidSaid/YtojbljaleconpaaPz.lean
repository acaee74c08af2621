/- Helpers of the exact statement on pairs: szPairS, toPair, toPairS, eqPair, eqPairS. No condition but on sizes. -/
import Derived.Test.YtojbljaleconpaaPr
import Derived.Test.YtojbljaleconpaaTy
import Derived.Test.YtojbljaleconpaaBk
namespace Go.Proofs.Ytojbljaleconpaa
open Go.RowKit
/-- a slice of pairs that is only read -/
def PairsR (w : World) (hi : Nat) (A : Option Addr) (ps : List (Int × Int)) : Prop :=
  ps = [] ∨ ∃ b off, A = some ⟨b, off, none⟩ ∧ b < hi ∧ ∀ j p, ps[j]? = some p → w.cell? ⟨b, off + j * 2, none⟩ = some (.int .i64 p.1) ∧ w.cell? ⟨b, off + j * 2 + 1, none⟩ = some (.int .i64 p.2)
section
variable {w w' : World} {hi B lo hi' lo' : Nat} {A : Option Addr} {ps : List (Int × Int)}
theorem PairsR.at_ (h : PairsR w hi A ps) {k : Nat} (hk : k < ps.length) :
    ∃ b off p, A = some ⟨b, off, none⟩ ∧ ps[k]? = some p ∧ w.cell? ⟨b, off + k * 2, none⟩ = some (.int .i64 p.1) ∧ w.cell? ⟨b, off + k * 2 + 1, none⟩ = some (.int .i64 p.2) ∧ b < hi := by
  rcases h with rfl | ⟨b, off, h1, h2, h3⟩
  · simp at hk
  · have hp : ps[k]? = some ps[k] := List.getElem?_eq_getElem hk
    exact ⟨b, off, _, h1, hp, (h3 _ _ hp).1, (h3 _ _ hp).2, h2⟩
theorem PairsR.below (h : PairsR w hi A ps) (hb : Below B w w') (hB : hi ≤ B) : PairsR w' hi A ps := by
  rcases h with h | ⟨b, off, h1, h2, h3⟩
  · exact .inl h
  · exact .inr ⟨b, off, h1, h2, fun j p hj => by rw [hb.cell (show b < B by omega), hb.cell (show b < B by omega)]; exact h3 j p hj⟩
end
theorem prow_set2 {ps : List (Int × Int)} {k : Nat} (hk : k < ps.length) (p : Int × Int) : ((prow ps).set (k * 2) (.int .i64 p.1)).set (k * 2 + 1) (.int .i64 p.2) = prow (ps.set k p) := by
  induction ps generalizing k with
  | nil => simp at hk
  | cons q r ih =>
    have e : prow (q :: r) = .int .i64 q.1 :: .int .i64 q.2 :: prow r := rfl
    cases k with
    | zero => rfl
    | succ k =>
      have := ih (k := k) (by simpa using hk)
      rw [e, show (k + 1) * 2 = k * 2 + 1 + 1 by omega, List.set_cons_succ, List.set_cons_succ, List.set_cons_succ, List.set_cons_succ, this, List.set_cons_succ]
      rfl
theorem prow_app (s t : List (Int × Int)) : prow (s ++ t) = prow s ++ prow t := by simp [prow]
theorem madeCells_pairs (n : Nat) : (madeCells (Value.agg #[.int .i64 0, .int .i64 0]).cells (n * 2)).toList = prow (List.replicate n (0, 0)) := by
  have h : ∀ m : Nat, (madeCells (Value.agg #[.int .i64 0, .int .i64 0]).cells m).toList = (List.range m).map (fun x => [Value.int .i64 0, .int .i64 0][x % 2]?.getD default) := by
    intro m; simp [madeCells, Value.cells]
  rw [h]
  induction n with
  | zero => rfl
  | succ n ih =>
    rw [show (n + 1) * 2 = n * 2 + 1 + 1 by omega, List.range_succ, List.range_succ, List.map_append, List.map_append, ih, List.replicate_succ', prow_app]
    have e1 : (n * 2) % 2 = 0 := by omega
    have e2 : (n * 2 + 1) % 2 = 1 := by omega
    simp [e1, e2, prow, pairCells]
theorem szPairS_any (A : Option Addr) (n c : Nat) (left : Int) (w : World) (hl : 0 ≤ left ∧ left ≤ 1048576) (hn : n ≤ maxLen) :
    Calls Try.prog 26 #[.slice A n c, .int .i64 left] w fun e w' => ∃ u : Int, e = .returned (.int .i64 u) ∧ (0 ≤ u → (n : Int) ≤ left) ∧ w = w' := by
  have hn' : n ≤ 9223372036854775807 := by simpa [maxLen] using hn
  have hwr : IntKind.i64.wrap (left - (n : Int)) = left - n := by rw [IntKind.wrap_i64]; omega
  clear hn
  by_cases h : left - (n : Int) < 0
  · go_enter Try.func26, Try.ntmps26
    go_wp2_with fail
    go_ret
    exact ⟨-1, by simp, by omega, rfl⟩
  · go_enter Try.func26, Try.ntmps26
    go_wp2_with fail
    go_ret
    exact ⟨left - n, by simp, by omega, rfl⟩
theorem toPair_any (i j : Int) (w : World) :
    Calls Try.prog 55 #[.agg #[.int .i64 i, .int .i64 j]] w fun e w' => e = .returned (.agg #[.int .i64 i, .int .i64 j]) ∧ Below w.heap.size w w' := by
  go_enter Try.func55, Try.ntmps55
  go_wp2_with fail
  obtain ⟨wf, hwf⟩ : ∃ W, W = ((w.alloc (.cells #[.int .i64 i, .int .i64 j] 76)).alloc (.cells #[.int .i64 i, .int .i64 j] 74)).alloc (.cells #[.int .i64 i, .int .i64 j] 74) := ⟨_, rfl⟩
  rw [← hwf]
  have hb : Below w.heap.size w wf := by rw [hwf]; exact (((Below.refl _ _).alloc (Nat.le_refl _) _).alloc (by simp) _).alloc (by simp; omega) _
  have HP : Blk wf (w.heap.size + 1) 74 [.int .i64 i, .int .i64 j] := by
    rw [hwf]
    refine Blk.alloc ?_ _
    simpa using Blk.new (w.alloc (.cells #[.int .i64 i, .int .i64 j] 76)) 74 [.int .i64 i, .int .i64 j]
  have hf0 := HP.cell (i := 0) rfl
  have hf1 := HP.cell (i := 1) rfl
  refine bodyPost_ret (v := .agg #[.int .i64 i, .int .i64 j]) (by simp [results, Try.results55, go_sem, hf0, hf1]) rfl ?_
  exact ⟨rfl, hb⟩
theorem eqPair_eq (i j : Int) (w : World) :
    Calls Try.prog 58 #[.agg #[.int .i64 i, .int .i64 j], .agg #[.int .i64 i, .int .i64 j]] w fun e w' => e = .returned (.bool true) ∧ Below w.heap.size w w' := by
  go_enter Try.func58, Try.ntmps58
  go_wp2_with fail
  go_ret
  exact ⟨by simp, ((Below.refl _ _).alloc (Nat.le_refl _) _).alloc (by simp) _⟩
/-- pairs in new memory -/
def RetPs (w : World) (ps : List (Int × Int)) (e : Ending) (w' : World) : Prop :=
  ∃ A c, e = .returned (.slice A ps.length c) ∧ Pairs w' w.heap.size w'.heap.size A c ps ∧ Below w.heap.size w w'
theorem toPairS_any (A : Option Addr) (c hi : Nat) (ts : List (Int × Int)) (w : World) (hA : PairsR w hi A ts) (hl : ts.length ≤ 1048576) (h1 : hi ≤ w.heap.size) :
    Calls Try.prog 28 #[.slice A ts.length c] w (RetPs w ts) := by
  have HA := Lib.hid hA; clear hA
  have hmk : ∀ W : World, (Instr.makeSlice 38 (.int .i64 (ts.length : Int)) (.int .i64 (ts.length : Int))).run Try.prog W = .ok (.slice (some ⟨W.heap.size, 0, none⟩) ts.length ts.length) (W.alloc (.cells (madeCells (Value.agg #[.int .i64 0, .int .i64 0]).cells (ts.length * 2)) 74)) := by
    intro W
    obtain ⟨i1, j1, j2, j3, j4⟩ := info_parts (P := Try.prog) (e := 74) (z := .agg #[.int .i64 0, .int .i64 0]) (size := 2) (bytes := 16) (by kernel_rfl)
    have := run_make (P := Try.prog) W 38 74 i1 (.agg #[.int .i64 0, .int .i64 0]) Try.underlying38 j1 j2 .i64 .i64 (ts.length : Int) (ts.length : Int) (by omega) (Int.le_refl _) (by rw [j4]; omega) (by omega)
    rw [j3] at this
    simpa using this
  go_enter Try.func28, Try.ntmps28
  go_wp2_with fail
  clear hmk
  go_loopw [4] (fun i wr => ∃ k : Nat, ∃ us : List (Int × Int), k ≤ ts.length ∧ i = .int .i64 k ∧ us.length = ts.length ∧ wr.ownsRow w.heap.size 74 2 (.slice (some ⟨w.heap.size, 0, none⟩) ts.length ts.length) ts.length (prow us) ∧
      (∀ j, j < k → us[j]? = ts[j]?) ∧ Below w.heap.size w wr) (fun i _ => ts.length - (intOf i).toNat)
  case atStart =>
    refine ⟨0, List.replicate ts.length (0, 0), by omega, rfl, by simp, ?_, fun j hj => by omega, (Below.refl _ _).alloc (Nat.le_refl _) _⟩
    rw [← madeCells_pairs]
    exact World.ownsRow_lit w _ _ (Nat.le_refl _) (by simp only [maxLen]; omega) (by simp [size_madeCells])
  case round =>
    obtain ⟨k, us, hk, rfl, hul, hown, hfill, hbl⟩ := hrel
    have HO := Lib.hid hown; clear hown
    have HBl := Lib.hid hbl; clear hbl
    have HF := Lib.hid hfill; clear hfill
    have HUL := Lib.hid hul; clear hul
    have hsz := HBl.out.size
    by_cases hlt : k < ts.length
    · obtain ⟨b, off, t, rfl, ht, hc1, hc2, hbh⟩ := (HA.out.below HBl.out h1).at_ hlt
      have HT := Lib.hid ht
      clear ht
      have hklt : (k : Int) < ts.length := by omega
      obtain ⟨w1, hw1⟩ : ∃ W, W = wr := ⟨_, rfl⟩
      rw [← hw1] at HO HBl hc1 hc2 hsz ⊢
      clear hw1
      go_wp2_with fail
      refine (toPair_any t.1 t.2 w1).mono ?_; rintro e w2 ⟨rfl, hb⟩
      have hs2 := hb.size
      replace HBl := Lib.hid (HBl.out.trans (hb.mono hsz))
      replace HO := Lib.hid (ownsRow_below HO.out hb)
      clear hb hc1 hc2
      have hku : k < us.length := by rw [HUL.out]; exact hlt
      obtain ⟨u0, hu0⟩ : ∃ u0, us[k]? = some u0 := ⟨_, List.getElem?_eq_getElem hku⟩
      have hd0 := HO.out.cellAt (k * 2) (by omega)
      rw [(prow_at hu0).1] at hd0
      have hd1 := HO.out.cellAt (k * 2 + 1) (by omega)
      rw [(prow_at hu0).2] at hd1
      have hf0 := HO.out.frozenAt (k * 2)
      have hf1 := HO.out.frozenAt (k * 2 + 1)
      clear hu0
      have hst := (HO.out.stored (k * 2) (.int .i64 t.1)).1
      have hst2 := (hst.stored (k * 2 + 1) (.int .i64 t.2)).1
      rw [prow_set2 hku t] at hst2
      have HST := Lib.hid hst2
      clear hst hst2
      go_wp2_with fail
      obtain ⟨w3, hw3⟩ : ∃ W, W = (w2.setCell ⟨w.heap.size, k * 2, none⟩ (.int .i64 t.1)).setCell ⟨w.heap.size, k * 2 + 1, none⟩ (.int .i64 t.2) := ⟨_, rfl⟩
      have hb3 : Below w.heap.size w2 w3 := by rw [hw3]; exact ((Below.refl _ _).setCell (p := ⟨w.heap.size, k * 2, none⟩) (Nat.le_refl _) _).setCell (p := ⟨w.heap.size, k * 2 + 1, none⟩) (Nat.le_refl _) _
      replace HST := HST.out
      rw [← hw3] at HST ⊢
      clear hw3
      refine ⟨⟨k + 1, us.set k t, by omega, by go_num, by simp [HUL.out], HST, fun j hj => ?_, HBl.out.trans hb3⟩, by simp [intOf]; omega⟩
      by_cases hjk : j = k
      · subst hjk
        rw [List.getElem?_set_self hku, HT.out]
      · rw [List.getElem?_set_ne (by omega)]; exact HF.out j (by omega)
    · have hm : us = ts := by
        apply List.ext_getElem?
        intro j
        by_cases hj : j < k
        · exact HF.out j hj
        · rw [List.getElem?_eq_none (by rw [HUL.out]; omega), List.getElem?_eq_none (by omega)]
      have hO := HO.out
      rw [hm] at hO
      obtain ⟨A9, c9, he9, hT9⟩ := Cells.of_own hO
      have HE := Lib.hid he9
      have HT9 := Lib.hid hT9
      clear hO he9 hT9 hm
      go_wp2_with fail
      go_ret
      exact ⟨A9, c9, by simpa using HE.out, HT9.out, HBl.out⟩
theorem cell_belowP {B b o : Nat} {w w' : World} {v : Value} (h : Below B w w') (hq : b < B) (hc : w.cell? ⟨b, o, none⟩ = some v) : w'.cell? ⟨b, o, none⟩ = some v := (h.cell (p := ⟨b, o, none⟩) hq).trans hc
theorem eqPairS_eq (A B : Option Addr) (c d hi hi' : Nat) (ts : List (Int × Int)) (w : World) (hA : PairsR w hi A ts) (hB : PairsR w hi' B ts) (hl : ts.length ≤ 1048576) (h1 : hi ≤ w.heap.size) (h2 : hi' ≤ w.heap.size) :
    Calls Try.prog 30 #[.slice A ts.length c, .slice B ts.length d] w fun e w' => e = .returned (.bool true) ∧ Below w.heap.size w w' := by
  have HA := Lib.hid hA; clear hA
  have HC := Lib.hid hB; clear hB
  go_enter Try.func30, Try.ntmps30
  go_wp2_with fail
  go_loopw [5] (fun i wr => ∃ k : Nat, k ≤ ts.length ∧ i = .int .i64 k ∧ Below w.heap.size w wr) (fun i _ => ts.length - (intOf i).toNat)
  case atStart => exact ⟨0, by omega, rfl, Below.refl _ _⟩
  case round =>
    obtain ⟨k, hk, rfl, hb⟩ := hrel
    have hs := hb.size
    have HB := Lib.hid hb
    replace HA := Lib.hid (HA.out.below hb h1)
    replace HC := Lib.hid (HC.out.below hb h2)
    clear hb
    by_cases hlt : k < ts.length
    · obtain ⟨b1, off1, t, rfl, ht, hc1, hc2, hbh1⟩ := HA.out.at_ hlt
      obtain ⟨b2, off2, u, rfl, hu, hd1, hd2, hbh2⟩ := HC.out.at_ hlt
      have htu : u = t := by rw [ht] at hu; exact (Option.some.inj hu).symm
      rw [htu] at hd1 hd2
      clear ht hu htu
      have hklt : (k : Int) < ts.length := by omega
      have hq1 : b1 < wr.drew.heap.size := by show b1 < wr.heap.size; omega
      have hq2 : b2 < wr.drew.heap.size := by show b2 < wr.heap.size; omega
      have H9 := Lib.hid (eqPair_eq t.1 t.2 wr.drew)
      go_wp2_with fail
      go_region_held3 (fun w' => w'.cell? ⟨b1, off1 + k * 2, none⟩ = some (.int .i64 t.1) ∧ w'.cell? ⟨b1, off1 + k * 2 + 1, none⟩ = some (.int .i64 t.2) ∧ w'.cell? ⟨b2, off2 + k * 2, none⟩ = some (.int .i64 t.1) ∧ w'.cell? ⟨b2, off2 + k * 2 + 1, none⟩ = some (.int .i64 t.2))
        (go_keep)
        (first | (go_at_call 58; refine H9.out.mono ?_; rintro e w5 ⟨rfl, hb5⟩; have g1 := cell_belowP hb5 hq1 hc1; have g2 := cell_belowP hb5 hq1 hc2; have g3 := cell_belowP hb5 hq2 hd1; have g4 := cell_belowP hb5 hq2 hd2; replace HB := Lib.hid ((Below.drewN HB.out 1).trans (hb5.mono (show w.heap.size ≤ wr.drew.heap.size from hs))); clear hb5))
      go_wp2_with fail
      exact ⟨⟨k + 1, by omega, by go_num, HB.out⟩, by simp [intOf]; omega⟩
    · go_wp2_with fail
      go_ret
      exact ⟨by simp, HB.out⟩
end Go.Proofs.Ytojbljaleconpaa
