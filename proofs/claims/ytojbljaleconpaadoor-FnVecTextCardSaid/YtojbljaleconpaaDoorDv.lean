/- The generators of vectors: they return slices of ints in new memory; what the ints are is not asked. No condition but on sizes. -/
import Derived.Test.YtojbljaleconpaaDoorDr
namespace Go.Proofs.YtojbljaleconpaaDoor
open Go.RowKit
theorem Only.then_below {lo hi : Nat} {w w1 w' : World} (a : Only lo hi w w1) (b : Below w.heap.size w1 w') : Only lo hi w w' :=
  ⟨b.os.trans a.os, b.tape.trans a.tape, b.output.trans a.output, Nat.le_trans a.size b.size, fun k hk hn => (b.block k hk).trans (a.block k hk hn)⟩
theorem Only.setCell' {lo hi : Nat} {w w' : World} (a : Only lo hi w w') {p : Addr} (h1 : w.heap.size ≤ p.block) (u : Value) : Only lo hi w (w'.setCell p u) :=
  ⟨a.os, a.tape, a.output, by simpa [World.setCell] using a.size, fun k hk hn => (Below.heap_setCell _ _ _ _ (by omega)).trans (a.block k hk hn)⟩
theorem own_cells {w : World} {base e g n cap : Nat} {cs : List Int} (h : w.ownsRow base e 1 (.slice (some ⟨g, 0, none⟩) n cap) n (cs.map (Value.int .i64))) (_hn : 0 < n) : base ≤ g ∧ g < w.heap.size ∧ n ≤ cap ∧ cap ≤ maxLen := by
  rcases h.2 with ⟨h, _⟩ | ⟨g', cap', cur, he, hb, hg, h1, h2, _⟩
  · simp at h
  · simp only [Value.slice.injEq, Option.some.injEq, Addr.mk.injEq, and_true, true_and] at he
    obtain ⟨rfl, rfl⟩ := he
    exact ⟨hb, (Array.getElem?_eq_some_iff.1 hg).1, h1, h2⟩
theorem Ints.take {w : World} {lo hi c : Nat} {A : Option Addr} {ys : List Int} (h : Ints w lo hi A c ys) (m : Nat) : Ints w lo hi A c (ys.take m) := by
  refine ⟨by have := h.1; simp; omega, h.2.1, ?_⟩
  rcases h.2.2 with h | ⟨b, off, h1, h2, h3, h4⟩
  · exact .inl (by simp [h])
  · refine .inr ⟨b, off, h1, h2, h3, fun j y hj => h4 j y ?_⟩
    rw [List.getElem?_take] at hj
    split at hj
    · exact hj
    · cases hj
/-- the cells of a literal of three ints that was laid ahead of a call which changes block g alone -/
theorem lit3 {w w' : World} {g : Nat} {e : TypeId} {a b c : Int} (h : Only g (g + 1) (w.alloc (.cells #[.int .i64 a, .int .i64 b, .int .i64 c] e)) w') (hg : g < w.heap.size) {i : Nat} (hi : i < 3) :
    ∃ l : Int, w'.cell? ⟨w.heap.size, i, none⟩ = some (.int .i64 l) ∧ (l = a ∨ l = b ∨ l = c) := by
  have hb := h.block w.heap.size (by simp) (by omega)
  have e0 : w'.cell? ⟨w.heap.size, i, none⟩ = (w.alloc (.cells #[.int .i64 a, .int .i64 b, .int .i64 c] e)).cell? ⟨w.heap.size, i, none⟩ := World.cell?_of_block (w := w.alloc (.cells #[.int .i64 a, .int .i64 b, .int .i64 c] e)) (a := ⟨w.heap.size, i, none⟩) hb
  rw [e0, World.cell?_alloc_at _ _ _ _ rfl]
  match i, hi with
  | 0, _ => exact ⟨a, rfl, .inl rfl⟩
  | 1, _ => exact ⟨b, rfl, .inr (.inl rfl)⟩
  | 2, _ => exact ⟨c, rfl, .inr (.inr rfl)⟩
/-- what a generator of one vector leaves -/
def DrewI (w : World) (g p : Nat) (e : Ending) (w' : World) : Prop :=
  ∃ A c, ∃ zs : List Int, ∃ p', e = .returned (.slice A zs.length c) ∧ Ints w' w.heap.size w'.heap.size A c zs ∧ zs.length ≤ 3 ∧ (∀ z, z ∈ zs → -1 ≤ z ∧ z ≤ 100) ∧ Rd w' g p' ∧ p ≤ p' ∧ p' ≤ p + 6 ∧ Only g (g + 1) w w'
theorem l6Open_any (A : Option Addr) (n c : Nat) (w : World) (hA : BytesR w w.heap.size A n) (hc : n ≤ c) (hm : c ≤ maxLen) :
    Calls Tryd.prog 15 #[.slice A n c] w fun e w' => ∃ g, e = .returned (.pointer (some ⟨g, 0, none⟩)) ∧ w.heap.size ≤ g ∧ Rd w' g 0 ∧ Below w.heap.size w w' := by
  have HA := Lib.hid hA; clear hA
  have hm' : c ≤ 9223372036854775807 := by simpa [maxLen] using hm
  clear hm
  have fin : ∀ m, m ≤ n → m ≤ 2000 → Rd (w.alloc (.cells #[.slice A m c, .int .i64 0] 42)) w.heap.size 0 := by
    intro m h1 h2
    refine ⟨A, m, c, ?_, ?_, ?_, (HA.out.less h1).below ((Below.refl w.heap.size w).alloc (Nat.le_refl _) _) (Nat.le_refl _), h2⟩
    · rw [World.cell?_alloc_at _ _ _ _ rfl]; rfl
    · rw [World.cell?_alloc_at _ _ _ _ rfl]; rfl
    · exact World.frozen?_alloc_at _ _ _ _ rfl
  have HF := Lib.hid fin; clear fin
  by_cases hn : 2000 < n
  · have hc2 : 2000 ≤ c := by omega
    go_enter Tryd.func15, Tryd.ntmps15
    go_wp2
    go_ret
    exact ⟨w.heap.size, by simp, Nat.le_refl _, HF.out 2000 (by omega) (by omega), (Below.refl _ _).alloc (Nat.le_refl _) _⟩
  · go_enter Tryd.func15, Tryd.ntmps15
    go_wp2
    go_ret
    exact ⟨w.heap.size, by simp, Nat.le_refl _, HF.out n (by omega) (by omega), (Below.refl _ _).alloc (Nat.le_refl _) _⟩
theorem l91Vec_any (g p : Nat) (m : Int) (w : World) (hR : Rd w g p) (hp : p ≤ 900000) (hm : 0 ≤ m ∧ m ≤ 99) :
    Calls Tryd.prog 14 #[.pointer (some ⟨g, 0, none⟩), .int .i64 m] w (DrewI w g p) := by
  have HG := Lib.hid hR.lt
  have HR := Lib.hid hR; clear hR
  obtain ⟨hm1, hm2⟩ := hm
  go_enter Tryd.func14, Tryd.ntmps14
  go_wp2_with fail
  go_loopw [5, 6] (fun v i wr => ∃ k : Nat, ∃ zs : List Int, k ≤ 3 ∧ i = .int .i64 k ∧ Rd wr g (p + k) ∧ wr.ownsRow w.heap.size 3 1 v k (zs.map (Value.int .i64)) ∧ (∀ z, z ∈ zs → -1 ≤ z ∧ z ≤ 100) ∧ Only g (g + 1) w wr) (fun _ i _ => 3 - (intOf i).toNat)
  case atStart =>
    have hb : Below w.heap.size w (w.alloc (.cells #[] 3)) := (Below.refl _ _).alloc (Nat.le_refl _) _
    exact ⟨0, [], by omega, rfl, HR.out.below hb HG.out, ownsRow_empty w _ _, by simp, Only.of_below hb⟩
  case round =>
    obtain ⟨k, zs, hk, rfl, hR, hown, hz, hO⟩ := hrel
    have HR1 := Lib.hid hR; clear hR
    have HW := Lib.hid hown; clear hown
    have HZ := Lib.hid hz; clear hz
    have HO := Lib.hid hO; clear hO
    have hsz := HO.out.size
    by_cases hlt : k < 3
    · go_wp2_with fail
      refine (pick_any g (p + k) (m + 1) wr HR1.out (by omega) (by omega)).mono ?_; rintro e w1 ⟨x, rfl, hx0, hx1, hR2, hO2, hs2⟩
      have HR2 := Lib.hid hR2; clear hR2
      have HW2 := Lib.hid (ownsRow_only HW.out hO2 (show g + 1 ≤ w.heap.size from HG.out))
      have HO2 := Lib.hid (HO.out.trans hO2); clear hO2
      have hsz2 : w.heap.size ≤ w1.heap.size := by omega
      have HG2 := Lib.hid HR2.out.lt
      clear hs2
      go_wp2_with (at_builtin; refine wpList_app1 elI rfl (.tmp 12) (.tmp 17) rfl w1 _ HW2.out [.int .i64 x] rfl rfl ⟨rfl, rfl, rfl, rfl⟩ rfl (one_int _) hsz2 (by simp only [maxLen]; omega) (by omega) ?_; intro gg cap w2 hown2 hb2 _ _ _)
      have HW3 := Lib.hid hown2; clear hown2
      have HB2 := Lib.hid hb2; clear hb2
      go_roundw
      case rel =>
        refine ⟨k + 1, zs ++ [x], by omega, by go_num, HR2.out.below HB2.out HG.out, by simpa using HW3.out, ?_, HO2.out.then_below HB2.out⟩
        intro z hz
        rcases List.mem_append.1 hz with h | h
        · exact HZ.out z h
        · simp at h; omega
      case measure => simp [intOf]; omega
    · have h3 : k = 3 := by omega
      have HW3 : Hid (wr.ownsRow w.heap.size 3 1 u5 3 (zs.map (Value.int .i64))) := by have := HW.out; rwa [h3] at this
      have HR3 : Hid (Rd wr g (p + 3)) := by have := HR1.out; rwa [h3] at this
      have hge : ¬ ((k : Int) < 3) := by omega
      clear h3 hlt hk HW HR1
      obtain ⟨gg, cap, rfl, hgg, hgl⟩ := HW3.out.form (by omega)
      have hzl : zs.length = 3 := by have := HW3.out.1; simpa using this
      obtain ⟨_, _, hcap, hcm⟩ := own_cells HW3.out (by omega)
      have HL := Lib.hid hzl; clear hzl
      go_wp2_with fail
      refine (pick_any g (p + 3) 40 wr HR3.out (by omega) (by omega)).mono ?_; rintro e w1 ⟨x, rfl, hx0, hx1, hR2, hO2, hs2⟩
      have HR2 := Lib.hid hR2; clear hR2
      have HW2 := Lib.hid (ownsRow_only HW3.out hO2 (show g + 1 ≤ w.heap.size from HG.out))
      have HO2 := Lib.hid (HO.out.trans hO2); clear hO2
      have hsz2 : w.heap.size ≤ w1.heap.size := by omega
      clear hs2
      by_cases e0 : x = 0
      · subst e0
        go_wp2_with fail
        refine (pick_any g (p + 3 + 1) 3 w1 HR2.out (by omega) (by omega)).mono ?_; rintro e w2 ⟨y, rfl, hy0, hy1, hR3, hO3, hs3⟩
        have HR3 := Lib.hid hR3; clear hR3
        have HW3 := Lib.hid (ownsRow_only HW2.out hO3 (show g + 1 ≤ w.heap.size from HG.out))
        have HO3 := Lib.hid (HO2.out.trans hO3); clear hO3
        have hsz3 : w.heap.size ≤ w2.heap.size := by omega
        clear hs3
        obtain ⟨j, rfl⟩ := Int.eq_ofNat_of_zero_le hy0
        have hj3 : j < 3 := by omega
        have HG2 := Lib.hid HR3.out.lt
        have hb3 : Below w2.heap.size w2 (w2.alloc (.cells #[.int .i64 (-1), .int .i64 20, .int .i64 21] 3)) := (Below.refl _ _).alloc (Nat.le_refl _) _
        have HB3 := Lib.hid hb3; clear hb3
        go_wp2_with fail
        refine (pick_any g (p + 3 + 1 + 1) 3 _ (HR3.out.below HB3.out HG2.out) (by omega) (by omega)).mono ?_; rintro e w4 ⟨z, rfl, hz0, hz1, hR4, hO4, hs4⟩
        obtain ⟨i, rfl⟩ := Int.eq_ofNat_of_zero_le hz0
        obtain ⟨l, hl, hl2⟩ := lit3 hO4 HG2.out (i := i) (by omega)
        have HR4 := Lib.hid hR4; clear hR4
        have HW4 := Lib.hid (ownsRow_only (ownsRow_below HW3.out HB3.out) hO4 (show g + 1 ≤ w.heap.size from HG.out))
        have HO4 := Lib.hid ((HO3.out.then_below (HB3.out.mono hsz3)).trans hO4)
        clear hO4 hs4
        obtain ⟨u, _, hc0, hf0⟩ := own_at HW4.out hj3
        have hi3 : (i : Int) < 3 := by omega
        have hj3' : (j : Int) < 3 := by omega
        have HL2 := Lib.hid hl2; clear hl2
        have hgw := (HW3.out.lt gg rfl).2
        have hne : gg ≠ w2.heap.size := by omega
        go_wp2_with fail
        go_ret
        obtain ⟨A', c', he, hl', hI⟩ := Ints.of_own (own_set HW4.out j l)
        have h2 : (zs.set j l).length = 3 := by simp [HL.out]
        refine ⟨A', c', zs.set j l, p + 3 + 1 + 1 + 1, ?_, hI, by omega, ?_, HR4.out.below ((Below.refl gg w4).setCell (p := ⟨gg, j, none⟩) (Nat.le_refl _) _) (Nat.lt_of_lt_of_le HG.out hgg), by omega, by omega, HO4.out.setCell' (p := ⟨gg, j, none⟩) hgg _⟩
        · simp only [Value.slice.injEq] at he
          rw [h2, ← he.1, ← he.2.2]
          rfl
        · intro q hq
          rcases List.mem_or_eq_of_mem_set hq with h | h
          · exact HZ.out q h
          · have := HL2.out; omega
      · have hx0' : (x == 0) = false := by simp; omega
        by_cases e1 : x = 1
        · subst e1
          go_wp2_with fail
          go_ret
          obtain ⟨A', c', he, hl, hI⟩ := Ints.of_own HW2.out
          have h2 : (zs.take 2).length = 2 := by simp [HL.out]
          refine ⟨A', c', zs.take 2, p + 3 + 1, ?_, hI.take 2, by omega, fun z hz => HZ.out z (List.mem_of_mem_take hz), HR2.out, by omega, by omega, HO2.out⟩
          rw [HL.out] at he
          simp only [Value.slice.injEq] at he
          rw [h2, ← he.1, ← he.2.2]
          rfl
        · have hx1' : (x == 1) = false := by simp; omega
          go_wp2_with fail
          go_ret
          obtain ⟨A', c', he, hl, hI⟩ := Ints.of_own HW2.out
          refine ⟨A', c', zs, p + 3 + 1, ?_, hI, by rw [HL.out]; omega, HZ.out, HR2.out, by omega, by omega, HO2.out⟩
          simp [← he]
end Go.Proofs.YtojbljaleconpaaDoor
