/- The index's tree: grow, lay, the table. No condition but on sizes. -/
import Derived.Test.YtpjipofkpikipaaVm
import Derived.Test.YtpjipofkpikipaaRa
import Derived.Test.YtpjipofkpikipaaIx
import Derived.Test.YtpjipofkpikipaaBk
import Derived.Test.YtpjipofkpikipaaDv
import Derived.Deep.RegionHeld3
import Derived.WalkSpells
namespace Go.Proofs.Ytpjipofkpikipaa
open Go.RowKit
/-- a tree of the call's own: the node number `k`, h levels above the rooms, holds the vector N k; no block of it is T, all are below H -/
def TreeAt (w : World) (T H : Nat) (N : Nat → List Int) : Nat → Nat → Value → Prop
  | 0, k, v => ∃ b A c l r, v = .pointer (some ⟨b, 0, none⟩) ∧ b ≠ T ∧ b < H ∧ w.cell? ⟨b, 0, none⟩ = some (.slice A 3 c) ∧ w.cell? ⟨b, 1, none⟩ = some (.pointer none) ∧ w.cell? ⟨b, 2, none⟩ = some (.pointer none) ∧
      Ints w l r A c (N k) ∧ (r ≤ T ∨ T + 1 ≤ l) ∧ r ≤ H
  | h + 1, k, v => ∃ b A c l r vl vr, v = .pointer (some ⟨b, 0, none⟩) ∧ b ≠ T ∧ b < H ∧ w.cell? ⟨b, 0, none⟩ = some (.slice A 3 c) ∧ w.cell? ⟨b, 1, none⟩ = some vl ∧ w.cell? ⟨b, 2, none⟩ = some vr ∧
      Ints w l r A c (N k) ∧ (r ≤ T ∨ T + 1 ≤ l) ∧ r ≤ H ∧ TreeAt w T H N h (2 * k) vl ∧ TreeAt w T H N h (2 * k + 1) vr
theorem TreeAt.keep {w w' : World} {T H : Nat} {N : Nat → List Int} (a : ∀ b, b ≠ T → b < H → w'.heap[b]? = w.heap[b]?) {h k : Nat} {v : Value} (t : TreeAt w T H N h k v) : TreeAt w' T H N h k v := by
  have hc : ∀ b o u, b ≠ T → b < H → w.cell? ⟨b, o, none⟩ = some u → w'.cell? ⟨b, o, none⟩ = some u := fun b o u h1 h2 h3 =>
    (World.cell?_of_block (a := ⟨b, o, none⟩) (a b h1 h2)).trans h3
  have hI : ∀ l r A c ys, Ints w l r A c ys → (r ≤ T ∨ T + 1 ≤ l) → r ≤ H → Ints w' l r A c ys := fun l r A c ys hI h1 h2 =>
    hI.keep fun p h3 h4 => ⟨World.cell?_of_block (a p.block (by omega) (by omega)), World.frozen?_of_block (a p.block (by omega) (by omega))⟩
  induction h generalizing k v with
  | zero =>
    obtain ⟨b, A, c, l, r, h1, h2, h3, h4, h5, h6, h7, h8, h9⟩ := t
    exact ⟨b, A, c, l, r, h1, h2, h3, hc _ _ _ h2 h3 h4, hc _ _ _ h2 h3 h5, hc _ _ _ h2 h3 h6, hI _ _ _ _ _ h7 h8 h9, h8, h9⟩
  | succ h ih =>
    obtain ⟨b, A, c, l, r, vl, vr, h1, h2, h3, h4, h5, h6, h7, h8, h9, h10, h11⟩ := t
    exact ⟨b, A, c, l, r, vl, vr, h1, h2, h3, hc _ _ _ h2 h3 h4, hc _ _ _ h2 h3 h5, hc _ _ _ h2 h3 h6, hI _ _ _ _ _ h7 h8 h9, h8, h9, ih h10, ih h11⟩
theorem TreeAt.only {w w' : World} {T H : Nat} {N : Nat → List Int} (a : Only T (T + 1) w w') (hs : H ≤ w.heap.size) {h k : Nat} {v : Value} (t : TreeAt w T H N h k v) : TreeAt w' T H N h k v :=
  t.keep fun b h1 h2 => a.block b (by omega) (by omega)
theorem TreeAt.belowH {w w' : World} {T H : Nat} {N : Nat → List Int} (a : Below H w w') {h k : Nat} {v : Value} (t : TreeAt w T H N h k v) : TreeAt w' T H N h k v :=
  t.keep fun b _ h2 => a.block b h2
theorem TreeAt.mono {w : World} {T H H' : Nat} {N : Nat → List Int} (hs : H ≤ H') {h k : Nat} {v : Value} (t : TreeAt w T H N h k v) : TreeAt w T H' N h k v := by
  induction h generalizing k v with
  | zero =>
    obtain ⟨b, A, c, l, r, h1, h2, h3, h4, h5, h6, h7, h8, h9⟩ := t
    exact ⟨b, A, c, l, r, h1, h2, by omega, h4, h5, h6, h7, h8, by omega⟩
  | succ h ih =>
    obtain ⟨b, A, c, l, r, vl, vr, h1, h2, h3, h4, h5, h6, h7, h8, h9, h10, h11⟩ := t
    exact ⟨b, A, c, l, r, vl, vr, h1, h2, by omega, h4, h5, h6, h7, h8, by omega, ih h10, ih h11⟩
theorem TreeAt.below {w w' : World} {T : Nat} {N : Nat → List Int} (a : Below w.heap.size w w') {h k : Nat} {v : Value} (t : TreeAt w T w.heap.size N h k v) : TreeAt w' T w'.heap.size N h k v :=
  (t.only (Only.of_below a) (Nat.le_refl _)).mono a.size
theorem TreeAt.top {w : World} {T H : Nat} {N : Nat → List Int} {h k : Nat} {v : Value} (t : TreeAt w T H N h k v) : ∃ b A c l r, v = .pointer (some ⟨b, 0, none⟩) ∧ b ≠ T ∧ b < H ∧ w.cell? ⟨b, 0, none⟩ = some (.slice A 3 c) ∧ Ints w l r A c (N k) ∧ (r ≤ T ∨ T + 1 ≤ l) ∧ r ≤ H := by
  cases h with
  | zero =>
    obtain ⟨b, A, c, l, r, h1, h2, h3, h4, h5, h6, h7, h8, h9⟩ := t
    exact ⟨b, A, c, l, r, h1, h2, h3, h4, h7, h8, h9⟩
  | succ h =>
    obtain ⟨b, A, c, l, r, vl, vr, h1, h2, h3, h4, h5, h6, h7, h8, h9, h10, h11⟩ := t
    exact ⟨b, A, c, l, r, h1, h2, h3, h4, h7, h8, h9⟩
/-- vectors of the nodes 1 to 31, each the greatest of the two below -/
structure Nodes (N : Nat → List Int) : Prop where
  vec : ∀ k, 1 ≤ k → k < 32 → vecB (N k) = true
  up : ∀ k, 1 ≤ k → k < 16 → N k = maxL (N (2 * k)) (N (2 * k + 1))
theorem grow_any {N : Nat → List Int} (HN : Nodes N) (T : Nat) : ∀ (h k n : Nat) (A : Option Addr) (c : Nat) (rs : List RowV) (w : World), 1 ≤ k → (k + 1) * 2 ^ h ≤ 32 → n = rs.length → rs.length = 2 ^ h → (∀ i, i < 2 ^ h → (rs[i]?.map RowV.xs) = some (N (k * 2 ^ h + i))) →
    Rws w 0 T A c rs → T < w.heap.size →
    Calls Try.prog 65 #[.slice A n c] w fun e w' => ∃ b, e = .returned (.pointer (some ⟨b, 0, none⟩)) ∧ TreeAt w' T w'.heap.size N h k (.pointer (some ⟨b, 0, none⟩)) ∧ Below w.heap.size w w' := by
  intro h
  induction h with
  | zero =>
    intro k n A c rs w hk1 hk2 hn hl hx hR hT
    rw [hl] at hn
    simp only [Nat.pow_zero] at hn
    subst hn
    obtain ⟨b, off, r, rfl, hr, hc, _, hbT, hI⟩ := hR.at_ (k := 0) (by rw [hl]; simp)
    have hx0 := hx 0 (by simp)
    simp only [Nat.pow_zero, Nat.mul_one, Nat.add_zero, hr, Option.map_some, Option.some.injEq] at hx0
    have hk32 : k < 32 := by simp at hk2; omega
    have hv := HN.vec k hk1 hk32
    rw [hx0, vec_len hv] at hc
    rw [hx0] at hI
    have HI := Lib.hid hI
    simp only [Nat.add_zero] at hc
    clear hI hx0 hx hr hl hv hR
    go_enter Try.func65, Try.ntmps65
    go_wp2_with fail
    go_ret
    have hP := Blk.new w 67 [.slice r.a 3 r.c, .pointer none, .pointer none]
    have hb : Below w.heap.size w (w.alloc (.cells #[.slice r.a 3 r.c, .pointer none, .pointer none] 67)) := (Below.refl _ _).alloc (Nat.le_refl _) _
    exact ⟨w.heap.size, by simp, ⟨w.heap.size, r.a, r.c, 0, T, by simp, by omega, by simp, hP.cell (i := 0) rfl, hP.cell (i := 1) rfl, hP.cell (i := 2) rfl, HI.out.below hb (by omega), .inl (Nat.le_refl _), by simp; omega⟩, hb⟩
  | succ h ih =>
    intro k n A c rs w hk1 hk2 hn hl hx hR hT
    obtain ⟨m, hm⟩ : ∃ m, 2 ^ h = m := ⟨_, rfl⟩
    have hnm : n = 2 * m := by rw [hn, hl, Nat.pow_succ]; omega
    have hmp : 1 ≤ m := by have := Nat.pos_of_ne_zero (show 2 ^ h ≠ 0 by simp); omega
    have hm16 : m ≤ 16 := by
      have h1 : 2 * 2 ^ (h + 1) ≤ (k + 1) * 2 ^ (h + 1) := Nat.mul_le_mul_right _ (by omega)
      have h2 := Nat.le_trans h1 hk2
      rw [Nat.pow_succ] at h2; omega
    have hne : ((n : Int) == 1) = false := by simp; omega
    have hdv : (n : Int) / 2 = m := by omega
    have HL := Lib.hid hl; clear hl
    have HNN := Lib.hid hn; clear hn
    have HM := Lib.hid hm; clear hm
    have hn2 : 2 * m ≤ n := by omega
    have hn3 : n ≤ 2 * m := by omega
    have HX := Lib.hid hx; clear hx
    have HR := Lib.hid hR; clear hR
    clear hnm
    have hlen := HR.out.len
    have hmc : m ≤ c := by have := HL.out; have := HM.out; have := HNN.out; omega
    have hcm : ¬ c = m := by have := hlen.1; have := HNN.out; omega
    have HLm : Hid (rs.length = 2 * m) := Lib.hid (by have := HNN.out; omega)
    have hp2 : 2 ^ (h + 1) = 2 * m := by rw [Nat.pow_succ, HM.out]; omega
    have hk3 : (k + 1) * (2 * m) ≤ 32 := by rw [← hp2]; exact hk2
    have hk4 : (k + 1) * (2 * m) = 2 * (k * m) + 2 * m := by rw [Nat.add_mul, Nat.one_mul, Nat.mul_left_comm]
    have hk5 : (2 * k + 1) * m = 2 * (k * m) + m := by rw [Nat.add_mul, Nat.one_mul, Nat.mul_assoc]
    have hk6 : (2 * k + 1 + 1) * m = 2 * (k * m) + 2 * m := by rw [Nat.add_mul, hk5, Nat.one_mul]; omega
    have hk7 : 2 * k * m = 2 * (k * m) := Nat.mul_assoc _ _ _
    have hk8 : k * (2 * m) = 2 * (k * m) := Nat.mul_left_comm _ _ _
    have HX1 : Hid (∀ i, i < 2 ^ h → ((rs.take m)[i]?.map RowV.xs) = some (N (2 * k * 2 ^ h + i))) := Lib.hid (fun i hi => by
      rw [HM.out] at hi ⊢
      rw [List.getElem?_take, if_pos hi, HX.out i (by omega), hp2, hk8, hk7])
    have HX2 : Hid (∀ i, i < 2 ^ h → ((rs.drop m)[i]?.map RowV.xs) = some (N ((2 * k + 1) * 2 ^ h + i))) := Lib.hid (fun i hi => by
      rw [HM.out] at hi ⊢
      rw [List.getElem?_drop, HX.out (m + i) (by omega), hp2, hk8, hk5, Nat.add_assoc])
    have hg1 : (2 * k + 1) * 2 ^ h ≤ 32 := by rw [HM.out]; omega
    have hg2 : (2 * k + 1 + 1) * 2 ^ h ≤ 32 := by rw [HM.out]; omega
    have HI1 := Lib.hid (fun (W : World) (hb : Below w.heap.size w W) => ih (2 * k) m A c (rs.take m) W (by omega) hg1 (by simp [HLm.out]; omega) (by simp [HLm.out]; rw [HM.out]; omega) HX1.out ((HR.out.below hb (by omega)).take (by rw [HLm.out]; omega)) (by have := hb.size; omega))
    have HI2 := Lib.hid (fun (W : World) (hb : Below w.heap.size w W) => ih (2 * k + 1) m _ _ (rs.drop m) W (by omega) hg2 (by simp [HLm.out]; omega) (by simp [HLm.out]; rw [HM.out]; omega) HX2.out (by have h9 := (HR.out.below hb (by omega)).drop (k := m) (by rw [HLm.out]; omega); rw [if_neg hcm] at h9; exact h9) (by have := hb.size; omega))
    have hk32 : 2 * k + 1 < 32 := by
      have : (2 * k + 1) * 1 ≤ (2 * k + 1) * m := Nat.mul_le_mul_left _ hmp
      omega
    have HV1 := Lib.hid (HN.vec (2 * k) (by omega) (by omega))
    have HV2 := Lib.hid (HN.vec (2 * k + 1) (by omega) hk32)
    have HU := Lib.hid (HN.up k hk1 (by omega))
    have hnmi : (n : Int) - m = m := by omega
    have hmn : n - m = m := by omega
    have hmni : (m : Int) ≤ n := by omega
    have hmi0 : (0 : Int) ≤ m := by omega
    have hmci : (m : Int) ≤ c := by omega
    have hnc : n ≤ c := by have := hlen.1; have := HNN.out; omega
    have hnci : (n : Int) ≤ c := by omega
    clear ih hlen hp2 hk3 hk4 hk5 hk6 hk7 hk8 hg1 hg2 hk2
    go_enter Try.func65, Try.ntmps65
    go_wp2_with fail
    go_region_held3 (fun _ => True) (trivial)
      (first
        | (go_at_call 65; (with_reducible refine (HI1.out w.drew (Below.refl _ _).drew).mono ?_); rintro e w1 ⟨b1, rfl, ht1, hb1⟩; have HT1 := Lib.hid ht1; have HB1 := Lib.hid ((Below.refl w.heap.size w).drew.trans hb1); clear ht1 hb1)
        | (go_at_call 65; (with_reducible refine (HI2.out w1 HB1.out).mono ?_); rintro e w2 ⟨b2, rfl, ht2, hb2⟩; have HT2 := Lib.hid ht2; have HT1b := Lib.hid (HT1.out.below hb2); have HB2 := Lib.hid (HB1.out.trans (hb2.mono HB1.out.size)); clear ht2 hb2))
    obtain ⟨w3, hw3⟩ : ∃ W, W = w2.alloc (.cells #[.slice none 0 0, .pointer (some ⟨b1, 0, none⟩), .pointer (some ⟨b2, 0, none⟩)] 67) := ⟨_, rfl⟩
    rw [← hw3]
    have hb3 : Below w2.heap.size w2 w3 := by rw [hw3]; exact (Below.refl _ _).alloc (Nat.le_refl _) _
    have HP : Hid (Blk w3 w2.heap.size 67 [.slice none 0 0, .pointer (some ⟨b1, 0, none⟩), .pointer (some ⟨b2, 0, none⟩)]) := Lib.hid (by rw [hw3]; exact Blk.new w2 _ _)
    obtain ⟨p1, A1, c1, l1, r1, he1, _, hp1, hc1, hI1, _, hr1⟩ := HT1b.out.top
    obtain ⟨p2, A2, c2, l2, r2, he2, _, hp2, hc2, hI2, _, hr2⟩ := HT2.out.top
    simp only [Value.pointer.injEq, Option.some.injEq, Addr.mk.injEq, and_true] at he1 he2
    subst he1
    subst he2
    replace hc1 := cell_belowR hb3 hp1 hc1
    replace hc2 := cell_belowR hb3 hp2 hc2
    replace hI1 := hI1.below hb3 hr1
    replace hI2 := hI2.below hb3 hr2
    have hT1 := HT1b.out.belowH hb3
    have hT2 := HT2.out.belowH hb3
    have hs2 := HB2.out.size
    have hs3 := HP.out.lt
    have hp1n : b1 ≠ w2.heap.size := by omega
    have hp2n : b2 ≠ w2.heap.size := by omega
    replace HB2 := Lib.hid (HB2.out.trans (hb3.mono hs2))
    clear hw3 hb3 HT1b HI1 HI2
    have HT1c := Lib.hid hT1
    have HT2c := Lib.hid hT2
    have HJ1 := Lib.hid hI1
    have HJ2 := Lib.hid hI2
    clear hT1 hT2 hI1 hI2 HT1 HT2
    have hq0 := HP.out.cell (i := 0) rfl
    have hq1 := HP.out.cell (i := 1) rfl
    have hq2 := HP.out.cell (i := 2) rfl
    have H7 : Hid (∀ W, Below w3.heap.size w3 W → Calls Try.prog 70 #[.slice A1 3 c1, .slice A2 3 c2] W fun e w' => ∃ A c, e = .returned (.slice A 3 c) ∧ Ints w' W.heap.size w'.heap.size A c (N k) ∧ Below W.heap.size W w') := Lib.hid (fun W hb => by
      have h8 := vecMax_any A1 A2 c1 c2 _ _ _ _ (N (2 * k)) (N (2 * k + 1)) W (HJ1.out.below hb (by omega)) (HJ2.out.below hb (by omega)) (by rw [vec_len HV1.out]; omega) (by rw [vec_len HV2.out]; omega) (by have := hb.size; omega) (by have := hb.size; omega)
      have hr : vmaxR (N (2 * k)) (N (2 * k + 1)) = N k := by rw [HU.out]; simp [vmaxR, HV1.out, HV2.out]
      have hl : (N k).length = 3 := vec_len (HN.vec k hk1 (by omega))
      rw [vec_len HV1.out, vec_len HV2.out] at h8
      refine h8.mono ?_
      rintro e w' ⟨A, c, he, hI, hb⟩
      rw [hr] at he hI
      rw [hl] at he
      exact ⟨A, c, he, hI, hb⟩)
    go_wp2_with fail
    go_region_held3 (fun w' => w'.cell? ⟨w2.heap.size, 1, none⟩ = some (.pointer (some ⟨b1, 0, none⟩)) ∧ w'.cell? ⟨w2.heap.size, 2, none⟩ = some (.pointer (some ⟨b2, 0, none⟩)) ∧ w'.cell? ⟨b1, 0, none⟩ = some (.slice A1 3 c1) ∧ w'.cell? ⟨b2, 0, none⟩ = some (.slice A2 3 c2))
      (first | exact ⟨hq1, hq2, hc1, hc2⟩ | (refine ⟨?_, ?_, ?_, ?_⟩ <;> rw [World.cell?_setCell_other _ _ _ _ (by intro h; simp only [Addr.mk.injEq] at h; omega)] <;> assumption))
      (first | (go_at_call 70; (with_reducible refine (H7.out w3.drew (Below.refl _ _).drew).mono ?_); rintro e w4 ⟨A5, c5, rfl, hI5, hb⟩; have HI5 : Hid (Ints w4 w3.heap.size w4.heap.size A5 c5 (N k)) := Lib.hid hI5; have HB4 : Hid (Below w3.heap.size w3 w4) := Lib.hid (undrewR hb); have hs4 : w3.heap.size ≤ w4.heap.size := hb.size; have hq1 := cell_belowR HB4.out hs3 hq1; have hq2 := cell_belowR HB4.out hs3 hq2; have hc1 := cell_belowR HB4.out (by omega) hc1; have hc2 := cell_belowR HB4.out (by omega) hc2; have hP4 := HP.out.step HB4.out; have HP4 := Lib.hid hP4; have hq0 := hP4.cell (i := 0) rfl; have hf0 := hP4.frozen 0; clear hI5 hb hP4))
    obtain ⟨w5, hw5⟩ : ∃ W, W = w4.setCell ⟨w2.heap.size, 0, none⟩ (.slice A5 3 c5) := ⟨_, rfl⟩
    rw [← hw5]
    have hb5 : Below w2.heap.size w4 w5 := by rw [hw5]; exact (Below.refl _ _).setCell (p := ⟨w2.heap.size, 0, none⟩) (Nat.le_refl _) _
    have ho5 : Only w2.heap.size (w2.heap.size + 1) w4 w5 := by rw [hw5]; exact (Only.refl _ _ _).setCell (p := ⟨w2.heap.size, 0, none⟩) (Nat.le_refl _) (by simp) _
    have hP5 : Blk w5 w2.heap.size 67 [.slice A5 3 c5, .pointer (some ⟨b1, 0, none⟩), .pointer (some ⟨b2, 0, none⟩)] := by rw [hw5]; exact HP4.out.set_ 0 _
    have hs5 := hb5.size
    have hbb : Below w2.heap.size w3 w5 := (HB4.out.mono (by omega)).trans hb5
    have hfin : TreeAt w5 T w5.heap.size N (h + 1) k (.pointer (some ⟨w2.heap.size, 0, none⟩)) :=
      ⟨w2.heap.size, A5, c5, w3.heap.size, w4.heap.size, _, _, rfl, by omega, by omega, hP5.cell (i := 0) rfl, hP5.cell (i := 1) rfl, hP5.cell (i := 2) rfl, HI5.out.only ho5 (.inr (by omega)) (Nat.le_refl _), .inr (by omega), hs5, (HT1c.out.belowH hbb).mono (by omega), (HT2c.out.belowH hbb).mono (by omega)⟩
    have HF := Lib.hid hfin
    have HBF := Lib.hid (HB2.out.trans (hbb.mono (by omega)))
    clear hw5 hb5 ho5 hP5 hs5 hbb hfin hq0 hq1 hq2 hc1 hc2 hf0
    go_wp2_with fail
    go_ret
    exact ⟨w2.heap.size, by simp, HF.out, HBF.out⟩
theorem elV : Elem Try.prog 49 3 1 8 := Elem.mk' Try.underlying49 (z := .int .i64 0) (by kernel_rfl) rfl (by omega)
theorem cloneV_any (b off c lo hi : Nat) (ys : List Int) (w : World) (hI : Ints w lo hi (some ⟨b, off, none⟩) c ys) (hl : ys.length ≤ 1000) (h1 : hi ≤ w.heap.size) :
    Calls Try.prog 71 #[.slice (some ⟨b, off, none⟩) ys.length c] w fun e w' => ∃ A' c', e = .returned (.slice A' ys.length c') ∧ Ints w' w.heap.size w'.heap.size A' c' ys ∧ Below w.heap.size w w' := by
  have HI := Lib.hid hI; clear hI
  have hq := fun W => Lib.run_eql_slice_nil (P := Try.prog) W 49 3 (some ⟨b, off, none⟩) ys.length c 0 0 Try.underlying49
  have HB := Lib.hid (show Below w.heap.size w (w.alloc (.cells #[] 3)) from (Below.refl _ _).alloc (Nat.le_refl _) _)
  have HIr := Lib.hid ((HI.out.below HB.out h1).r)
  have hs : w.heap.size ≤ (w.alloc (.cells #[] 3)).heap.size := by simp
  go_enter Try.func71, Try.ntmps71
  go_wp2_with (at_builtin; refine wpList_appI elV rfl (.tmp 5) (.tmp 6) rfl _ (ownsRow_empty w 3 1) (some ⟨b, off, none⟩) ys.length c ys rfl rfl rfl HIr.out hs (by omega) ?_; intro A2 c2 w2 hown hb2 _; have HO := Lib.hid hown; have HB2 := Lib.hid hb2; clear hown hb2)
  have hn : 0 + ys.length = ys.length := by omega
  obtain ⟨A3, c3, he, _, hI3⟩ := Ints.of_own (ys := ys) (by have := HO.out; rw [hn, List.nil_append] at this; exact this)
  have HE := Lib.hid he
  have HI3 := Lib.hid hI3
  clear he hI3
  go_ret
  exact ⟨A3, c3, by rw [← HE.out]; simp, HI3.out, HB.out.trans HB2.out⟩
/-- the nodes that lie in the tree over node k -/
def Sub : Nat → Nat → Nat → Prop
  | 0, k, j => j = k
  | h + 1, k, j => j = k ∨ Sub h (2 * k) j ∨ Sub h (2 * k + 1) j
theorem lay_nil (T : Nat) (k : Int) (w : World) : Calls Try.prog 66 #[.pointer none, .slice (some ⟨T, 0, none⟩) 32 32, .int .i64 k] w fun e w' => e = .returned (.tuple #[]) ∧ w = w' := by
  go_enter Try.func66, Try.ntmps66
  go_wp2_with fail
  exact bodyPost_ret (v := .tuple #[]) (by simp [results, Try.results66, go_sem]) rfl ⟨rfl, rfl⟩
def LayPost (N : Nat → List Int) (T : Nat) (ty : TypeId) (S : Nat → Prop) (us : List RowV) (w : World) (e : Ending) (w' : World) : Prop :=
  e = .returned (.tuple #[]) ∧ ∃ us', Tab w' T 32 ty us' ∧ (∀ j, S j → us'[j]?.map RowV.xs = some (N j)) ∧ (∀ j, ¬ S j → us'[j]? = us[j]?) ∧ Only T (T + 1) w w'
theorem lay_step {N : Nat → List Int} (HN : Nodes N) (T k b : Nat) (A : Option Addr) (c l r : Nat) (vl vr : Value) (SL SR : Nat → Prop) (us : List RowV) (w : World) (hk1 : 1 ≤ k) (hk2 : k < 32) (hbT : b ≠ T) (hb : b < w.heap.size)
    (hc0 : w.cell? ⟨b, 0, none⟩ = some (.slice A 3 c)) (hc1 : w.cell? ⟨b, 1, none⟩ = some vl) (hc2 : w.cell? ⟨b, 2, none⟩ = some vr) (hI : Ints w l r A c (N k)) (hr : r ≤ w.heap.size) (hu : Tab w T 32 28 us)
    (cl : ∀ w1 us1, Tab w1 T 32 28 us1 → Only T (T + 1) w w1 → Calls Try.prog 66 #[vl, .slice (some ⟨T, 0, none⟩) 32 32, .int .i64 (2 * (k : Int))] w1 (LayPost N T 28 SL us1 w1))
    (cr : ∀ w1 us1, Tab w1 T 32 28 us1 → Only T (T + 1) w w1 → Calls Try.prog 66 #[vr, .slice (some ⟨T, 0, none⟩) 32 32, .int .i64 (2 * (k : Int) + 1)] w1 (LayPost N T 28 SR us1 w1)) :
    Calls Try.prog 66 #[.pointer (some ⟨b, 0, none⟩), .slice (some ⟨T, 0, none⟩) 32 32, .int .i64 (k : Int)] w (LayPost N T 28 (fun j => j = k ∨ SL j ∨ SR j) us w) := by
  have hlen := vec_len (HN.vec k hk1 hk2)
  obtain ⟨p, off, rfl, _⟩ := hI.form (by omega)
  have hcl := cloneV_any p off c l r (N k) w hI (by omega) hr
  rw [hlen] at hcl
  have HC := Lib.hid hcl
  have HT := Lib.hid hu
  have HL := Lib.hid hlen
  have CL := Lib.hid cl
  have CR := Lib.hid cr
  clear hcl hu hlen cl cr hI
  go_enter Try.func66, Try.ntmps66
  go_wp2_with fail
  refine HC.out.mono ?_; rintro e w1 ⟨A1, c1, rfl, hI1, hb1⟩
  have HI1 := Lib.hid hI1
  have HB1 := Lib.hid hb1
  have hT1 := HT.out.below hb1
  obtain ⟨r0, hr0, hd0, hf0, _⟩ := hT1.at_ hk2
  have HC2 := Lib.hid hc2
  replace hc1 := cell_belowR hb1 hb hc1
  replace hc2 := cell_belowR hb1 hb hc2
  have hki : (k : Int) < 32 := by omega
  have hTS := Tab.set_ (k := k) (t := ⟨A1, c1, N k⟩) HT.out hb1 hI1
  have hrc : rcell ⟨A1, c1, N k⟩ = .slice A1 3 c1 := by simp [rcell, HL.out]
  rw [hrc] at hTS
  have HTS := Lib.hid hTS
  have ho2 : Only T (T + 1) w1 (w1.setCell ⟨T, k, none⟩ (.slice A1 3 c1)) := (Only.refl _ _ _).setCell (p := ⟨T, k, none⟩) (Nat.le_refl _) (by simp) _
  have HO2 := Lib.hid ((Only.of_below hb1).trans ho2)
  have hw2 : 2 * (k : Int) ≤ 64 := by omega
  have hkc2 : w.cell? ⟨b, 2, none⟩ = some vr := HC2.out
  clear hI1 hb1 hT1 hr0 hTS ho2 HC
  have HKC := Lib.hid hkc2
  clear hkc2
  go_wp2_with fail
  refine (CL.out _ _ HTS.out HO2.out).mono ?_; rintro e w3 ⟨rfl, us3, ht3, hs3, hn3, ho3⟩
  have HT3 := Lib.hid ht3
  have HS3 := Lib.hid hs3
  have HN3 := Lib.hid hn3
  have HO3 := Lib.hid (HO2.out.trans ho3)
  have hd2 : w3.cell? ⟨b, 2, none⟩ = some vr := (World.cell?_of_block (a := ⟨b, 2, none⟩) (HO3.out.block b hb (by omega))).trans HKC.out
  have hw3 : 2 * (k : Int) + 1 ≤ 64 := by omega
  clear ht3 hs3 hn3 ho3
  go_wp2_with fail
  refine (CR.out _ _ HT3.out HO3.out).mono ?_; rintro e w4 ⟨rfl, us4, ht4, hs4, hn4, ho4⟩
  have hfin : LayPost N T 28 (fun j => j = k ∨ SL j ∨ SR j) us w (.returned (.tuple #[])) w4 := by
    refine ⟨rfl, us4, ht4, fun j hj => ?_, fun j hj => ?_, HO3.out.trans ho4⟩
    · by_cases h1 : SR j
      · exact hs4 j h1
      · rw [hn4 j h1]
        by_cases h2 : SL j
        · exact HS3.out j h2
        · rw [HN3.out j h2]
          have hjk : j = k := hj.resolve_right (fun h => h.elim h2 h1)
          subst hjk
          rw [List.getElem?_set_self (by rw [HT.out.len]; exact hk2)]; rfl
    · rw [hn4 j (fun h => hj (.inr (.inr h))), HN3.out j (fun h => hj (.inr (.inl h))), List.getElem?_set_ne (fun h => hj (.inl h.symm))]
  have HF := Lib.hid hfin
  clear hfin ht4 hs4 hn4 ho4
  go_wp2_with fail
  first | exact bodyPost_ret (v := .tuple #[]) (by simp [results, Try.results66, go_sem]) rfl HF.out | exact bodyPost_end (v := .tuple #[]) (by simp [results, Try.results66, go_sem]) rfl HF.out
theorem lay_any {N : Nat → List Int} (HN : Nodes N) (T : Nat) : ∀ (h k : Nat) (v : Value) (us : List RowV) (w : World), 1 ≤ k → (k + 1) * 2 ^ h ≤ 32 → TreeAt w T w.heap.size N h k v → Tab w T 32 28 us →
    Calls Try.prog 66 #[v, .slice (some ⟨T, 0, none⟩) 32 32, .int .i64 (k : Int)] w (LayPost N T 28 (Sub h k) us w) := by
  intro h
  induction h with
  | zero =>
    intro k v us w hk1 hk2 ht hu
    obtain ⟨b, A, c, l, r, rfl, hb1, hb2, hc0, hc1, hc2, hI, hd, hr⟩ := ht
    have nil : ∀ (i : Int) w1 us1, Tab w1 T 32 28 us1 → Only T (T + 1) w w1 → Calls Try.prog 66 #[.pointer none, .slice (some ⟨T, 0, none⟩) 32 32, .int .i64 i] w1 (LayPost N T 28 (fun _ => False) us1 w1) :=
      fun i w1 us1 ht _ => (lay_nil T i w1).mono (by rintro e w' ⟨rfl, rfl⟩; exact ⟨rfl, us1, ht, fun j hj => hj.elim, fun j _ => rfl, Only.refl _ _ _⟩)
    refine (lay_step HN T k b A c l r _ _ (fun _ => False) (fun _ => False) us w hk1 (by simp at hk2; omega) hb1 hb2 hc0 hc1 hc2 hI hr hu (nil _) (nil _)).mono ?_
    rintro e w' ⟨he, us', h1, h2, h3, h4⟩
    exact ⟨he, us', h1, fun j hj => h2 j (.inl hj), fun j hj => h3 j (fun h => h.elim hj (fun h => h.elim id id)), h4⟩
  | succ h ih =>
    intro k v us w hk1 hk2 ht hu
    obtain ⟨b, A, c, l, r, vl, vr, rfl, hb1, hb2, hc0, hc1, hc2, hI, hd, hr, htl, htr⟩ := ht
    have hp : 2 ^ (h + 1) = 2 ^ h * 2 := Nat.pow_succ ..
    have hpos : 0 < 2 ^ h := Nat.pos_of_ne_zero (by simp)
    have e1 : (k + 1) * 2 ^ (h + 1) = 2 * (k * 2 ^ h) + 2 * 2 ^ h := by rw [hp, ← Nat.mul_assoc, Nat.add_mul, Nat.one_mul]; omega
    have e2 : (2 * k + 1) * 2 ^ h = 2 * (k * 2 ^ h) + 2 ^ h := by rw [Nat.add_mul, Nat.one_mul, Nat.mul_assoc]
    have e3 : (2 * k + 1 + 1) * 2 ^ h = 2 * (k * 2 ^ h) + 2 * 2 ^ h := by rw [Nat.add_mul, e2, Nat.one_mul]; omega
    have hk32 : k < 32 := by
      have : (k + 1) * 1 ≤ (k + 1) * 2 ^ (h + 1) := Nat.mul_le_mul_left _ (by omega)
      omega
    refine lay_step HN T k b A c l r vl vr (Sub h (2 * k)) (Sub h (2 * k + 1)) us w hk1 hk32 hb1 hb2 hc0 hc1 hc2 hI hr hu (fun w1 us1 ht1 ho1 => ?_) (fun w1 us1 ht1 ho1 => ?_)
    · have := ih (2 * k) vl us1 w1 (by omega) (by omega) ((htl.only ho1 (Nat.le_refl _)).mono ho1.size) ht1
      simpa using this
    · have := ih (2 * k + 1) vr us1 w1 (by omega) (by omega) ((htr.only ho1 (Nat.le_refl _)).mono ho1.size) ht1
      simpa using this
end Go.Proofs.Ytpjipofkpikipaa
