/- Helpers of the exact statement on clusters of units without tasks: eqCluster, markCluster, heldCluster. No condition but on sizes. -/
import Derived.Test.YtojbljaleconpaaCl
namespace Go.Proofs.Ytojbljaleconpaa
open Go.RowKit
theorem eqCluster_eq (A B A' B' : Option Addr) (c d c' d' n l1 h1 l2 h2 l3 h3 l4 h4 : Nat) (ys : List Int) (f : Nat → Bool) (w : World) (hA : Ints w l1 h1 A c ys) (hB : Units w l2 h2 B n f) (hA' : Ints w l3 h3 A' c' ys) (hB' : Units w l4 h4 B' n f) (hl : ys.length ≤ 2097152) (hn : n ≤ 1048576)
    (g1 : h1 ≤ w.heap.size) (g2 : h2 ≤ w.heap.size) (g3 : h3 ≤ w.heap.size) (g4 : h4 ≤ w.heap.size) :
    Calls Try.prog 40 #[.agg #[.slice A ys.length c, .slice B n d], .agg #[.slice A' ys.length c', .slice B' n d']] w fun e w' => e = .returned (.bool true) ∧ Below w.heap.size w w' := by
  obtain ⟨w1, hw1⟩ : ∃ W, W = (w.alloc (.cells #[.slice A ys.length c, .slice B n d] 58)).alloc (.cells #[.slice A' ys.length c', .slice B' n d'] 58) := ⟨_, rfl⟩
  have HW1 := Lib.hid hw1
  have hb1 : Below w.heap.size w w1 := by rw [hw1]; exact ((Below.refl _ _).alloc (Nat.le_refl _) _).alloc (by simp) _
  have hs1 := hb1.size
  have hs1' : w.heap.size + 2 ≤ w1.heap.size := by rw [hw1]; simp
  have HBA := Lib.hid hb1
  have HA := Lib.hid (hA.below hb1 g1)
  have HA' := Lib.hid (hA'.below hb1 g3)
  have HU := Lib.hid (hB.below hb1 g2)
  have HU' := Lib.hid (hB'.below hb1 g4)
  have HX : Hid (Blk w1 w.heap.size 58 [.slice A ys.length c, .slice B n d]) := Lib.hid (by rw [hw1]; exact (Blk.new w _ [.slice A ys.length c, .slice B n d]).alloc _)
  have HY : Hid (Blk w1 (w.heap.size + 1) 58 [.slice A' ys.length c', .slice B' n d']) := Lib.hid (by
    rw [hw1]
    have := Blk.new (w.alloc (.cells #[.slice A ys.length c, .slice B n d] 58)) 58 [.slice A' ys.length c', .slice B' n d']
    simpa using this)
  clear hw1 hb1 hA hB hA' hB'
  go_enter Try.func40, Try.ntmps40
  go_wp2_with fail
  rw [← HW1.out]
  refine (eqIntS_eq A A' c c' _ _ _ _ ys w1 HA.out HA'.out hl).mono ?_; rintro e w2 ⟨rfl, hd⟩
  have hb := drawn_below hd
  have hs2 := hb.size
  replace HBA := Lib.hid (HBA.out.trans (hb.mono hs1))
  replace HX := Lib.hid (HX.out.step hb)
  replace HY := Lib.hid (HY.out.step hb)
  replace HU := Lib.hid (HU.out.below hb (by omega))
  replace HU' := Lib.hid (HU'.out.below hb (by omega))
  have hx1 := HX.out.cell (i := 1) rfl
  have hy1 := HY.out.cell (i := 1) rfl
  clear hb hd HA HA'
  go_wp2_with fail
  refine (eqUnitS_eq B B' d d' n _ _ _ _ f w2 HU.out HU'.out hn (by omega) (by omega)).mono ?_; rintro e w3 ⟨rfl, hb⟩
  replace HBA := Lib.hid (HBA.out.trans (hb.mono (by omega)))
  clear hb
  go_wp2_with fail
  go_ret
  exact ⟨by simp, HBA.out⟩
theorem markCluster_any (A B : Option Addr) (c d n l1 h1 l2 h2 lo hi : Nat) (ys : List Int) (f : Nat → Bool) (m : Int) (w : World) (hA : Ints w l1 h1 A c ys) (hB : Units w l2 h2 B n f) (hd : h1 ≤ l2 ∨ h2 ≤ l1) (hl : ys.length ≤ 1048576) (hn : n ≤ 1048576) (hm : 0 ≤ m ∧ m ≤ 4)
    (g1 : lo ≤ l1 ∧ h1 ≤ hi) (g2 : lo ≤ l2 ∧ h2 ≤ hi) (g3 : hi ≤ w.heap.size) :
    Calls Try.prog 42 #[.agg #[.slice A ys.length c, .slice B n d], .int .i64 m] w fun e w' => e = .returned (.int .i64 (m + ys.length + n)) ∧ Ints w' l1 h1 A c (marks m ys.length) ∧ Units w' l2 h2 B n (umark (m + ys.length)) ∧ Only lo hi w w' := by
  obtain ⟨w1, hw1⟩ : ∃ W, W = w.alloc (.cells #[.slice A ys.length c, .slice B n d] 58) := ⟨_, rfl⟩
  have HW1 := Lib.hid hw1
  have hb1 : Below w.heap.size w w1 := by rw [hw1]; exact alloc_belowC w _
  have hs1 := hb1.size
  have hs1' : w.heap.size + 1 ≤ w1.heap.size := by rw [hw1]; simp
  have HO := Lib.hid (Only.of_below (lo := lo) (hi := hi) hb1)
  have HA := Lib.hid (hA.below hb1 (by omega))
  have HU := Lib.hid (hB.below hb1 (by omega))
  have HX : Hid (Blk w1 w.heap.size 58 [.slice A ys.length c, .slice B n d]) := Lib.hid (by rw [hw1]; exact Blk.new w _ [.slice A ys.length c, .slice B n d])
  clear hw1 hb1 hA hB
  go_enter Try.func42, Try.ntmps42
  go_wp2_with fail
  rw [← HW1.out]
  refine (markIntS_any A c _ _ ys m w1 HA.out (by omega) (by omega)).mono ?_; rintro e w2 ⟨rfl, hI, ho, hs⟩
  obtain ⟨hs2, hs2'⟩ := le_le hs
  have HI := Lib.hid hI
  replace HX := Lib.hid (HX.out.only ho (.inr (by omega)))
  replace HU := Lib.hid (HU.out.only ho (by omega) (by omega))
  replace HO := Lib.hid (HO.out.trans (ho.mono g1.1 g1.2))
  have hx1 := HX.out.cell (i := 1) rfl
  obtain ⟨kk, hkk⟩ : ∃ k : Int, m + (ys.length : Int) = k := ⟨_, rfl⟩
  have hkb : 0 ≤ kk ∧ kk ≤ 1099511627776 := by omega
  have HKK := Lib.hid hkk
  rw [hkk]
  clear hI ho hs HA hkk
  go_wp2_with fail
  refine (markUnitS_any B d n _ _ f kk w2 HU.out hn hkb).mono ?_; rintro e w3 ⟨rfl, hU, ho, hs⟩
  replace HI := Lib.hid (HI.out.only ho (by omega) (by omega))
  replace HU := Lib.hid hU
  replace HO := Lib.hid (HO.out.trans (ho.mono g2.1 g2.2))
  clear hU ho hs
  go_wp2_with fail
  go_ret
  rw [HKK.out]
  exact ⟨by simp, HI.out, HU.out, HO.out⟩
theorem heldCluster_any (A B : Option Addr) (c d n l1 h1 l2 h2 k : Nat) (m : Int) (w : World) (hA : Ints w l1 h1 A c (marks m k)) (hB : Units w l2 h2 B n (umark (m + k))) (hl : k ≤ 1048576) (hn : n ≤ 1048576) (hm : 0 ≤ m ∧ m ≤ 4) (g1 : h1 ≤ w.heap.size) (g2 : h2 ≤ w.heap.size) :
    Calls Try.prog 43 #[.agg #[.slice A k c, .slice B n d], .int .i64 m] w fun e w' => e = .returned (.int .i64 (m + k + n)) ∧ Below w.heap.size w w' := by
  have hb1 : Below w.heap.size w (w.alloc (.cells #[.slice A k c, .slice B n d] 58)) := alloc_belowC w _
  have HA := Lib.hid (hA.below hb1 g1)
  have HU := Lib.hid (hB.below hb1 g2)
  have HB := Lib.hid hb1
  obtain ⟨kk, hkk⟩ : ∃ z : Int, m + (k : Int) = z := ⟨_, rfl⟩
  have hkb : 0 ≤ kk ∧ kk ≤ 1099511627776 := by omega
  have h7 := heldIntS_any A c _ _ k m _ HA.out (by omega) (by omega)
  have h8 := heldUnitS_any B d n _ _ (m + k) _ HU.out hn (by omega)
  rw [hkk] at h7 h8 ⊢
  have H7 := Lib.hid h7
  have H8 := Lib.hid h8
  have hk0 : ¬ kk < 0 := by omega
  have hk1 : ¬ kk + (n : Int) < 0 := by omega
  clear hkk hb1 hA hB h7 h8
  go_enter Try.func43, Try.ntmps43
  go_wp2_with fail
  refine H7.out.mono ?_; rintro e w2 ⟨rfl, rfl⟩
  go_wp2_with fail
  refine H8.out.mono ?_; rintro e w2 ⟨rfl, rfl⟩
  go_wp2_with fail
  go_ret
  exact ⟨by simp, HB.out⟩
end Go.Proofs.Ytojbljaleconpaa
