/- l21At. No condition but on sizes. -/
import Derived.Test.YtcmampicgdobcaaCz
namespace Go.Proofs.Ytcmampicgdobcaa
open Go.RowKit
/-- an int between -1 and n - 1 is returned, only new memory made -/
def RetK (n : Nat) (w : World) (e : Ending) (w' : World) : Prop := ∃ k : Int, e = .returned (.int .i64 k) ∧ -1 ≤ k ∧ k < n ∧ Below w.heap.size w w'
set_option maxHeartbeats 1000000 in
theorem l21At_any (A B N : Option Addr) (c d e0 l1 h1 lo hi l2 h2 : Nat) (room need : List Int) (id : Int) (op : Bool) (us : List UniV) (w : World) (hA : Ints w l1 h1 A c room) (hr : us ≠ [] → room.length = 3) (hU : UniT w lo hi B d us) (hN : Ints w l2 h2 N e0 need) (hn : GoodN need)
    (hl : us.length ≤ 100) (hf : ∀ u, u ∈ us → u.ts.length ≤ 1000) (hg : ∀ u, u ∈ us → ∀ t, t ∈ u.ts → GoodN t.need) (g1 : h1 ≤ w.heap.size) (g2 : hi ≤ w.heap.size) (g3 : h2 ≤ w.heap.size) :
    Calls Try.prog 67 #[.agg #[.slice A room.length c, .slice B us.length d], .agg #[.int .i64 id, .slice N need.length e0], .bool op] w (RetK us.length w) := by
  obtain ⟨w0, hw0⟩ : ∃ W, W = w.alloc (.cells #[.slice A room.length c, .slice B us.length d] 28) := ⟨_, rfl⟩
  obtain ⟨w1, hw1⟩ : ∃ W, W = w0.alloc (.cells #[.int .i64 id, .slice N need.length e0] 62) := ⟨_, rfl⟩
  have HW0 := Lib.hid hw0
  have HW1 := Lib.hid hw1
  have hb0 : Below w.heap.size w w0 := by rw [hw0]; exact alloc_belowC w _
  have hb1 : Below w0.heap.size w0 w1 := by rw [hw1]; exact alloc_belowC w0 _
  have hs0 : w0.heap.size = w.heap.size + 1 := by rw [hw0]; simp
  have hs1 : w0.heap.size + 1 ≤ w1.heap.size := by rw [hw1]; simp
  have hX0 : Blk w0 w.heap.size 28 [.slice A room.length c, .slice B us.length d] := by rw [hw0]; exact Blk.new w _ [.slice A room.length c, .slice B us.length d]
  have HX := Lib.hid (hX0.step hb1)
  have hY0 : Blk w1 w0.heap.size 62 [.int .i64 id, .slice N need.length e0] := by rw [hw1]; exact Blk.new w0 _ [.int .i64 id, .slice N need.length e0]
  rw [hs0] at hY0
  have HY := Lib.hid hY0
  have hb01 : Below w.heap.size w w1 := hb0.trans (hb1.mono (by omega))
  have hsw : w.heap.size + 2 ≤ w1.heap.size := by omega
  have HA := Lib.hid (hA.below hb01 g1)
  have HU := Lib.hid (hU.below hb01 g2)
  have HN := Lib.hid (hN.below hb01 g3)
  have HB := Lib.hid hb01
  have HR := Lib.hid hr
  have HG := Lib.hid hg
  have HGN := Lib.hid hn
  clear hw0 hw1 hb0 hb1 hs0 hs1 hX0 hY0 hb01 hA hU hN hr hg hn
  go_enter Try.func67, Try.ntmps67
  go_wp2_with fail
  rw [← HW0.out, ← HW1.out]
  go_loopw [7] (fun i wr => ∃ k : Nat, k ≤ us.length ∧ i = .int .i64 k ∧ Below w1.heap.size w1 wr) (fun i _ => us.length - (intOf i).toNat)
  case atStart => exact ⟨0, by omega, rfl, Below.refl _ _⟩
  case round =>
    obtain ⟨k, hk, rfl, hb⟩ := hrel
    have HBr := Lib.hid hb
    have hsr := hb.size
    have HXr := Lib.hid (HX.out.below hb (show w.heap.size < w1.heap.size by omega))
    have HYr := Lib.hid (HY.out.below hb (show w.heap.size + 1 < w1.heap.size by omega))
    clear hb
    have hx0 := HXr.out.cell (i := 0) rfl
    have hx1 := HXr.out.cell (i := 1) rfl
    have hy0 := HYr.out.cell (i := 0) rfl
    have hy1 := HYr.out.cell (i := 1) rfl
    by_cases hlt : k < us.length
    · have hklt : (k : Int) < us.length := by omega
      obtain ⟨b1, off1, u, rfl, hu, hc1, hc2, _, hbh, hT⟩ := (HU.out.below HBr.out (by omega)).at_ hlt
      have hum := List.mem_of_getElem? hu
      have hul := hf u hum
      have HGu := Lib.hid (HG.out u hum)
      have HT := Lib.hid hT
      have HAr := Lib.hid (HA.out.below HBr.out (by omega))
      have HNr := Lib.hid (HN.out.below HBr.out (by omega))
      have HR3 : Hid (room.length = 3) := Lib.hid (HR.out (by rintro rfl; simp at hlt))
      clear hu hT hum
      obtain ⟨v, hv⟩ : ∃ v, (u.op == op) = v := ⟨_, rfl⟩
      cases v
      · go_wp2_with fail
        go_quiet (fail)
        go_wp2_with fail
        exact ⟨⟨k + 1, by omega, by go_num, Below.drewN HBr.out _⟩, by simp [intOf]; omega⟩
      · obtain ⟨z, hz⟩ : ∃ z, fitsB (addL (loadL (needs u.ts)) need 1) room = z := ⟨_, rfl⟩
        have HFT : Hid (∀ W : World, Below wr.heap.size wr W → Calls Try.prog 70 #[.slice A room.length c, .slice u.a u.ts.length u.c, .agg #[.int .i64 id, .slice N need.length e0]] W fun e w' => e = .returned (.bool z) ∧ Below W.heap.size W w') := Lib.hid (fun W hW => by
          have hsW := hW.size
          have h := l11Fits_any id A N u.a c e0 u.c _ _ _ _ _ _ room need u.ts W (HAr.out.below hW (by omega)) (HNr.out.below hW (by omega)) (HT.out.below hW (by omega)) HR3.out HGN.out (by omega) HGu.out (by omega) (by omega) (by omega)
          rw [hz] at h; exact h)
        clear hz
        have hwb : w.heap.size + 1 < wr.drew.heap.size := by show _ < wr.heap.size; omega
        have hbd : b1 < wr.drew.heap.size := by show _ < wr.heap.size; omega
        have hsd : wr.drew.heap.size = wr.heap.size := rfl
        have HSD := Lib.hid hsd
        have HFD := Lib.hid (HFT.out wr.drew (Below.refl _ _).drew)
        clear hsd
        go_wp2_with fail
        go_region_held3 (fun w' => w'.cell? ⟨w.heap.size, 0, none⟩ = some (.slice A room.length c) ∧ w'.cell? ⟨w.heap.size, 1, none⟩ = some (.slice (some ⟨b1, off1, none⟩) us.length d) ∧ w'.cell? ⟨w.heap.size + 1, 0, none⟩ = some (.int .i64 id) ∧ w'.cell? ⟨w.heap.size + 1, 1, none⟩ = some (.slice N need.length e0) ∧ w'.cell? ⟨b1, off1 + k * 2, none⟩ = some (.bool u.op) ∧ w'.cell? ⟨b1, off1 + k * 2 + 1, none⟩ = some (.slice u.a u.ts.length u.c))
          (go_keep)
          (first | (go_at_call 70; (with_reducible refine HFD.out.mono ?_); rintro e w5 ⟨rfl, hb5⟩; have HB5 := Lib.hid hb5; have r0 := cell_belowT hb5 (show w.heap.size < wr.drew.heap.size by omega) hx0; have r1 := cell_belowT hb5 (show w.heap.size < wr.drew.heap.size by omega) hx1; have r2 := cell_belowT hb5 hwb hy0; have r3 := cell_belowT hb5 hwb hy1; have r4 := cell_belowT hb5 hbd hc1; have r5 := cell_belowT hb5 hbd hc2; clear hb5))
        have HBF : Hid (Below w1.heap.size w1 w5) := Lib.hid (HBr.out.trans ((Below.undrew HB5.out).mono (by show _ ≤ wr.heap.size; omega)))
        cases z
        · go_wp2_with fail
          exact ⟨⟨k + 1, by omega, by go_num, HBF.out⟩, by simp [intOf]; omega⟩
        · go_wp2_with fail
          go_ret
          exact ⟨k, by simp, by omega, by omega, HB.out.trans (HBF.out.mono (by omega))⟩
    · have hkn : ¬ ((k : Int) < us.length) := by omega
      go_wp2_with fail
      go_ret
      exact ⟨-1, by simp, by omega, by omega, HB.out.trans (HBr.out.mono (by omega))⟩
end Go.Proofs.Ytcmampicgdobcaa
