/- The generators' reader: what pick returns lies in its range, and only the reader's own block changes. No condition but on sizes. -/
import Derived.Test.YtcmampicgdobcaaVb
import Derived.Laws.BitsAllLaws
import Derived.Laws.BitsLemmas
namespace Go.Proofs.Ytcmampicgdobcaa
open Go.RowKit
/-- the reader: block g holds the bytes' slice and the place -/
def Rd (w : World) (g p : Nat) : Prop :=
  ∃ B n c, w.cell? ⟨g, 0, none⟩ = some (.slice B n c) ∧ w.cell? ⟨g, 1, none⟩ = some (.int .i64 p) ∧ w.frozen? ⟨g, 1, none⟩ = false ∧ BytesR w g B n ∧ n ≤ 2000
theorem Rd.lt {w : World} {g p : Nat} (h : Rd w g p) : g < w.heap.size := by
  obtain ⟨B, n, c, h1, _⟩ := h
  exact World.block_lt_of_cell? w _ h1
theorem Rd.below {w w' : World} {g p B : Nat} (h : Rd w g p) (hb : Below B w w') (hB : g < B) : Rd w' g p := by
  obtain ⟨A, n, c, h1, h2, h3, h4, h5⟩ := h
  exact ⟨A, n, c, by rw [hb.cell (show g < B by omega)]; exact h1, by rw [hb.cell (show g < B by omega)]; exact h2, by rw [hb.frozen (show g < B by omega)]; exact h3, h4.below hb (by omega), h5⟩
theorem Rd.drewN {w : World} {g p : Nat} (h : Rd w g p) (n : Nat) : Rd (w.drewN n) g p := h
theorem ofInt_i64 (a : Nat) (ha : a < 9223372036854775808) : (BitVec.ofInt 64 (a : Int)).toNat = a := by
  rw [BitVec.ofInt_natCast, BitVec.toNat_ofNat]; exact Nat.mod_eq_of_lt (by omega)
theorem i64_xor_nat (a b : Nat) (ha : a < 9223372036854775808) (hb : b < 9223372036854775808) : bits .xor .i64 (a : Int) (b : Int) = ((a ^^^ b : Nat) : Int) := by
  have hx : a ^^^ b < 2 ^ 63 := Nat.xor_lt_two_pow (by omega) (by omega)
  show IntKind.i64.wrap ((BitVec.ofInt 64 (a : Int) ^^^ BitVec.ofInt 64 (b : Int)).toNat : Int) = _
  rw [BitVec.toNat_xor, ofInt_i64 a ha, ofInt_i64 b hb, IntKind.wrap_i64]
  omega
theorem xor_ex (x y : Int) (hx : 0 ≤ x ∧ x < 9223372036854775808) (hy : 0 ≤ y ∧ y < 9223372036854775808) : ∃ z : Int, bits .xor .i64 x y = z ∧ 0 ≤ z := by
  obtain ⟨a, rfl⟩ := Int.eq_ofNat_of_zero_le hx.1
  obtain ⟨b, rfl⟩ := Int.eq_ofNat_of_zero_le hy.1
  exact ⟨_, i64_xor_nat a b (by omega) (by omega), by omega⟩
/-- what pick leaves -/
def Picked (w : World) (g p : Nat) (m : Int) (e : Ending) (w' : World) : Prop :=
  ∃ v : Int, e = .returned (.int .i64 v) ∧ 0 ≤ v ∧ v < m ∧ Rd w' g (p + 1) ∧ Only g (g + 1) w w' ∧ w'.heap.size = w.heap.size
theorem rd_set {w : World} {g p : Nat} (h : Rd w g p) : Rd (w.setCell ⟨g, 1, none⟩ (.int .i64 ((p : Int) + 1))) g (p + 1) := by
  obtain ⟨A, n, c, h1, h2, h3, h4, h5⟩ := h
  refine ⟨A, n, c, ?_, ?_, ?_, ?_, h5⟩
  · rw [World.cell?_setCell_other _ _ _ _ (by intro h; simp at h)]; exact h1
  · rw [World.cell?_setCell_same w _ _ h2]; simp
  · rw [World.frozen?_setCell]; exact h3
  · rcases h4 with h | ⟨b, off, e, hb, hc⟩
    · exact .inl h
    · refine .inr ⟨b, off, e, hb, fun j hj => ?_⟩
      obtain ⟨u, u1, u2, u3⟩ := hc j hj
      exact ⟨u, u1, u2, by rw [World.cell?_setCell_other _ _ _ _ (by intro h; simp only [Addr.mk.injEq] at h; omega)]; exact u3⟩
theorem only_set {w : World} {g : Nat} (u : Value) : Only g (g + 1) w (w.setCell ⟨g, 1, none⟩ u) := (Only.refl _ _ _).setCell (p := ⟨g, 1, none⟩) (Nat.le_refl _) (by simp) u
theorem size_setCell (w : World) (a : Addr) (u : Value) : (w.setCell a u).heap.size = w.heap.size := by simp [World.setCell]
theorem pick_any (g p : Nat) (m : Int) (w : World) (hR : Rd w g p) (hp : p ≤ 1000000) (hm : 1 ≤ m ∧ m ≤ 2147483648) :
    Calls Try.prog 17 #[.pointer (some ⟨g, 0, none⟩), .int .i64 m] w (Picked w g p m) := by
  have HR := Lib.hid hR
  have HG := Lib.hid hR.lt
  obtain ⟨B, n, c, h1, h2, h3, h4, h5⟩ := hR
  obtain ⟨hm1, hm2⟩ := hm
  have hmd : decide (m < 1) = false := by simp; omega
  by_cases hn : n = 0
  · subst hn
    clear h4
    go_enter Try.func17, Try.ntmps17
    go_wp2_with fail
    go_ret
    exact ⟨0, rfl, by omega, by omega, rd_set HR.out, only_set _, size_setCell _ _ _⟩
  · obtain ⟨b, off, rfl, hb, hc⟩ := h4.resolve_left hn
    have hn0 : ((n : Int) == 0) = false := by simp; omega
    have hbg : b ≠ g := by omega
    by_cases hk : p < n
    · obtain ⟨u, u1, u2, u3⟩ := hc p hk
      clear hc h4
      have hv1 := Int.emod_nonneg u (show m ≠ 0 by omega)
      have hv2 := Int.emod_lt_of_pos u (show 0 < m by omega)
      have HV1 := Lib.hid hv1; clear hv1
      have HV2 := Lib.hid hv2; clear hv2
      have hne : m ≠ 0 := by omega
      go_enter Try.func17, Try.ntmps17
      go_wp2_with fail
      go_ret
      exact ⟨u % m, by simp, HV1.out, HV2.out, rd_set HR.out, only_set _, size_setCell _ _ _⟩
    · have hnp : 0 < n := by omega
      obtain ⟨q, hq, hqn⟩ : ∃ q : Nat, (p : Int) % (n : Int) = q ∧ q < n := ⟨p % n, by simp, Nat.mod_lt _ hnp⟩
      obtain ⟨t, ht, htn⟩ : ∃ t : Nat, ((p : Int) * 7 + 3) % (n : Int) = t ∧ t < n := ⟨(p * 7 + 3) % n, by simp, Nat.mod_lt _ hnp⟩
      obtain ⟨d, hd, hd1⟩ : ∃ d : Nat, (p : Int) / (n : Int) = d ∧ d ≤ p := ⟨p / n, by simp, Nat.div_le_self _ _⟩
      obtain ⟨u, u1, u2, u3⟩ := hc q hqn
      obtain ⟨v, v1, v2, v3⟩ := hc t htn
      clear hc h4
      have hkd : ¬ ((p : Int) < (n : Int)) := by omega
      have hnz : (n : Int) ≠ 0 := by omega
      have hmz : m ≠ 0 := by omega
      have hqi : (q : Int) < (n : Int) := by omega
      have hti : (t : Int) < (n : Int) := by omega
      have w1 : IntKind.i64.wrap ((p : Int) * 7) = (p : Int) * 7 := by rw [IntKind.wrap_i64]; omega
      have w2 : IntKind.i64.wrap ((p : Int) * 7 + 3) = (p : Int) * 7 + 3 := by rw [IntKind.wrap_i64]; omega
      have w3 : IntKind.i64.wrap (u * 131) = u * 131 := by rw [IntKind.wrap_i64]; omega
      have w4 : IntKind.i64.wrap (v * 1117) = v * 1117 := by rw [IntKind.wrap_i64]; omega
      have w5 : IntKind.i64.wrap (u * 131 + v * 1117) = u * 131 + v * 1117 := by rw [IntKind.wrap_i64]; omega
      have w6 : IntKind.i64.wrap ((p : Int) * 29) = (p : Int) * 29 := by rw [IntKind.wrap_i64]; omega
      have w7 : IntKind.i64.wrap (u * 131 + v * 1117 + (p : Int) * 29) = u * 131 + v * 1117 + (p : Int) * 29 := by rw [IntKind.wrap_i64]; omega
      have w8 : IntKind.i64.wrap ((d : Int) * 53) = (d : Int) * 53 := by rw [IntKind.wrap_i64]; omega
      have w9 : IntKind.i64.wrap (u * 131 + v * 1117 + (p : Int) * 29 + (d : Int) * 53) = u * 131 + v * 1117 + (p : Int) * 29 + (d : Int) * 53 := by rw [IntKind.wrap_i64]; omega
      go_enter Try.func17, Try.ntmps17
      go_wp2_with fail
      go_quiet (fail)
      clear w1 w2 w3 w4 w5 w6 w7 w8 w9
      have hx1 : 0 ≤ u * 131 + v * 1117 + (p : Int) * 29 + (d : Int) * 53 := by omega
      have hx2 : u * 131 + v * 1117 + (p : Int) * 29 + (d : Int) * 53 ≤ 1000000000000 := by omega
      generalize u * 131 + v * 1117 + (p : Int) * 29 + (d : Int) * 53 = x at *
      clear hq ht hd
      obtain ⟨z, hz, hz0⟩ := xor_ex x (x / 64) (by omega) (by omega)
      have HV1 := Lib.hid (Int.emod_nonneg z (show m ≠ 0 by omega))
      have HV2 := Lib.hid (Int.emod_lt_of_pos z (show 0 < m by omega))
      go_wp2
      go_ret
      exact ⟨z % m, by simp, HV1.out, HV2.out, rd_set HR.out, Only.drewN (only_set _) nq, size_setCell _ _ _⟩
end Go.Proofs.Ytcmampicgdobcaa
