/- Slices of units without tasks: compare, mark. No condition but on sizes. -/
import Derived.Test.YtojbljaleconpaaLw
import Derived.Test.YtojbljaleconpaaDt
namespace Go.Proofs.Ytojbljaleconpaa
open Go.RowKit
/-- n units without tasks; f tells which are open -/
def Units (w : World) (lo hi : Nat) (A : Option Addr) (n : Nat) (f : Nat → Bool) : Prop :=
  n = 0 ∨ ∃ b off, A = some ⟨b, off, none⟩ ∧ lo ≤ b ∧ b < hi ∧ ∀ j, j < n → w.frozen? ⟨b, off + j * 2, none⟩ = false ∧ w.cell? ⟨b, off + j * 2, none⟩ = some (.bool (f j)) ∧ ∃ Aj cj, w.cell? ⟨b, off + j * 2 + 1, none⟩ = some (.slice Aj 0 cj)
section
variable {w w' : World} {lo hi lo' hi' l h B n : Nat} {A : Option Addr} {f g : Nat → Bool}
theorem Units.keep (h : Units w lo hi A n f) (hk : ∀ p : Addr, lo ≤ p.block → p.block < hi → w'.cell? p = w.cell? p ∧ w'.frozen? p = w.frozen? p) : Units w' lo hi A n f := by
  rcases h with h | ⟨b, off, h1, h2, h3, h4⟩
  · exact .inl h
  · refine .inr ⟨b, off, h1, h2, h3, fun j hj => ?_⟩
    obtain ⟨e1, e2, Aj, cj, e3⟩ := h4 j hj
    exact ⟨by rw [(hk ⟨b, off + j * 2, none⟩ h2 h3).2]; exact e1, by rw [(hk ⟨b, off + j * 2, none⟩ h2 h3).1]; exact e2, Aj, cj, by rw [(hk ⟨b, off + j * 2 + 1, none⟩ h2 h3).1]; exact e3⟩
theorem Units.below (h : Units w lo hi A n f) (hb : Below B w w') (hB : hi ≤ B) : Units w' lo hi A n f :=
  h.keep fun _ _ h2 => ⟨hb.cell (by omega), hb.frozen (by omega)⟩
theorem Units.only (k : Units w l h A n f) (a : Only lo hi w w') (hd : h ≤ lo ∨ hi ≤ l) (hs : h ≤ w.heap.size) : Units w' l h A n f :=
  k.keep fun p h1 h2 => ⟨World.cell?_of_block (a.block p.block (by omega) (by omega)), World.frozen?_of_block (a.block p.block (by omega) (by omega))⟩
theorem Units.mono (h : Units w lo hi A n f) (h1 : lo' ≤ lo) (h2 : hi ≤ hi') : Units w lo' hi' A n f := by
  rcases h with h | ⟨b, off, e1, e2, e3, e4⟩
  · exact .inl h
  · exact .inr ⟨b, off, e1, by omega, by omega, e4⟩
theorem Units.drewN (h : Units w lo hi A n f) (m : Nat) : Units (w.drewN m) lo hi A n f := h
theorem Units.at_ (h : Units w lo hi A n f) {k : Nat} (hk : k < n) : ∃ b off Aj cj, A = some ⟨b, off, none⟩ ∧ lo ≤ b ∧ b < hi ∧ w.frozen? ⟨b, off + k * 2, none⟩ = false ∧ w.cell? ⟨b, off + k * 2, none⟩ = some (.bool (f k)) ∧ w.cell? ⟨b, off + k * 2 + 1, none⟩ = some (.slice Aj 0 cj) := by
  rcases h with h | ⟨b, off, h1, h2, h3, h4⟩
  · omega
  · obtain ⟨e1, e2, Aj, cj, e3⟩ := h4 k hk
    exact ⟨b, off, Aj, cj, h1, h2, h3, e1, e2, e3⟩
theorem Units.congr (h : Units w lo hi A n f) (e : ∀ j, j < n → f j = g j) : Units w lo hi A n g := by
  rcases h with h | ⟨b, off, h1, h2, h3, h4⟩
  · exact .inl h
  · refine .inr ⟨b, off, h1, h2, h3, fun j hj => ?_⟩
    obtain ⟨e1, e2, e3⟩ := h4 j hj
    exact ⟨e1, by rw [e2, e j hj], e3⟩
/-- one unit is opened or closed -/
theorem Units.set_ {b off k : Nat} (h : Units w lo hi (some ⟨b, off, none⟩) n f) (hk : k < n) (v : Bool) : Units (w.setCell ⟨b, off + k * 2, none⟩ (.bool v)) lo hi (some ⟨b, off, none⟩) n (fun j => if j = k then v else f j) := by
  rcases h with h | ⟨b', off', e, h2, h3, h4⟩
  · exact .inl h
  · simp only [Option.some.injEq, Addr.mk.injEq, and_true] at e
    obtain ⟨rfl, rfl⟩ := e
    refine .inr ⟨b, off, rfl, h2, h3, fun j hj => ?_⟩
    obtain ⟨e1, e2, Aj, cj, e3⟩ := h4 j hj
    refine ⟨by rw [World.frozen?_setCell]; exact e1, ?_, Aj, cj, ?_⟩
    · show _ = some (Value.bool (if j = k then v else f j))
      by_cases hjk : j = k
      · subst hjk
        rw [if_pos rfl]
        exact World.cell?_setCell_same w _ _ e2
      · rw [if_neg hjk, World.cell?_setCell_other _ _ _ _ (by intro h; simp only [Addr.mk.injEq] at h; omega)]
        exact e2
    · rw [World.cell?_setCell_other _ _ _ _ (by intro h; simp only [Addr.mk.injEq] at h; omega)]
      exact e3
end
theorem eqTaskS_nil (A B : Option Addr) (c d : Nat) (w : World) : Calls Try.prog 87 #[.slice A 0 c, .slice B 0 d] w fun e w' => e = .returned (.bool true) ∧ w = w' := by
  go_enter Try.func87, Try.ntmps87
  go_wp2_with fail
  refine wp_loop_rounds 1 ?_
  rw [rounds_succ]; go_wp2_with fail
  go_ret
  exact ⟨by simp, rfl⟩
theorem markTaskS_nil (A : Option Addr) (c : Nat) (m : Int) (w : World) : Calls Try.prog 83 #[.slice A 0 c, .int .i64 m] w fun e w' => e = .returned (.int .i64 m) ∧ w = w' := by
  go_enter Try.func83, Try.ntmps83
  go_wp2_with fail
  refine wp_loop_rounds 1 ?_
  rw [rounds_succ]; go_wp2_with fail
  go_ret
  exact ⟨by simp, rfl⟩
theorem heldTaskS_nil (A : Option Addr) (c : Nat) (m : Int) (w : World) : Calls Try.prog 84 #[.slice A 0 c, .int .i64 m] w fun e w' => e = .returned (.int .i64 m) ∧ w = w' := by
  go_enter Try.func84, Try.ntmps84
  go_wp2_with fail
  refine wp_loop_rounds 1 ?_
  rw [rounds_succ]; go_wp2_with fail
  go_ret
  exact ⟨by simp, rfl⟩
theorem eqUnit_nil (f : Bool) (A B : Option Addr) (c d : Nat) (w : World) : Calls Try.prog 82 #[.agg #[.bool f, .slice A 0 c], .agg #[.bool f, .slice B 0 d]] w fun e w' => e = .returned (.bool true) ∧ Below w.heap.size w w' := by
  go_enter Try.func82, Try.ntmps82
  go_wp2_with fail
  refine (eqTaskS_nil A B c d _).mono ?_; rintro e w' ⟨rfl, rfl⟩
  go_wp2_with fail
  go_ret
  exact ⟨by simp, ((Below.refl _ _).alloc (Nat.le_refl _) _).alloc (by simp) _⟩
theorem cell_belowU {B b o : Nat} {w w' : World} {v : Value} (h : Below B w w') (hq : b < B) (hc : w.cell? ⟨b, o, none⟩ = some v) : w'.cell? ⟨b, o, none⟩ = some v := (h.cell (p := ⟨b, o, none⟩) hq).trans hc
theorem eqUnitS_eq (A B : Option Addr) (c d n lo hi lo' hi' : Nat) (f : Nat → Bool) (w : World) (hA : Units w lo hi A n f) (hB : Units w lo' hi' B n f) (hn : n ≤ 1048576) (h1 : hi ≤ w.heap.size) (h2 : hi' ≤ w.heap.size) :
    Calls Try.prog 69 #[.slice A n c, .slice B n d] w fun e w' => e = .returned (.bool true) ∧ Below w.heap.size w w' := by
  have HA := Lib.hid hA; clear hA
  have HC := Lib.hid hB; clear hB
  go_enter Try.func69, Try.ntmps69
  go_wp2_with fail
  go_loopw [5] (fun i wr => ∃ k : Nat, k ≤ n ∧ i = .int .i64 k ∧ Below w.heap.size w wr) (fun i _ => n - (intOf i).toNat)
  case atStart => exact ⟨0, by omega, rfl, Below.refl _ _⟩
  case round =>
    obtain ⟨k, hk, rfl, hb⟩ := hrel
    have hs := hb.size
    have HB := Lib.hid hb
    replace HA := Lib.hid (HA.out.below hb h1)
    replace HC := Lib.hid (HC.out.below hb h2)
    clear hb
    by_cases hlt : k < n
    · obtain ⟨b1, off1, A1, c1, rfl, _, hbh1, _, hc1, hc2⟩ := HA.out.at_ hlt
      obtain ⟨b2, off2, A2, c2, rfl, _, hbh2, _, hd1, hd2⟩ := HC.out.at_ hlt
      have hklt : (k : Int) < n := by omega
      have hq1 : b1 < wr.drew.heap.size := by show b1 < wr.heap.size; omega
      have hq2 : b2 < wr.drew.heap.size := by show b2 < wr.heap.size; omega
      have H9 := Lib.hid (eqUnit_nil (f k) A1 A2 c1 c2 wr.drew)
      go_wp2_with fail
      go_region_held3 (fun w' => w'.cell? ⟨b1, off1 + k * 2, none⟩ = some (.bool (f k)) ∧ w'.cell? ⟨b1, off1 + k * 2 + 1, none⟩ = some (.slice A1 0 c1) ∧ w'.cell? ⟨b2, off2 + k * 2, none⟩ = some (.bool (f k)) ∧ w'.cell? ⟨b2, off2 + k * 2 + 1, none⟩ = some (.slice A2 0 c2))
        (go_keep)
        (first | (go_at_call 82; refine H9.out.mono ?_; rintro e w5 ⟨rfl, hb5⟩; have g1 := cell_belowU hb5 hq1 hc1; have g2 := cell_belowU hb5 hq1 hc2; have g3 := cell_belowU hb5 hq2 hd1; have g4 := cell_belowU hb5 hq2 hd2; replace HB := Lib.hid ((Below.drewN HB.out 1).trans (hb5.mono (show w.heap.size ≤ wr.drew.heap.size from hs))); clear hb5))
      go_wp2_with fail
      exact ⟨⟨k + 1, by omega, by go_num, HB.out⟩, by simp [intOf]; omega⟩
    · go_wp2_with fail
      go_ret
      exact ⟨by simp, HB.out⟩
/-- the marks of units -/
def umark (m : Int) (j : Nat) : Bool := ((m + (j : Int)) % 3 == 0)
theorem markUnitS_any (A : Option Addr) (c n lo hi : Nat) (f : Nat → Bool) (m : Int) (w : World) (hA : Units w lo hi A n f) (hn : n ≤ 1048576) (hm : 0 ≤ m ∧ m ≤ 1099511627776) :
    Calls Try.prog 70 #[.slice A n c, .int .i64 m] w fun e w' => e = .returned (.int .i64 (m + n)) ∧ Units w' lo hi A n (umark m) ∧ Only lo hi w w' ∧ w'.heap.size = w.heap.size := by
  have HA := Lib.hid hA; clear hA
  go_enter Try.func70, Try.ntmps70
  go_wp2_with fail
  go_loopw [1, 5] (fun x i wr => ∃ k : Nat, ∃ g : Nat → Bool, k ≤ n ∧ i = .int .i64 k ∧ x = .int .i64 (m + k) ∧ Units wr lo hi A n g ∧ (∀ j, j < k → g j = umark m j) ∧ Only lo hi w wr ∧ wr.heap.size = w.heap.size) (fun _ i _ => n - (intOf i).toNat)
  case atStart => exact ⟨0, f, by omega, rfl, by simp, HA.out, fun j hj => by omega, Only.refl _ _ _, rfl⟩
  case round =>
    obtain ⟨k, g, hk, rfl, rfl, hU, hg, hO, hsz⟩ := hrel
    replace HA := Lib.hid hU; clear hU
    have HG := Lib.hid hg; clear hg
    have HO := Lib.hid hO; clear hO
    have HSZ := Lib.hid hsz
    obtain ⟨hz1, hz2⟩ := le_le hsz
    clear hsz
    by_cases hlt : k < n
    · obtain ⟨b1, off1, A1, c1, rfl, hl1, hbh1, hf1, hc1, hc2⟩ := HA.out.at_ hlt
      have hklt : (k : Int) < n := by omega
      obtain ⟨v, hv⟩ : ∃ v, ((m + (k : Int)) % 3 == 0) = v := ⟨_, rfl⟩
      have HV : Hid (umark m k = v) := Lib.hid hv
      have hvw : IntKind.i64.wrap (m + (k : Int) + 1) = m + (k : Int) + 1 := wrap_small (by omega)
      have hvw2 : (m + (k : Int)).tmod 3 = (m + (k : Int)) % 3 := Int.tmod_eq_emod_of_nonneg (by omega)
      have HU2 := Lib.hid (HA.out.set_ hlt v)
      have ho : Only lo hi wr (wr.setCell ⟨b1, off1 + k * 2, none⟩ (.bool v)) := (Only.refl _ _ _).setCell (p := ⟨b1, off1 + k * 2, none⟩) hl1 hbh1 _
      have HO2 := Lib.hid (HO.out.trans ho)
      have HS2 : Hid ((wr.setCell ⟨b1, off1 + k * 2, none⟩ (.bool v)).heap.size = w.heap.size) := Lib.hid (by simp [World.setCell]; exact HSZ.out)
      clear ho
      go_wp2_with fail
      refine (markTaskS_nil A1 c1 _ _).mono ?_; rintro e w' ⟨rfl, rfl⟩
      go_wp2_with fail
      refine ⟨⟨k + 1, _, by omega, by go_num, by go_num, HU2.out, fun j hj => ?_, HO2.out, HS2.out⟩, by simp [intOf]; omega⟩
      by_cases hjk : j = k
      · subst hjk; rw [if_pos rfl, HV.out]
      · rw [if_neg hjk]; exact HG.out j (by omega)
    · have hke : k = n := by omega
      subst hke
      have HF := Lib.hid (HA.out.congr HG.out)
      go_wp2_with fail
      go_ret
      exact ⟨by simp, HF.out, HO.out, HSZ.out⟩
theorem heldUnitS_any (A : Option Addr) (c n lo hi : Nat) (m : Int) (w : World) (hA : Units w lo hi A n (umark m)) (hn : n ≤ 1048576) (hm : 0 ≤ m ∧ m ≤ 1099511627776) :
    Calls Try.prog 72 #[.slice A n c, .int .i64 m] w fun e w' => e = .returned (.int .i64 (m + n)) ∧ w = w' := by
  have HA := Lib.hid hA; clear hA
  go_enter Try.func72, Try.ntmps72
  go_wp2_with fail
  go_loop [1, 5] (fun x i => ∃ k : Nat, k ≤ n ∧ i = .int .i64 k ∧ x = .int .i64 (m + k)) (fun _ i => n - (intOf i).toNat)
  case atStart => exact ⟨0, by omega, rfl, by simp⟩
  case round =>
    obtain ⟨k, hk, rfl, rfl⟩ := hrel
    by_cases hlt : k < n
    · obtain ⟨b1, off1, A1, c1, rfl, hl1, hbh1, hf1, hc1, hc2⟩ := HA.out.at_ hlt
      have hklt : (k : Int) < n := by omega
      simp only [umark] at hc1
      obtain ⟨v, hv⟩ : ∃ v, ((m + (k : Int)) % 3 == 0) = v := ⟨_, rfl⟩
      rw [hv] at hc1
      have hvw : IntKind.i64.wrap (m + (k : Int) + 1) = m + (k : Int) + 1 := wrap_small (by omega)
      have hvw2 : (m + (k : Int)).tmod 3 = (m + (k : Int)) % 3 := Int.tmod_eq_emod_of_nonneg (by omega)
      have hm0 : ¬ (m + (k : Int) + 1 < 0) := by omega
      go_wp2_with fail
      refine (heldTaskS_nil A1 c1 _ _).mono ?_; rintro e w' ⟨rfl, rfl⟩
      go_wp2_with fail
      go_round
      case rel => exact ⟨k + 1, by omega, by go_num, by go_num⟩
      case measure => simp [intOf]; omega
    · have hke : k = n := by omega
      subst hke
      go_wp2_with fail
      go_ret
      exact ⟨by simp, rfl⟩
end Go.Proofs.Ytojbljaleconpaa
