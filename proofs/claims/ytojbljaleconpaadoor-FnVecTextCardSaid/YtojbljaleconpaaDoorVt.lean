/- VecText, both. No condition but on sizes. -/
import Derived.Test.YtojbljaleconpaaDoorVa
import Derived.Test.YtojbljaleconpaaDoorVb
import Derived.Test.YtojbljaleconpaaDoorLw
import Derived.Lib.SlBytesRow
import Derived.Lib.ItoaNum
import Derived.Lib.Join
import Derived.Deep.RegionWith
namespace Go.Proofs.YtojbljaleconpaaDoor
open Go.RowKit
theorem alloc_belowV (w : World) (o : Obj) : Below w.heap.size w (w.alloc o) := (Below.refl _ _).alloc (Nat.le_refl _) _
theorem cell_belowV {B b o : Nat} {w w' : World} {v : Value} (h : Below B w w') (hq : b < B) (hc : w.cell? ⟨b, o, none⟩ = some v) : w'.cell? ⟨b, o, none⟩ = some v := (h.cell (p := ⟨b, o, none⟩) hq).trans hc
/-- the text of a number up to 99 -/
def txt (n : Nat) : ByteArray := ⟨(Lib.decDigits n).toArray⟩
theorem dig_lo {k : Nat} (h : k < 10) : Lib.decDigits k = [UInt8.ofNat (48 + k)] := by rw [Lib.decDigits]; simp [h]
theorem dig_hi {k : Nat} (h : 10 ≤ k) : Lib.decDigits k = Lib.decDigits (k / 10) ++ [UInt8.ofNat (48 + k % 10)] := by rw [Lib.decDigits]; simp [show ¬ k < 10 by omega]
theorem conv1 (W : World) (b k : Nat) (hk : k < 10) (hc : W.cell? ⟨b, 0, none⟩ = some (.int .u8 (48 + (k : Int)))) : (convert 27 9 (.slice (some ⟨b, 0, none⟩) 1 1)).run Tryd.prog W = .ok (.string ⟨#[UInt8.ofNat (48 + k)]⟩) W := by
  have h := Lib.run_convert_whole (P := Tryd.prog) W 27 5 9 Tryd.underlying27 Tryd.underlying5 Tryd.underlying9 b 0 ⟨#[UInt8.ofNat (48 + k)]⟩ (fun i hi => by
    have h0 : i = 0 := by simp [ByteArray.size] at hi; omega
    subst h0
    have e : ((⟨#[UInt8.ofNat (48 + k)]⟩ : ByteArray)[0].toNat : Int) = 48 + (k : Int) := by
      show (((UInt8.ofNat (48 + k)).toNat : Nat) : Int) = _
      rw [UInt8.toNat_ofNat']; omega
    rw [e]; exact hc) 1
  exact h
theorem l6Dec_lo (k : Nat) (hk : k < 10) (w : World) : Calls Tryd.prog 11 #[.int .i64 k] w fun e w' => e = .returned (.string (txt k)) ∧ Below w.heap.size w w' := by
  have h1 : ¬ ((k : Int) < 0) := by omega
  have h2 : (k : Int) < 10 := by omega
  have hcv := fun (W : World) (b : Nat) (hc : W.cell? ⟨b, 0, none⟩ = some (.int .u8 (48 + (k : Int)))) => conv1 W b k hk hc
  have HE : Hid (txt k = ⟨#[UInt8.ofNat (48 + k)]⟩) := Lib.hid (by rw [txt, dig_lo hk])
  go_enter Tryd.func11, Tryd.ntmps11
  go_wp2_with fail
  go_ret
  exact ⟨by simp [HE.out], alloc_belowV _ _⟩
set_option maxHeartbeats 1000000 in
theorem l6Dec_hi (n : Nat) (h10 : 10 ≤ n) (h100 : n < 100) (w : World) : Calls Tryd.prog 11 #[.int .i64 n] w fun e w' => e = .returned (.string (txt n)) ∧ Below w.heap.size w w' := by
  obtain ⟨q, hq⟩ : ∃ q, n / 10 = q := ⟨_, rfl⟩
  obtain ⟨r, hr⟩ : ∃ r, n % 10 = r := ⟨_, rfl⟩
  have hq10 : q < 10 := by omega
  have hr10 : r < 10 := by omega
  have h1 : ¬ ((n : Int) < 0) := by omega
  have h2 : ¬ (n : Int) < 10 := by omega
  obtain ⟨X, hX⟩ : ∃ X, txt q = X := ⟨_, rfl⟩
  obtain ⟨Y, hY⟩ : ∃ Y, (⟨#[UInt8.ofNat (48 + r)]⟩ : ByteArray) = Y := ⟨_, rfl⟩
  have HE : Hid (txt n = X ++ Y) := Lib.hid (by
    rw [← hX, ← hY]
    apply ByteArray.ext
    apply Array.toList_inj.1
    rw [txt, txt, dig_hi h10, hq, hr]
    simp)
  have hXs : X.size ≤ 10 := by rw [← hX, txt, dig_lo hq10]; show 1 ≤ 10; omega
  have hYs : Y.size ≤ 10 := by rw [← hY]; show 1 ≤ 10; omega
  have hsum : ¬ ((9223372036854775807 : Int) < (X.size : Int) + (Y.size : Int)) := by omega
  have hqi : (n : Int) / 10 = q := by omega
  have hri : (n : Int) % 10 = r := by omega
  have hcv := fun (W : World) (b : Nat) (hc : W.cell? ⟨b, 0, none⟩ = some (.int .u8 (48 + (r : Int)))) => conv1 W b r hr10 hc
  rw [hY] at hcv
  have hlo := fun W => l6Dec_lo q hq10 W
  rw [hX] at hlo
  have HC := Lib.hid hlo
  clear hlo hX hY
  have htd : (n : Int).tdiv 10 = q := by rw [Int.tdiv_eq_ediv_of_nonneg (by omega)]; exact hqi
  have htm : (n : Int).tmod 10 = r := by rw [Int.tmod_eq_emod_of_nonneg (by omega)]; exact hri
  have hw1 : IntKind.i64.wrap (q : Int) = q := wrap_small (by omega)
  have hw2 : IntKind.i64.wrap (r : Int) = r := wrap_small (by omega)
  have hw3 : IntKind.i64.wrap (48 + (r : Int)) = 48 + (r : Int) := wrap_small (by omega)
  have hw4 : IntKind.u8.wrap (48 + (r : Int)) = 48 + (r : Int) := by
    simp only [IntKind.wrap, IntKind.signed, IntKind.bits]
    simp
    omega
  clear hq hr hqi hri
  go_enter Tryd.func11, Tryd.ntmps11
  go_wp2_with fail
  have hA := alloc_belowV w (.cells #[.int .u8 (48 + (r : Int))] 5)
  have HA := Lib.hid hA.drew
  have hA0 : (w.alloc (.cells #[.int .u8 (48 + (r : Int))] 5)).drew.cell? ⟨w.heap.size, 0, none⟩ = some (.int .u8 (48 + (r : Int))) := by
    show (w.alloc (.cells #[.int .u8 (48 + (r : Int))] 5)).cell? ⟨w.heap.size, 0, none⟩ = _
    rw [World.cell?_alloc_at _ _ _ _ rfl]; rfl
  have hlt : w.heap.size < (w.alloc (.cells #[.int .u8 (48 + (r : Int))] 5)).drew.heap.size := by show w.heap.size < (w.alloc _).heap.size; simp
  have HA0 := Lib.hid hA0
  clear hA hA0
  go_region_with (first
    | (go_at_call 11; (with_reducible refine (HC.out w.drew).mono ?_); rintro e w5 ⟨rfl, hb5⟩; have HB5 : Hid (Below w.heap.size w w5) := Lib.hid ((Below.refl _ _).drew.trans hb5); clear hb5)
    | (go_at_call 11; (with_reducible refine (HC.out (w.alloc (.cells #[.int .u8 (48 + (r : Int))] 5)).drew).mono ?_); rintro e w5 ⟨rfl, hb5⟩; have HB5 : Hid (Below w.heap.size w w5) := Lib.hid (HA.out.trans (hb5.mono (Nat.le_of_lt hlt))); have g0 := cell_belowV hb5 hlt HA0.out; clear hb5))
  · go_wp2_with fail
    go_ret
    exact ⟨by rw [HE.out]; rfl, HB5.out.alloc HB5.out.size _⟩
  · go_wp2_with fail
    go_ret
    exact ⟨by rw [HE.out]; rfl, HB5.out⟩
  · go_wp2_with fail
    go_ret
    exact ⟨by rw [HE.out]; rfl, HB5.out⟩
theorem l6Dec_any (n : Nat) (h : n < 100) (w : World) : Calls Tryd.prog 11 #[.int .i64 n] w fun e w' => e = .returned (.string (txt n)) ∧ Below w.heap.size w w' := by
  by_cases h10 : n < 10
  · exact l6Dec_lo n h10 w
  · exact l6Dec_hi n (by omega) h w
/-- what both VecText return -/
def textB (ys : List Int) : ByteArray :=
  match ys with
  | [a, b, c] => if vecB ys then txt a.toNat ++ ⟨#[44]⟩ ++ txt b.toNat ++ ⟨#[44]⟩ ++ txt c.toNat else ⟨#[]⟩
  | _ => ⟨#[]⟩
theorem textB_no {ys : List Int} (h : vecB ys = false) : textB ys = ⟨#[]⟩ := by
  unfold textB
  split
  · rw [if_neg (by rw [h]; simp)]
  · rfl
theorem txt_size {n : Nat} (h : n < 100) : 1 ≤ (txt n).size ∧ (txt n).size ≤ 10 := by
  by_cases h10 : n < 10
  · rw [txt, dig_lo h10]; show 1 ≤ 1 ∧ 1 ≤ 10; omega
  · rw [txt, dig_hi (by omega), dig_lo (show n / 10 < 10 by omega)]; show 1 ≤ 2 ∧ 2 ≤ 10; omega
theorem str_add_empty (s : ByteArray) : (⟨#[]⟩ : ByteArray) ++ s = s := by
  apply ByteArray.ext; apply Array.toList_inj.1; simp
theorem str_assoc (a b c : ByteArray) : a ++ b ++ c = a ++ (b ++ c) := by
  apply ByteArray.ext; apply Array.toList_inj.1; simp
theorem str_size (a b : ByteArray) : (a ++ b).size = a.size + b.size := by simp
set_option maxHeartbeats 1000000 in
set_option maxRecDepth 100000 in
theorem vecTextS_any (A : Option Addr) (c lo hi : Nat) (ys : List Int) (w : World) (hI : Ints w lo hi A c ys) (hl : ys.length ≤ 1048576) (h1 : hi ≤ w.heap.size) :
    Calls Tryd.prog 5 #[.slice A ys.length c] w fun e w' => e = .returned (.string (textB ys)) ∧ Below w.heap.size w w' := by
  have HI := Lib.hid hI; clear hI
  cases hv : vecB ys
  · have HV := Lib.hid hv
    have HE := Lib.hid (textB_no hv)
    clear hv
    by_cases h0 : 0 < ys.length
    · have h0i : (0 : Int) < ys.length := by omega
      go_enter Tryd.func5, Tryd.ntmps5
      go_wp2_with fail
      refine wp_loop_rounds 1 ?_
      rw [rounds_succ]; go_wp2_with fail
      refine (vecValidS_any A c lo hi ys w HI.out hl).mono ?_; rintro e w' ⟨rfl, rfl⟩
      rw [HV.out]
      go_wp2_with fail
      go_ret
      exact ⟨by simp [HE.out], Below.refl _ _⟩
    · have h0i : ¬ (0 : Int) < ys.length := by omega
      go_enter Tryd.func5, Tryd.ntmps5
      go_wp2_with fail
      refine wp_loop_rounds 1 ?_
      rw [rounds_succ]; go_wp2_with fail
      go_ret
      exact ⟨by simp [HE.out], Below.refl _ _⟩
  have HV := Lib.hid hv
  obtain ⟨a, b, d, rfl, ha1, ha2, hb1, hb2, hd1, hd2⟩ := vec_form hv
  obtain ⟨a, rfl⟩ := Int.eq_ofNat_of_zero_le ha1
  obtain ⟨b, rfl⟩ := Int.eq_ofNat_of_zero_le hb1
  obtain ⟨d, rfl⟩ := Int.eq_ofNat_of_zero_le hd1
  obtain ⟨X, hX⟩ : ∃ X, txt a = X := ⟨_, rfl⟩
  obtain ⟨Y, hY⟩ : ∃ X, txt b = X := ⟨_, rfl⟩
  obtain ⟨Z, hZ⟩ : ∃ X, txt d = X := ⟨_, rfl⟩
  have HE : Hid (textB [(a : Int), (b : Int), (d : Int)] = X ++ ⟨#[44]⟩ ++ Y ++ ⟨#[44]⟩ ++ Z) := Lib.hid (by
    have e : textB [(a : Int), (b : Int), (d : Int)] = if vecB [(a : Int), (b : Int), (d : Int)] = true then txt a ++ ⟨#[44]⟩ ++ txt b ++ ⟨#[44]⟩ ++ txt d else ⟨#[]⟩ := rfl
    rw [e, if_pos hv, hX, hY, hZ])
  have sX := txt_size (n := a) (by omega)
  have sY := txt_size (n := b) (by omega)
  have sZ := txt_size (n := d) (by omega)
  rw [hX] at sX
  rw [hY] at sY
  rw [hZ] at sZ
  have hA := fun W => l6Dec_any a (by omega) W
  have hB := fun W => l6Dec_any b (by omega) W
  have hD := fun W => l6Dec_any d (by omega) W
  rw [hX] at hA
  rw [hY] at hB
  rw [hZ] at hD
  have HA := Lib.hid hA
  have HB := Lib.hid hB
  have HD := Lib.hid hD
  obtain ⟨g, off, rfl, _, hgh, hall⟩ := HI.out.form (by simp)
  have hc0 := (hall 0 a rfl).1
  rw [Nat.add_zero] at hc0
  have hc1 := (hall 1 b rfl).1
  have hc2 := (hall 2 d rfl).1
  have e44 : (⟨#[44]⟩ : ByteArray).size = 1 := rfl
  have z1 : ¬ ((9223372036854775807 : Int) < (X.size : Int) + 1) := by omega
  have z2 : ¬ ((9223372036854775807 : Int) < (X.size : Int) + 1 + (Y.size : Int)) := by omega
  have z3 : ¬ ((9223372036854775807 : Int) < (X.size : Int) + 1 + (Y.size : Int) + 1) := by omega
  have z4 : ¬ ((9223372036854775807 : Int) < (X.size : Int) + 1 + (Y.size : Int) + 1 + (Z.size : Int)) := by omega
  have hV := fun W hW => vecValidS_any (some ⟨g, off, none⟩) c lo hi [(a : Int), (b : Int), (d : Int)] W hW hl
  rw [hv] at hV
  have HVV := Lib.hid hV
  clear hv hX hY hZ hA hB hD hall hV
  go_enter Tryd.func5, Tryd.ntmps5
  go_wp2_with fail
  refine wp_loop_rounds 4 ?_
  rw [rounds_succ]; go_wp2_with fail
  refine (HVV.out w HI.out).mono ?_; rintro e w' ⟨rfl, rfl⟩
  go_wp2_with fail
  refine (HA.out w).mono ?_; rintro e w1 ⟨rfl, hb⟩
  go_wp2_with fail
  have hs1 := hb.size
  replace HI := Lib.hid (HI.out.below hb (by omega))
  have HBw1 := Lib.hid hb
  replace hc1 := cell_belowV hb (by omega) hc1
  replace hc2 := cell_belowV hb (by omega) hc2
  clear hb
  rw [rounds_succ]; go_wp2_with fail
  refine (HVV.out w1 HI.out).mono ?_; rintro e w' ⟨rfl, rfl⟩
  go_wp2_with fail
  refine (HB.out w1).mono ?_; rintro e w2 ⟨rfl, hb⟩
  go_wp2_with fail
  have hs2 := hb.size
  replace HI := Lib.hid (HI.out.below hb (by omega))
  have HBw2 := Lib.hid hb
  replace hc1 := cell_belowV hb (by omega) hc1
  replace hc2 := cell_belowV hb (by omega) hc2
  clear hb
  rw [rounds_succ]; go_wp2_with fail
  refine (HVV.out w2 HI.out).mono ?_; rintro e w' ⟨rfl, rfl⟩
  go_wp2_with fail
  refine (HD.out w2).mono ?_; rintro e w3 ⟨rfl, hb⟩
  go_wp2_with fail
  have hs3 := hb.size
  have HF : Hid (Below w.heap.size w w3) := Lib.hid (HBw1.out.trans ((HBw2.out.mono (by omega)).trans (hb.mono (by omega))))
  clear hb
  rw [rounds_succ]; go_wp2_with fail
  go_ret
  exact ⟨by rw [HE.out]; simp [str_add_empty], HF.out⟩
end Go.Proofs.YtojbljaleconpaaDoor
