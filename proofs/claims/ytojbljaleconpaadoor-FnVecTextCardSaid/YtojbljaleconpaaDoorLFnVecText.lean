/- The walk of one statement: by the contracts of what it calls it returns true and changes nothing that was there. No condition. -/
import Derived.Test.YtojbljaleconpaaDoorDd
import Derived.Test.YtojbljaleconpaaDoorVi
namespace Go.Proofs.YtojbljaleconpaaDoor
open Go.RowKit
/-- the digits of a number below 100 -/
def tdig (n : Nat) : List UInt8 := if n < 10 then [UInt8.ofNat (48 + n)] else [UInt8.ofNat (48 + n / 10), UInt8.ofNat (48 + n % 10)]
theorem txt_dig {n : Nat} (h : n < 100) : (txt n).data.toList = tdig n := by
  by_cases h10 : n < 10
  · rw [txt, dig_lo h10, tdig, if_pos h10]
  · rw [txt, dig_hi (by omega), dig_lo (show n / 10 < 10 by omega), tdig, if_neg h10]; rfl
theorem tdig_c : ∀ n, n < 21 → (tdig n).count 44 = 0 := by decide
theorem tdig_s : ∀ n, n < 20 → tdig (n + 1) ≠ tdig n := by decide
def com3 (a b d : Nat) : List UInt8 := tdig a ++ (44 :: (tdig b ++ (44 :: tdig d)))
theorem textB_yes (a b d : Nat) (h : vecB [(a : Int), (b : Int), (d : Int)] = true) : (textB [(a : Int), (b : Int), (d : Int)]).data.toList = com3 a b d := by
  obtain ⟨_, _, _, e, h1, h2, h3, h4, h5, h6⟩ := vec_form h
  simp only [List.cons.injEq, and_true] at e
  obtain ⟨rfl, rfl, rfl⟩ := e
  have e : textB [(a : Int), (b : Int), (d : Int)] = if vecB [(a : Int), (b : Int), (d : Int)] = true then txt a ++ ⟨#[44]⟩ ++ txt b ++ ⟨#[44]⟩ ++ txt d else ⟨#[]⟩ := rfl
  rw [e, if_pos h, com3]
  simp [txt_dig (n := a) (by omega), txt_dig (n := b) (by omega), txt_dig (n := d) (by omega)]
theorem com3_c {a b d : Nat} (ha : a < 21) (hb : b < 21) (hd : d < 21) : (com3 a b d).count 44 = 2 := by
  simp [com3, List.count_append, tdig_c a ha, tdig_c b hb, tdig_c d hd]
theorem com3_len (a b d : Nat) : 2 ≤ (com3 a b d).length ∧ (com3 a b d).length ≤ 8 := by
  have h : ∀ n, (tdig n).length ≤ 2 := by intro n; unfold tdig; split <;> simp
  have := h a; have := h b; have := h d
  simp [com3]; omega
theorem com3_1 {a b d : Nat} (h : a < 20) : com3 (a + 1) b d ≠ com3 a b d := fun e => tdig_s a h (List.append_cancel_right e)
theorem com3_2 {a b d : Nat} (h : b < 20) : com3 a (b + 1) d ≠ com3 a b d := fun e => by
  have e := List.append_cancel_left e
  simp only [List.cons.injEq, true_and] at e
  exact tdig_s b h (List.append_cancel_right e)
theorem com3_3 {a b d : Nat} (h : d < 20) : com3 a b (d + 1) ≠ com3 a b d := fun e => by
  have e := List.append_cancel_left e
  simp only [List.cons.injEq, true_and] at e
  have e := List.append_cancel_left e
  simp only [List.cons.injEq, true_and] at e
  exact tdig_s d h e
/-- one part made one more: another text -/
theorem textB_step (a b d q : Nat) (h : vecB [(a : Int), (b : Int), (d : Int)] = true) (hq : q < 3) (y : Int) (hy : [(a : Int), (b : Int), (d : Int)][q]? = some y) :
    textB ([(a : Int), (b : Int), (d : Int)].set q (y + 1)) ≠ textB [(a : Int), (b : Int), (d : Int)] := by
  intro e
  have e := congrArg (fun s => s.data.toList) e
  simp only [textB_yes a b d h] at e
  cases hv : vecB ([(a : Int), (b : Int), (d : Int)].set q (y + 1))
  · rw [textB_no hv] at e
    have := com3_len a b d
    rw [← e] at this
    simp at this
  · match q, hq, hy with
    | 0, _, hy =>
      obtain rfl : (a : Int) = y := by simpa using hy
      simp only [List.set_cons_zero] at e hv
      rw [show ((a : Int) + 1) = ((a + 1 : Nat) : Int) by omega] at e hv
      rw [textB_yes _ _ _ hv] at e
      obtain ⟨_, _, _, e9, h1, h2, _⟩ := vec_form hv
      simp only [List.cons.injEq, and_true] at e9
      obtain ⟨rfl, rfl, rfl⟩ := e9
      exact com3_1 (by omega) e
    | 1, _, hy =>
      obtain rfl : (b : Int) = y := by simpa using hy
      simp only [List.set_cons_succ, List.set_cons_zero] at e hv
      rw [show ((b : Int) + 1) = ((b + 1 : Nat) : Int) by omega] at e hv
      rw [textB_yes _ _ _ hv] at e
      obtain ⟨_, _, _, e9, h1, h2, h3, h4, _⟩ := vec_form hv
      simp only [List.cons.injEq, and_true] at e9
      obtain ⟨rfl, rfl, rfl⟩ := e9
      exact com3_2 (by omega) e
    | 2, _, hy =>
      obtain rfl : (d : Int) = y := by simpa using hy
      simp only [List.set_cons_succ, List.set_cons_zero] at e hv
      rw [show ((d : Int) + 1) = ((d + 1 : Nat) : Int) by omega] at e hv
      rw [textB_yes _ _ _ hv] at e
      obtain ⟨_, _, _, e9, h1, h2, h3, h4, h5, h6⟩ := vec_form hv
      simp only [List.cons.injEq, and_true] at e9
      obtain ⟨rfl, rfl, rfl⟩ := e9
      exact com3_3 (by omega) e
/-- the commas among the first bytes -/
def comL (s : ByteArray) (k : Nat) : Nat := (s.data.toList.take k).count 44
theorem comL_zero (s : ByteArray) : comL s 0 = 0 := by simp [comL]
theorem comL_le (s : ByteArray) (k : Nat) : comL s k ≤ k := by
  have := List.count_le_length (a := (44 : UInt8)) (l := s.data.toList.take k)
  simp only [comL, List.length_take] at this ⊢; omega
theorem comL_succ (s : ByteArray) (k : Nat) (h : k < s.size) : comL s (k + 1) = comL s k + if ((s[k]'h).toNat : Int) = 44 then 1 else 0 := by
  obtain ⟨⟨l⟩⟩ := s
  have hl : k < l.length := h
  have e : (ByteArray.mk ⟨l⟩)[k]'h = l[k] := rfl
  rw [e]
  simp only [comL, List.take_add_one, List.getElem?_eq_getElem hl, List.count_append]
  congr 1
  simp only [Option.toList_some, List.count_singleton]
  by_cases h4 : l[k] = 44
  · rw [h4]; rfl
  · have : ¬ ((l[k].toNat : Int) = 44) := fun h9 => h4 (by apply UInt8.toNat_inj.1; show l[k].toNat = 44; omega)
    simp [this, h4]
theorem vecText_n (A : Option Addr) (n c lo hi : Nat) (ys : List Int) (w : World) (hn : n = ys.length) (hI : Ints w lo hi A c ys) (hl : ys.length ≤ 1048576) (h1 : hi ≤ w.heap.size) :
    Calls Tryd.prog 7 #[.slice A n c] w fun e w' => e = .returned (.string (textB ys)) ∧ Below w.heap.size w w' := by
  subst hn; exact vecText_any A c lo hi ys w hI hl h1
set_option maxHeartbeats 1000000 in
theorem FnVecText_walk (A : Option Addr) (n c : Nat) (B : Option Addr) (m d : Nat) (w : World) (hA : BytesR w w.heap.size A n) (hc : n ≤ c) (hm : c ≤ maxLen) (_hB : BytesR w w.heap.size B m) (_hd : m ≤ d) (_hm2 : d ≤ maxLen) :
    Calls Tryd.prog 4 #[.slice A n c, .slice B m d] w fun e w' => e = .returned (.bool true) ∧ Below w.heap.size w w' := by
  have HA := Lib.hid hA; clear hA
  by_cases hn : 1048576 < n
  · go_enter Tryd.func4, Tryd.ntmps4
    go_wp2
    go_ret
    exact ⟨by simp, Below.refl _ _⟩
  have hnd : ¬ ((1048576 : Int) < (n : Int)) := by omega
  by_cases hmm : 1048576 < m
  · go_enter Tryd.func4, Tryd.ntmps4
    go_wp2
    go_ret
    exact ⟨by simp, Below.refl _ _⟩
  have hmd : ¬ ((1048576 : Int) < (m : Int)) := by omega
  go_enter Tryd.func4, Tryd.ntmps4
  go_wp2_with fail
  refine (DrawVecText_any A n c w HA.out hc hm).mono ?_; rintro e w1 ⟨A1, c1, za, rfl, h1, hlza, hzza, h2⟩
  have HB1 := Lib.hid h2
  have hs1 := h2.size
  have HX := Lib.hid (h1.mono (Nat.zero_le _) (Nat.le_refl _))
  clear h1 h2 hzza
  go_wp2_with fail
  refine (vecText_any _ _ _ _ za _ HX.out (by omega) (by omega)).mono ?_; rintro e w2 ⟨rfl, hb⟩
  have HB2 : Hid (Below w.heap.size w w2) := Lib.hid (HB1.out.trans (hb.mono hs1))
  have hs2 := hb.size
  replace HX := Lib.hid (HX.out.below hb (Nat.le_refl _))
  clear hb HB1
  go_wp2_with fail
  refine (vecTextS_any _ _ _ _ za _ HX.out (by omega) (by omega)).mono ?_; rintro e w3 ⟨rfl, hb⟩
  have HB3 : Hid (Below w.heap.size w w3) := Lib.hid (HB2.out.trans (hb.mono (by omega)))
  have hs3 := hb.size
  replace HX := Lib.hid (HX.out.below hb (by omega))
  clear hb HB2
  cases hv : vecB za
  · rw [textB_no hv]
    go_wp2_with fail
    go_ret
    exact ⟨by simp, HB3.out⟩
  obtain ⟨a, b, f, rfl, ha1, ha2, hb1, hb2, hd1, hd2⟩ := vec_form hv
  obtain ⟨a, rfl⟩ := Int.eq_ofNat_of_zero_le ha1
  obtain ⟨b, rfl⟩ := Int.eq_ofNat_of_zero_le hb1
  obtain ⟨f, rfl⟩ := Int.eq_ofNat_of_zero_le hd1
  have hyes := textB_yes a b f hv
  have hstep := fun q y hq hy => textB_step a b f q hv hq y hy
  obtain ⟨T, hT⟩ : ∃ T, textB [(a : Int), (b : Int), (f : Int)] = T := ⟨_, rfl⟩
  rw [hT] at hyes hstep ⊢
  have hTl := com3_len a b f
  rw [← hyes] at hTl
  have hTe : T.data.toList.length = T.size := rfl
  have hTc : comL T T.size = 2 := by rw [comL, ← hTe, List.take_length, hyes]; exact com3_c (by omega) (by omega) (by omega)
  have hTn : ¬ T = ⟨#[]⟩ := by rintro rfl; simp at hTl
  rw [hTe] at hTl
  have HST := Lib.hid hstep
  have HC := Lib.hid hTc
  have hstp := fun k h => comL_succ T k h
  have HSU := Lib.hid hstp
  clear hstep hT hTc hstp hyes hTe hlza
  go_wp2_with fail
  · go_ret
    exact ⟨by simp, HB3.out⟩
  go_loop [8, 9] (fun s i => ∃ k : Nat, k ≤ T.size ∧ i = .int .i64 k ∧ s = .int .i64 (comL T k : Nat)) (fun _ i => T.size - (intOf i).toNat)
  case atStart => exact ⟨0, by omega, rfl, rfl⟩
  case round =>
    obtain ⟨k, hk, rfl, rfl⟩ := hrel
    have hcl := comL_le T k
    by_cases hlt : k < T.size
    · have h1 : (k : Int) < T.size := by omega
      have h9 := HSU.out k hlt
      go_wp2_with fail
      · rename_i h4
        have h5 : ((T[k]'hlt).toNat : Int) = 44 := by simpa using h4
        rw [if_pos h5] at h9
        exact ⟨⟨k + 1, by omega, by simp, by simp; omega⟩, by show T.size - ((k : Int) + 1).toNat < T.size - ((k : Int)).toNat; omega⟩
      · rename_i h4
        have h5 : ¬ ((T[k]'hlt).toNat : Int) = 44 := by simpa using h4
        rw [if_neg h5] at h9
        exact ⟨⟨k + 1, by omega, by simp, by simp; omega⟩, by show T.size - ((k : Int) + 1).toNat < T.size - ((k : Int)).toNat; omega⟩
    · obtain rfl : k = T.size := by omega
      have h1 : ¬ ((T.size : Int) < T.size) := by omega
      rw [HC.out]
      clear hcl HC HSU h1
      obtain ⟨q, hq, hq3⟩ : ∃ q : Nat, (m : Int) % 3 = q ∧ q < 3 := ⟨m % 3, by omega, by omega⟩
      have hown0 := ownsRow_empty w3 3 1
      have HO0 := Lib.hid hown0; clear hown0
      have hq3' : (q : Int) < 3 := by omega
      obtain ⟨y, hy, hy0, hy1⟩ : ∃ y, [(a : Int), (b : Int), (f : Int)][q]? = some y ∧ 0 ≤ y ∧ y ≤ 20 := by
        match q, hq3 with
        | 0, _ => exact ⟨_, rfl, by omega, by omega⟩
        | 1, _ => exact ⟨_, rfl, by omega, by omega⟩
        | 2, _ => exact ⟨_, rfl, by omega, by omega⟩
      have hne := HST.out q y hq3 hy
      obtain ⟨U, hU⟩ : ∃ U, textB ([(a : Int), (b : Int), (f : Int)].set q (y + 1)) = U := ⟨_, rfl⟩
      rw [hU] at hne
      have HU := Lib.hid hU
      clear HST hU hv
      go_wp2_with (at_builtin; refine wpList_appI elI rfl (.tmp 48) (.tmp 49) rfl _ HO0.out A1 3 c1 [(a : Int), (b : Int), (f : Int)] rfl rfl rfl (HX.out.below ((Below.refl _ _).alloc (Nat.le_refl _) _) (by omega)).r (by simp) (by omega) ?_; intro A2 c2 w4 hown2 hb2 hg2; obtain ⟨g, cap, he, hg, hgl⟩ := hown2.form (by omega); simp only [Value.slice.injEq] at he; obtain ⟨rfl, _, rfl⟩ := he; obtain ⟨u, hu, hc0, hf0⟩ := own_at (cs := [(a : Int), (b : Int), (f : Int)]) (k := q) hown2 (by omega); obtain rfl : y = u := Option.some.inj (hy.symm.trans hu))
      have hb3 : Below w3.heap.size w3 w4 := ((Below.refl _ _).alloc (Nat.le_refl _) _).trans hb2
      have HOS := Lib.hid (own_set (cs := [(a : Int), (b : Int), (f : Int)]) hown2 q (y + 1))
      obtain ⟨A9, c9, he, hl9, hI9⟩ := Ints.of_own HOS.out
      simp only [Value.slice.injEq] at he
      obtain ⟨rfl, _, rfl⟩ := he
      have HI9 := Lib.hid hI9
      have HBA : Hid (Below w3.heap.size w3 (w4.setCell ⟨g, q, none⟩ (.int .i64 (y + 1)))) := Lib.hid (hb3.setCell (p := ⟨g, q, none⟩) hg _)
      clear hI9 hown2 hg2 hb2 hc0 hf0 hb3
      refine (vecText_n _ 3 _ _ _ ([(a : Int), (b : Int), (f : Int)].set q (y + 1)) _ (by simp) HI9.out (by simp) (Nat.le_refl _)).mono ?_; rintro e w5 ⟨rfl, hb⟩
      rw [HU.out]
      have HBB : Hid (Below w.heap.size w w5) := Lib.hid (HB3.out.trans ((HBA.out.mono HB3.out.size).trans (hb.mono (Nat.le_trans HB3.out.size HBA.out.size))))
      clear hb
      go_wp2_with fail
      go_ret
      exact ⟨by simp; intro h; exact hne (ByteArray.ext (Array.toList_inj.1 (by rw [ByteArray.toList_eq, ByteArray.toList_eq] at h; exact h))), HBB.out⟩
end Go.Proofs.YtojbljaleconpaaDoor
