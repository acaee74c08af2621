/- The program's VecText. No condition but on sizes. -/
import Derived.Test.YtojbljaleconpaaDoorVt
import Derived.Test.YtojbljaleconpaaDoorSh
namespace Go.Proofs.YtojbljaleconpaaDoor
open Go.RowKit
theorem one_str (s : ByteArray) : ∀ u ∈ [Value.string s], u.oneCell' = true := by
  intro u hu; simp at hu; subst hu; rfl
theorem join3 (X Y Z : ByteArray) : (⟨(Lib.join ([X, Y, Z].map (·.data.toList)) (⟨#[44]⟩ : ByteArray).data.toList).toArray⟩ : ByteArray) = X ++ ⟨#[44]⟩ ++ Y ++ ⟨#[44]⟩ ++ Z := by
  apply ByteArray.ext; apply Array.toList_inj.1
  simp [Lib.join, List.intercalate, List.intersperse]
theorem elStr : Elem Tryd.prog 38 9 1 16 := Elem.mk' Tryd.underlying38 (z := .string ⟨#[]⟩) (by kernel_rfl) rfl (by omega)
set_option maxHeartbeats 1000000 in
set_option maxRecDepth 100000 in
theorem text_any (A : Option Addr) (c lo hi a b d : Nat) (w : World) (hI : Ints w lo hi A c [(a : Int), (b : Int), (d : Int)]) (ha : a ≤ 20) (hb : b ≤ 20) (hd : d ≤ 20) (h1 : hi ≤ w.heap.size) :
    Calls Tryd.prog 13 #[.slice A 3 c] w fun e w' => e = .returned (.string (txt a ++ ⟨#[44]⟩ ++ txt b ++ ⟨#[44]⟩ ++ txt d)) ∧ Below w.heap.size w w' := by
  have HI := Lib.hid hI; clear hI
  have hmk : ∀ W : World, (Instr.makeSlice 38 (.int .i64 0) (.int .i64 3)).run Tryd.prog W = .ok (.slice (some ⟨W.heap.size, 0, none⟩) 0 3) (W.alloc (.cells (madeCells #[Value.string ⟨#[]⟩] 3) 9)) := by
    intro W
    obtain ⟨i1, j1, j2, j3, j4⟩ := info_parts (P := Tryd.prog) (e := 9) (z := .string ⟨#[]⟩) (size := 1) (bytes := 16) (by kernel_rfl)
    have := run_make (P := Tryd.prog) W 38 9 i1 (.string ⟨#[]⟩) Tryd.underlying38 j1 j2 .i64 .i64 0 3 (by omega) (by omega) (by rw [j4]; omega) (by omega)
    rw [j3] at this
    have e : (Value.string ⟨#[]⟩).cells = #[Value.string ⟨#[]⟩] := rfl
    rw [e] at this
    simpa using this
  obtain ⟨X, hX⟩ : ∃ X, txt a = X := ⟨_, rfl⟩
  obtain ⟨Y, hY⟩ : ∃ X, txt b = X := ⟨_, rfl⟩
  obtain ⟨Z, hZ⟩ : ∃ X, txt d = X := ⟨_, rfl⟩
  have sX := txt_size (n := a) (by omega)
  have sY := txt_size (n := b) (by omega)
  have sZ := txt_size (n := d) (by omega)
  have hA := fun W => Tryd.strconv_Itoa_small a (by omega) W
  have hB := fun W => Tryd.strconv_Itoa_small b (by omega) W
  have hD := fun W => Tryd.strconv_Itoa_small d (by omega) W
  rw [show (⟨(Lib.decDigits a).toArray⟩ : ByteArray) = X from hX] at hA
  rw [show (⟨(Lib.decDigits b).toArray⟩ : ByteArray) = Y from hY] at hB
  rw [show (⟨(Lib.decDigits d).toArray⟩ : ByteArray) = Z from hZ] at hD
  rw [hX] at sX ⊢
  rw [hY] at sY ⊢
  rw [hZ] at sZ ⊢
  have HA := Lib.hid hA
  have HB := Lib.hid hB
  have HD := Lib.hid hD
  obtain ⟨w0, hw0⟩ : ∃ W, W = w.alloc (.cells (madeCells #[Value.string ⟨#[]⟩] 3) 9) := ⟨_, rfl⟩
  have HW0 := Lib.hid hw0
  have hb0 : Below w.heap.size w w0 := by rw [hw0]; exact alloc_belowV w _
  have hs0 : w.heap.size + 1 ≤ w0.heap.size := by rw [hw0]; simp
  have hsz : (madeCells #[Value.string ⟨#[]⟩] 3).size = 3 := by simp [madeCells]
  have HO : Hid (w0.ownsRow w.heap.size 9 1 (.slice (some ⟨w.heap.size, 0, none⟩) 0 3) 0 []) := Lib.hid (by rw [hw0]; exact World.ownsRow_made w _ 3 (Nat.le_refl _) (by simp only [maxLen]; omega) (by rw [hsz]))
  have HBw := Lib.hid hb0
  replace HI := Lib.hid (HI.out.below hb0 h1)
  clear hw0 hb0 hsz hX hY hZ hA hB hD
  obtain ⟨g, off, rfl, _, hgh, hall⟩ := HI.out.form (by simp)
  have hc0 := (hall 0 a rfl).1
  rw [Nat.add_zero] at hc0
  have hc1 := (hall 1 b rfl).1
  have hc2 := (hall 2 d rfl).1
  clear hall
  go_enter Tryd.func13, Tryd.ntmps13
  go_wp2_with fail
  rw [← HW0.out]
  clear hmk
  refine wp_loop_rounds 4 ?_
  rw [rounds_succ]; go_wp2_with fail
  refine (HA.out w0).mono ?_; rintro e w' ⟨rfl, hw⟩; rw [hw]; clear hw w'
  have hm1 : w.heap.size ≤ w0.heap.size := by omega
  go_wp2_with (at_builtin; refine wpList_app1 elStr rfl (.tmp 13) (.tmp 16) rfl w0 _ HO.out [.string X] rfl rfl ⟨rfl, rfl, rfl, rfl⟩ rfl (one_str _) hm1 (by simp only [maxLen]; omega) (by omega) ?_; intro q1 d1 w1 hown hb2 hg2 hsz2 hq2; have HO1 := Lib.hid hown; have HB1 := Lib.hid hb2; have hs1 := hb2.size; clear hown hb2 hg2 hsz2 hq2)
  replace hc1 := cell_belowV HB1.out (show g < w.heap.size by omega) hc1
  replace hc2 := cell_belowV HB1.out (show g < w.heap.size by omega) hc2
  rw [rounds_succ]; go_wp2_with fail
  refine (HB.out w1).mono ?_; rintro e w' ⟨rfl, hw⟩; rw [hw]; clear hw w'
  have hm2 : w.heap.size ≤ w1.heap.size := by omega
  go_wp2_with (at_builtin; refine wpList_app1 elStr rfl (.tmp 13) (.tmp 16) rfl w1 _ HO1.out [.string Y] rfl rfl ⟨rfl, rfl, rfl, rfl⟩ rfl (one_str _) hm2 (by simp only [maxLen]; omega) (by omega) ?_; intro q2 d2 w2 hown hb2 hg2 hsz2 hq2; have HO2 := Lib.hid hown; have HB2 := Lib.hid hb2; have hs2 := hb2.size; clear hown hb2 hg2 hsz2 hq2)
  replace hc2 := cell_belowV HB2.out (show g < w.heap.size by omega) hc2
  rw [rounds_succ]; go_wp2_with fail
  refine (HD.out w2).mono ?_; rintro e w' ⟨rfl, hw⟩; rw [hw]; clear hw w'
  have hm3 : w.heap.size ≤ w2.heap.size := by omega
  go_wp2_with (at_builtin; refine wpList_app1 elStr rfl (.tmp 13) (.tmp 16) rfl w2 _ HO2.out [.string Z] rfl rfl ⟨rfl, rfl, rfl, rfl⟩ rfl (one_str _) hm3 (by simp only [maxLen]; omega) (by omega) ?_; intro q3 d3 w3 hown hb2 hg2 hsz2 hq2; have HO3 := Lib.hid hown; have HB3 := Lib.hid hb2; have hs3 := hb2.size; clear hown hb2 hg2 hsz2 hq2)
  rw [rounds_succ]; go_wp2_with fail
  have hcell : ∀ (j : Nat) x, [X, Y, Z][j]? = some x → w3.cell? ⟨q3, 0 + j, none⟩ = some (.string x) := by
    intro j x hj
    have hl := (List.getElem?_eq_some_iff.1 hj).1
    simp only [List.length_cons, List.length_nil] at hl
    rw [Nat.zero_add, HO3.out.cellAt j (by omega)]
    match j, hj with
    | 0, hj => simp at hj; subst hj; rfl
    | 1, hj => simp at hj; subst hj; rfl
    | 2, hj => simp at hj; subst hj; rfl
    | j + 3, hj => simp at hj
  have hcap3 : 3 ≤ d3 := by
    rcases HO3.out.2 with ⟨h, _⟩ | ⟨g', cap', cur', he', _, _, hnc', _⟩
    · simp at h
    · simp only [Value.slice.injEq, true_and] at he'
      obtain ⟨-, rfl⟩ := he'
      omega
  have hj := congrArg ByteArray.size (join3 X Y Z)
  have hjl : (Lib.join ([X, Y, Z].map (·.data.toList)) (⟨#[44]⟩ : ByteArray).data.toList).length ≤ 140737488355328 := by
    have e : (⟨(Lib.join ([X, Y, Z].map (·.data.toList)) (⟨#[44]⟩ : ByteArray).data.toList).toArray⟩ : ByteArray).size = (Lib.join ([X, Y, Z].map (·.data.toList)) (⟨#[44]⟩ : ByteArray).data.toList).length := by
      simp [ByteArray.size]
    rw [e] at hj
    rw [hj, str_size, str_size, str_size, str_size]
    have e44 : (⟨#[44]⟩ : ByteArray).size = 1 := rfl
    omega
  have h9 : Calls Tryd.prog 19 #[.slice (some ⟨q3, 0, none⟩) 3 d3, .string ⟨#[44]⟩] w3 fun e w' => e = .returned (.string (X ++ ⟨#[44]⟩ ++ Y ++ ⟨#[44]⟩ ++ Z)) ∧ Below w3.heap.size w3 w' := by
    have h := Tryd.strings_Join q3 0 d3 [X, Y, Z] ⟨#[44]⟩ w3 hcell (HO3.out.lt q3 rfl).2 (by simp) (by simp; omega) hjl
    rw [join3] at h
    exact h
  have H9 := Lib.hid h9
  clear hcell hj hjl h9 hcap3
  refine H9.out.mono ?_; rintro e w4 ⟨rfl, hb⟩
  have HF : Hid (Below w.heap.size w w4) := Lib.hid (HBw.out.trans ((HB1.out.mono (Nat.le_refl _)).trans ((HB2.out.mono (Nat.le_refl _)).trans ((HB3.out.mono (Nat.le_refl _)).trans (hb.mono (by omega))))))
  clear hb
  go_wp2_with fail
  go_ret
  exact ⟨by simp, HF.out⟩
theorem vecText_any (A : Option Addr) (c lo hi : Nat) (ys : List Int) (w : World) (hI : Ints w lo hi A c ys) (hl : ys.length ≤ 1048576) (h1 : hi ≤ w.heap.size) :
    Calls Tryd.prog 7 #[.slice A ys.length c] w fun e w' => e = .returned (.string (textB ys)) ∧ Below w.heap.size w w' := by
  have HI := Lib.hid hI; clear hI
  cases hv : vecB ys
  · have HV := Lib.hid hv
    have HE := Lib.hid (textB_no hv)
    clear hv
    go_enter Tryd.func7, Tryd.ntmps7
    go_wp2_with fail
    refine (vecValid_any A c lo hi ys w HI.out hl).mono ?_; rintro e w' ⟨rfl, rfl⟩
    rw [HV.out]
    go_wp2_with fail
    go_ret
    exact ⟨by simp [HE.out], Below.refl _ _⟩
  obtain ⟨a, b, d, rfl, ha1, ha2, hb1, hb2, hd1, hd2⟩ := vec_form hv
  obtain ⟨a, rfl⟩ := Int.eq_ofNat_of_zero_le ha1
  obtain ⟨b, rfl⟩ := Int.eq_ofNat_of_zero_le hb1
  obtain ⟨d, rfl⟩ := Int.eq_ofNat_of_zero_le hd1
  have HE : Hid (textB [(a : Int), (b : Int), (d : Int)] = txt a ++ ⟨#[44]⟩ ++ txt b ++ ⟨#[44]⟩ ++ txt d) := Lib.hid (by
    have e : textB [(a : Int), (b : Int), (d : Int)] = if vecB [(a : Int), (b : Int), (d : Int)] = true then txt a ++ ⟨#[44]⟩ ++ txt b ++ ⟨#[44]⟩ ++ txt d else ⟨#[]⟩ := rfl
    rw [e, if_pos hv])
  have hV := vecValid_any A c lo hi [(a : Int), (b : Int), (d : Int)] w HI.out hl
  rw [hv] at hV
  have HV := Lib.hid hV
  have HT := Lib.hid (text_any A c lo hi a b d w HI.out (by omega) (by omega) (by omega) h1)
  clear hv hV
  go_enter Tryd.func7, Tryd.ntmps7
  go_wp2_with fail
  refine HV.out.mono ?_; rintro e w' ⟨rfl, rfl⟩
  go_wp2_with fail
  refine HT.out.mono ?_; rintro e w2 ⟨rfl, hb⟩
  have HB := Lib.hid hb
  clear hb
  go_wp2_with fail
  go_ret
  exact ⟨by simp [HE.out], HB.out⟩
end Go.Proofs.YtojbljaleconpaaDoor
