/- The generator of pairs: l92Pairs, DrawPairsValid. No condition but on sizes. -/
import Derived.Test.YtojbljaleconpaaPq
import Derived.Test.YtojbljaleconpaaDd
import Derived.Test.YtojbljaleconpaaDt
namespace Go.Proofs.Ytojbljaleconpaa
open Go.RowKit
theorem alloc_belowP (w : World) (o : Obj) : Below w.heap.size w (w.alloc o) := (Below.refl _ _).alloc (Nat.le_refl _) _
theorem only_of_grownP {w w' : World} {q : Nat} (h : w.grownBy w' (some q)) : Only q (q + 1) w w' :=
  ⟨h.os, h.tape, h.output, h.size, fun k hk hn => h.block k hk (by simp; omega)⟩
/-- what the generator of pairs leaves -/
def DrewPs (w : World) (g p : Nat) (e : Ending) (w' : World) : Prop :=
  ∃ A c, ∃ ps : List (Int × Int), ∃ p', e = .returned (.slice A ps.length c) ∧ Pairs w' w.heap.size w'.heap.size A c ps ∧ ps.length ≤ 31 ∧ Rd w' g p' ∧ p ≤ p' ∧ p' ≤ p + 200 ∧ Only g (g + 1) w w'
theorem prow_app1 (ps : List (Int × Int)) (p : Int × Int) : prow (ps ++ [p]) = prow ps ++ [.int .i64 p.1, .int .i64 p.2] := by simp [prow, pairCells]
theorem prow_setB {ps : List (Int × Int)} {a b u : Int} (h : ps[0]? = some (a, b)) : (prow ps).set 1 (.int .i64 u) = prow (ps.set 0 (a, u)) := by
  cases ps with
  | nil => simp at h
  | cons q r => simp at h; subst h; rfl
theorem elPr : Elem Try.prog 38 74 2 16 := Elem.mk' Try.underlying38 (z := .agg #[.int .i64 0, .int .i64 0]) (by kernel_rfl) rfl (by omega)
set_option maxHeartbeats 2000000 in
theorem l92Pairs_any (g p : Nat) (w : World) (hR : Rd w g p) (hp : p ≤ 800000) :
    Calls Try.prog 59 #[.pointer (some ⟨g, 0, none⟩)] w (DrewPs w g p) := by
  have HR := Lib.hid hR; clear hR
  have hg0 : g < w.heap.size := HR.out.lt
  go_enter Try.func59, Try.ntmps59
  go_wp2_with fail
  obtain ⟨w1, hw1⟩ : ∃ W, W = w.alloc (.cells #[] 74) := ⟨_, rfl⟩
  rw [← hw1]
  have hb1 : Below w.heap.size w w1 := by rw [hw1]; exact alloc_belowP w _
  have HW0 : Hid (w1.ownsRow w.heap.size 74 2 (.slice (some ⟨w.heap.size, 0, none⟩) 0 0) 0 []) := Lib.hid (by rw [hw1]; exact ownsRow_empty w 74 2)
  have hs1 := hb1.size
  replace HR := Lib.hid (HR.out.below hb1 hg0)
  have HO : Hid (Only g (g + 1) w w1) := Lib.hid (Only.of_below hb1)
  clear hb1 hw1
  refine (pick_any g p 8 w1 HR.out (by omega) (by omega)).mono ?_; rintro e w2 ⟨n0, rfl, hn0, hn1, hR, hO, hs⟩
  obtain ⟨n, rfl⟩ := Int.eq_ofNat_of_zero_le hn0
  have hn8 : n ≤ 30 := by omega
  replace HR := Lib.hid hR
  replace HW0 := Lib.hid (ownsRow_only HW0.out hO (show g + 1 ≤ w.heap.size by omega))
  replace HO := Lib.hid (HO.out.trans hO)
  clear hR hO hs hn0 hn1
  go_wp2_with fail
  refine (pick_any g (p + 1) 20 w2 HR.out (by omega) (by omega)).mono ?_; rintro e w3 ⟨x, rfl, hx0, hx1, hR, hO, hs⟩
  replace HR := Lib.hid hR
  replace HW0 := Lib.hid (ownsRow_only HW0.out hO (show g + 1 ≤ w.heap.size by omega))
  replace HO := Lib.hid (HO.out.trans hO)
  clear hR hO hs
  by_cases hx : x = 0
  · subst hx
    go_wp2_with fail
    go_loopw [3, 5] (fun o i wr => ∃ k p' q d : Nat, ∃ ps : List (Int × Int), k ≤ 30 ∧ i = .int .i64 k ∧ o = .slice (some ⟨q, 0, none⟩) ps.length d ∧ ps.length ≤ k ∧ wr.ownsRow w.heap.size 74 2 (.slice (some ⟨q, 0, none⟩) ps.length d) ps.length (prow ps) ∧
        Rd wr g p' ∧ p + 2 ≤ p' ∧ p' ≤ p + 2 + 2 * k ∧ Only g (g + 1) w wr) (fun _ i _ => 30 - (intOf i).toNat)
    case atStart => exact ⟨0, p + 1 + 1, w.heap.size, 0, [], by omega, rfl, rfl, by simp, HW0.out, HR.out, by omega, by omega, HO.out⟩
    case round =>
      clear HR HW0
      obtain ⟨k, p', q, d, ps, hk, rfl, rfl, hul, hown, hR, hp1, hp2, hO⟩ := hrel
      have HW := Lib.hid hown; clear hown
      have HR := Lib.hid hR; clear hR
      have HOO := Lib.hid hO
      have hsO := hO.size
      clear hO
      have hgl := HR.out.lt
      by_cases hlt : k < 30
      · have hklt : (k : Int) < 30 := by omega
        go_wp2_with fail
        refine (pick_any g p' 8 wr HR.out (by omega) (by omega)).mono ?_; rintro e w4 ⟨a, rfl, ha0, ha1, hR, hO, hs⟩
        obtain ⟨hs4a, hs4b⟩ := le_le hs
        have HR4 := Lib.hid hR
        have HW4 := Lib.hid (ownsRow_only HW.out hO (show g + 1 ≤ w.heap.size by omega))
        have HOO4 := Lib.hid (HOO.out.trans hO)
        clear hR hO hs
        obtain ⟨y, hy⟩ : ∃ y : Int, (k : Int) / 3 = y := ⟨_, rfl⟩
        have hyb : 0 ≤ y ∧ y ≤ 10 := by omega
        have HE : Hid ((w4.alloc (.cells #[] 74)).ownsRow w4.heap.size 74 2 (.slice (some ⟨w4.heap.size, 0, none⟩) 0 0) 0 []) := Lib.hid (ownsRow_empty w4 74 2)
        have HBE := Lib.hid (alloc_belowP w4 (.cells #[] 74))
        have HC : Hid (Cells (w4.alloc (.cells #[] 74)) w.heap.size w4.heap.size (some ⟨q, 0, none⟩) d ps.length 2 (prow ps)) := Lib.hid (by
          obtain ⟨A9, c9, he, hC⟩ := Cells.of_own HW4.out
          simp only [Value.slice.injEq, true_and] at he
          obtain ⟨rfl, rfl⟩ := he
          exact hC.below HBE.out (Nat.le_refl _))
        have hse : w4.heap.size ≤ (w4.alloc (.cells #[] 74)).heap.size := by simp
        have hmx : 0 + ps.length ≤ maxLen := by simp only [maxLen]; omega
        have hmy : (0 + ps.length) * 16 ≤ 140737488355328 := by omega
        go_wp2_with (at_builtin; refine wpList_appC elPr rfl (.tmp 22) (.tmp 23) rfl _ HE.out (some ⟨q, 0, none⟩) ps.length d (prow ps) rfl rfl HC.out (prow_one _) hse hmx hmy ?_; intro A5 c5 w5 hown hb2 _; have HO5 := Lib.hid hown; have HB5 := Lib.hid (HBE.out.trans hb2); clear hown hb2)
        clear hse HE HC
        have hs5 := HB5.out.size
        refine (pick_any g (p' + 1) 5 w5 (HR4.out.below HB5.out (by omega)) (by omega) (by omega)).mono ?_; rintro e w6 ⟨b, rfl, hb0, hb1, hR, hO, hs⟩
        obtain ⟨hs6a, hs6b⟩ := le_le hs
        have HR6 := Lib.hid hR
        have HO6 := Lib.hid (ownsRow_only HO5.out hO (show g + 1 ≤ w4.heap.size by omega))
        have HK6 : Hid (Only g (g + 1) w4 w6) := Lib.hid ((Only.of_below HB5.out).trans hO)
        clear hR hO hs
        have hs46 := HK6.out.size
        have HO6' : Hid (w6.ownsRow w4.heap.size 74 2 (.slice A5 ps.length c5) ps.length (prow ps)) := Lib.hid (by have := HO6.out; rwa [Nat.zero_add, List.nil_append] at this)
        have hmx1 : ps.length + 1 ≤ maxLen := by simp only [maxLen]; omega
        have hmy1 : (ps.length + 1) * 16 ≤ 140737488355328 := by omega
        go_wp2_with (at_builtin; refine wpList_app1 elPr rfl (.tmp 24) (.tmp 38) rfl w6 _ HO6'.out [.int .i64 (1 + a + y), .int .i64 (1 + a + y + 1 + b)] rfl rfl ⟨rfl, rfl, rfl, rfl⟩ rfl (prow_one [(1 + a + y, 1 + a + y + 1 + b)]) hs46 hmx1 hmy1 ?_; intro q7 c7 w7 hown hb2 hg2 hsz2 hq2; have HO7 := Lib.hid hown; have HB7 := Lib.hid hb2; have hs67 := hb2.size; clear hown hb2 hg2 hsz2 hq2)
        obtain ⟨d1, hd1⟩ : ∃ z : Int, 1 + a + y = z := ⟨_, rfl⟩
        obtain ⟨d2, hd2⟩ : ∃ z : Int, 1 + a + y + 1 + b = z := ⟨_, rfl⟩
        have HO7' : Hid (w7.ownsRow w4.heap.size 74 2 (.slice (some ⟨q7, 0, none⟩) (ps ++ [(d1, d2)]).length c7) (ps ++ [(d1, d2)]).length (prow (ps ++ [(d1, d2)]))) := Lib.hid (by rw [← hd1, ← hd2, prow_app1, List.length_append]; exact HO7.out)
        have HP7 : Hid (Pairs w7 w4.heap.size w7.heap.size (some ⟨q7, 0, none⟩) c7 (ps ++ [(d1, d2)])) := Lib.hid (by
          obtain ⟨A9, c9, he, hC⟩ := Cells.of_own HO7'.out
          simp only [Value.slice.injEq, true_and] at he
          obtain ⟨rfl, rfl⟩ := he
          exact hC)
        obtain ⟨vb, hvb⟩ : ∃ vb, pairsB (ps ++ [(d1, d2)]) = vb := ⟨_, rfl⟩
        have h9 := pairsValidS_any (some ⟨q7, 0, none⟩) c7 _ _ (ps ++ [(d1, d2)]) w7 HP7.out (by simp; omega) (Nat.le_refl _)
        rw [hvb, List.length_append] at h9
        have H9 := Lib.hid h9
        have HR7 := Lib.hid (HR6.out.below HB7.out (by omega))
        have HOO7 := Lib.hid (HOO4.out.trans (HK6.out.then_below (HB7.out.mono (by omega))))
        clear h9 hvb hd1 hd2
        have hs78 : w4.heap.size ≤ w7.heap.size := by omega
        cases vb
        · go_wp2_with fail
          refine H9.out.mono ?_; rintro e w8 ⟨rfl, hb⟩
          have hs8 := hb.size
          have HK8 := Lib.hid ((HK6.out.then_below HB7.out).then_below (hb.mono (show w4.heap.size ≤ w7.heap.size by omega)))
          have HW8 := Lib.hid (ownsRow_only HW4.out HK8.out (show g + 1 ≤ w.heap.size by omega))
          have HR8 := Lib.hid (HR7.out.below hb (by omega))
          have HOO8 := Lib.hid (HOO7.out.then_below (hb.mono (by omega)))
          clear hb
          go_wp2_with fail
          go_roundw
          case rel => exact ⟨k + 1, p' + 1 + 1, q, d, ps, by omega, by go_num, rfl, by omega, HW8.out, HR8.out, by omega, by omega, HOO8.out⟩
          case measure => simp [intOf]; omega
        · go_wp2_with fail
          refine H9.out.mono ?_; rintro e w8 ⟨rfl, hb⟩
          have hs8 := hb.size
          have HW8 := Lib.hid (ownsRow_base (base' := w.heap.size) (ownsRow_below HO7'.out hb) (by omega))
          have HR8 := Lib.hid (HR7.out.below hb (by omega))
          have HOO8 := Lib.hid (HOO7.out.then_below (hb.mono (by omega)))
          clear hb
          go_wp2_with fail
          go_roundw
          case rel => exact ⟨k + 1, p' + 1 + 1, q7, c7, ps ++ [(d1, d2)], by omega, by go_num, by simp, by simp; omega, HW8.out, HR8.out, by omega, by omega, HOO8.out⟩
          case measure => simp [intOf]; omega
      · have hkn : ¬ ((k : Int) < 30) := by omega
        have hlen : ps.length ≤ 30 := by omega
        by_cases h0 : 0 < ps.length
        · have h0i : (0 : Int) < ps.length := by omega
          obtain ⟨⟨a0, b0⟩, hp0⟩ : ∃ z, ps[0]? = some z := ⟨_, List.getElem?_eq_getElem h0⟩
          have HP0 := Lib.hid hp0; clear hp0
          go_wp2_with fail
          refine (pick_any g p' 24 wr HR.out (by omega) (by omega)).mono ?_; rintro e w4 ⟨x, rfl, hx0, hx1, hR, hO, hs⟩
          obtain ⟨hs4a, hs4b⟩ := le_le hs
          have HR4 := Lib.hid hR
          have HW4 := Lib.hid (ownsRow_only HW.out hO (show g + 1 ≤ w.heap.size by omega))
          have HOO4 := Lib.hid (HOO.out.trans hO)
          clear hR hO hs
          have hd0 := HW4.out.cellAt 0 (by omega)
          have hd1 := HW4.out.cellAt 1 (by omega)
          have hf1 := HW4.out.frozenAt 1
          obtain ⟨e0, e1⟩ := prow_at HP0.out
          rw [Nat.zero_mul] at e0
          rw [Nat.zero_mul, Nat.zero_add] at e1
          rw [e0] at hd0
          rw [e1] at hd1
          clear e0 e1
          by_cases hx : x = 0
          · subst hx
            have hsz : w.heap.size ≤ w4.heap.size := by omega
            have hmx1 : ps.length + 1 ≤ maxLen := by simp only [maxLen]; omega
            have hmy1 : (ps.length + 1) * 16 ≤ 140737488355328 := by omega
            go_wp2_with (at_builtin; refine wpList_app1 elPr rfl (.tmp 50) (.tmp 54) rfl w4 _ HW4.out [.int .i64 a0, .int .i64 b0] rfl rfl ⟨rfl, rfl, rfl, rfl⟩ rfl (prow_one [(a0, b0)]) hsz hmx1 hmy1 ?_; intro q7 c7 w7 hown hb2 hg2 hsz2 hq2; have HO7 := Lib.hid hown; have HB7 := Lib.hid hb2; clear hown hb2 hg2 hsz2 hq2)
            have HP7 : Hid (Pairs w7 w.heap.size w7.heap.size (some ⟨q7, 0, none⟩) c7 (ps ++ [(a0, b0)])) := Lib.hid (by
              obtain ⟨A9, c9, he, hC⟩ := Cells.of_own HO7.out
              simp only [Value.slice.injEq, true_and] at he
              obtain ⟨rfl, rfl⟩ := he
              unfold Pairs
              rw [List.length_append, prow_app1]
              exact hC)
            have HR7 := Lib.hid (HR4.out.below HB7.out (by omega))
            have HO9 := Lib.hid (HOO4.out.then_below HB7.out)
            go_ret
            exact ⟨some ⟨q7, 0, none⟩, c7, ps ++ [(a0, b0)], p' + 1, by simp, HP7.out, by simp; omega, HR7.out, by omega, by omega, HO9.out⟩
          · have hxn : (x == 0) = false := by simpa using hx
            by_cases hx1 : x = 1
            · subst hx1
              have hst := (HW4.out.stored 1 (.int .i64 a0)).1
              rw [prow_setB HP0.out] at hst
              obtain ⟨w5, hw5⟩ : ∃ W, W = w4.setCell ⟨q, 1, none⟩ (.int .i64 a0) := ⟨_, rfl⟩
              have hql : w.heap.size ≤ q := (HW4.out.lt q rfl).1
              have hb5 : Below w.heap.size w4 w5 := by rw [hw5]; exact (Below.refl _ _).setCell (p := ⟨q, 1, none⟩) hql _
              rw [← hw5] at hst
              have HST : Hid (w5.ownsRow w.heap.size 74 2 (.slice (some ⟨q, 0, none⟩) (ps.set 0 (a0, a0)).length d) (ps.set 0 (a0, a0)).length (prow (ps.set 0 (a0, a0)))) := Lib.hid (by rw [List.length_set]; exact hst)
              have HP7 : Hid (Pairs w5 w.heap.size w5.heap.size (some ⟨q, 0, none⟩) d (ps.set 0 (a0, a0))) := Lib.hid (by
                obtain ⟨A9, c9, he, hC⟩ := Cells.of_own HST.out
                simp only [Value.slice.injEq, true_and] at he
                obtain ⟨rfl, rfl⟩ := he
                exact hC)
              have HR5 := Lib.hid (HR4.out.below hb5 (by omega))
              have HO5 := Lib.hid (HOO4.out.then_below hb5)
              clear hst hb5
              go_wp2_with fail
              rw [← hw5]
              go_ret
              exact ⟨some ⟨q, 0, none⟩, d, ps.set 0 (a0, a0), p' + 1, by simp, HP7.out, by simp; omega, HR5.out, by omega, by omega, HO5.out⟩
            · have hxn1 : (x == 1) = false := by simpa using hx1
              have HP7 : Hid (Pairs w4 w.heap.size w4.heap.size (some ⟨q, 0, none⟩) d ps) := Lib.hid (by
                obtain ⟨A9, c9, he, hC⟩ := Cells.of_own HW4.out
                simp only [Value.slice.injEq, true_and] at he
                obtain ⟨rfl, rfl⟩ := he
                exact hC)
              go_wp2_with fail
              go_ret
              exact ⟨some ⟨q, 0, none⟩, d, ps, p' + 1, by simp, HP7.out, by omega, HR4.out, by omega, by omega, HOO4.out⟩
        · have h0i : ¬ (0 : Int) < ps.length := by omega
          have HP7 : Hid (Pairs wr w.heap.size wr.heap.size (some ⟨q, 0, none⟩) d ps) := Lib.hid (by
            obtain ⟨A9, c9, he, hC⟩ := Cells.of_own HW.out
            simp only [Value.slice.injEq, true_and] at he
            obtain ⟨rfl, rfl⟩ := he
            exact hC)
          go_wp2_with fail
          go_ret
          exact ⟨some ⟨q, 0, none⟩, d, ps, p', by simp, HP7.out, by omega, HR.out, by omega, by omega, HOO.out⟩
  · have hxn : (x == 0) = false := by simpa using hx
    go_wp2_with fail
    go_loopw [3, 5] (fun o i wr => ∃ k p' q d : Nat, ∃ ps : List (Int × Int), k ≤ (n : Nat) ∧ i = .int .i64 k ∧ o = .slice (some ⟨q, 0, none⟩) ps.length d ∧ ps.length ≤ k ∧ wr.ownsRow w.heap.size 74 2 (.slice (some ⟨q, 0, none⟩) ps.length d) ps.length (prow ps) ∧
        Rd wr g p' ∧ p + 2 ≤ p' ∧ p' ≤ p + 2 + 2 * k ∧ Only g (g + 1) w wr) (fun _ i _ => (n : Nat) - (intOf i).toNat)
    case atStart => exact ⟨0, p + 1 + 1, w.heap.size, 0, [], by omega, rfl, rfl, by simp, HW0.out, HR.out, by omega, by omega, HO.out⟩
    case round =>
      clear HR HW0
      obtain ⟨k, p', q, d, ps, hk, rfl, rfl, hul, hown, hR, hp1, hp2, hO⟩ := hrel
      have HW := Lib.hid hown; clear hown
      have HR := Lib.hid hR; clear hR
      have HOO := Lib.hid hO
      have hsO := hO.size
      clear hO
      have hgl := HR.out.lt
      by_cases hlt : k < (n : Nat)
      · have hklt : (k : Int) < (n : Nat) := by omega
        go_wp2_with fail
        refine (pick_any g p' 8 wr HR.out (by omega) (by omega)).mono ?_; rintro e w4 ⟨a, rfl, ha0, ha1, hR, hO, hs⟩
        obtain ⟨hs4a, hs4b⟩ := le_le hs
        have HR4 := Lib.hid hR
        have HW4 := Lib.hid (ownsRow_only HW.out hO (show g + 1 ≤ w.heap.size by omega))
        have HOO4 := Lib.hid (HOO.out.trans hO)
        clear hR hO hs
        obtain ⟨y, hy⟩ : ∃ y : Int, (k : Int) / 3 = y := ⟨_, rfl⟩
        have hyb : 0 ≤ y ∧ y ≤ 10 := by omega
        have HE : Hid ((w4.alloc (.cells #[] 74)).ownsRow w4.heap.size 74 2 (.slice (some ⟨w4.heap.size, 0, none⟩) 0 0) 0 []) := Lib.hid (ownsRow_empty w4 74 2)
        have HBE := Lib.hid (alloc_belowP w4 (.cells #[] 74))
        have HC : Hid (Cells (w4.alloc (.cells #[] 74)) w.heap.size w4.heap.size (some ⟨q, 0, none⟩) d ps.length 2 (prow ps)) := Lib.hid (by
          obtain ⟨A9, c9, he, hC⟩ := Cells.of_own HW4.out
          simp only [Value.slice.injEq, true_and] at he
          obtain ⟨rfl, rfl⟩ := he
          exact hC.below HBE.out (Nat.le_refl _))
        have hse : w4.heap.size ≤ (w4.alloc (.cells #[] 74)).heap.size := by simp
        have hmx : 0 + ps.length ≤ maxLen := by simp only [maxLen]; omega
        have hmy : (0 + ps.length) * 16 ≤ 140737488355328 := by omega
        go_wp2_with (at_builtin; refine wpList_appC elPr rfl (.tmp 22) (.tmp 23) rfl _ HE.out (some ⟨q, 0, none⟩) ps.length d (prow ps) rfl rfl HC.out (prow_one _) hse hmx hmy ?_; intro A5 c5 w5 hown hb2 _; have HO5 := Lib.hid hown; have HB5 := Lib.hid (HBE.out.trans hb2); clear hown hb2)
        clear hse HE HC
        have hs5 := HB5.out.size
        refine (pick_any g (p' + 1) 5 w5 (HR4.out.below HB5.out (by omega)) (by omega) (by omega)).mono ?_; rintro e w6 ⟨b, rfl, hb0, hb1, hR, hO, hs⟩
        obtain ⟨hs6a, hs6b⟩ := le_le hs
        have HR6 := Lib.hid hR
        have HO6 := Lib.hid (ownsRow_only HO5.out hO (show g + 1 ≤ w4.heap.size by omega))
        have HK6 : Hid (Only g (g + 1) w4 w6) := Lib.hid ((Only.of_below HB5.out).trans hO)
        clear hR hO hs
        have hs46 := HK6.out.size
        have HO6' : Hid (w6.ownsRow w4.heap.size 74 2 (.slice A5 ps.length c5) ps.length (prow ps)) := Lib.hid (by have := HO6.out; rwa [Nat.zero_add, List.nil_append] at this)
        have hmx1 : ps.length + 1 ≤ maxLen := by simp only [maxLen]; omega
        have hmy1 : (ps.length + 1) * 16 ≤ 140737488355328 := by omega
        go_wp2_with (at_builtin; refine wpList_app1 elPr rfl (.tmp 24) (.tmp 38) rfl w6 _ HO6'.out [.int .i64 (1 + a + y), .int .i64 (1 + a + y + 1 + b)] rfl rfl ⟨rfl, rfl, rfl, rfl⟩ rfl (prow_one [(1 + a + y, 1 + a + y + 1 + b)]) hs46 hmx1 hmy1 ?_; intro q7 c7 w7 hown hb2 hg2 hsz2 hq2; have HO7 := Lib.hid hown; have HB7 := Lib.hid hb2; have hs67 := hb2.size; clear hown hb2 hg2 hsz2 hq2)
        obtain ⟨d1, hd1⟩ : ∃ z : Int, 1 + a + y = z := ⟨_, rfl⟩
        obtain ⟨d2, hd2⟩ : ∃ z : Int, 1 + a + y + 1 + b = z := ⟨_, rfl⟩
        have HO7' : Hid (w7.ownsRow w4.heap.size 74 2 (.slice (some ⟨q7, 0, none⟩) (ps ++ [(d1, d2)]).length c7) (ps ++ [(d1, d2)]).length (prow (ps ++ [(d1, d2)]))) := Lib.hid (by rw [← hd1, ← hd2, prow_app1, List.length_append]; exact HO7.out)
        have HP7 : Hid (Pairs w7 w4.heap.size w7.heap.size (some ⟨q7, 0, none⟩) c7 (ps ++ [(d1, d2)])) := Lib.hid (by
          obtain ⟨A9, c9, he, hC⟩ := Cells.of_own HO7'.out
          simp only [Value.slice.injEq, true_and] at he
          obtain ⟨rfl, rfl⟩ := he
          exact hC)
        obtain ⟨vb, hvb⟩ : ∃ vb, pairsB (ps ++ [(d1, d2)]) = vb := ⟨_, rfl⟩
        have h9 := pairsValidS_any (some ⟨q7, 0, none⟩) c7 _ _ (ps ++ [(d1, d2)]) w7 HP7.out (by simp; omega) (Nat.le_refl _)
        rw [hvb, List.length_append] at h9
        have H9 := Lib.hid h9
        have HR7 := Lib.hid (HR6.out.below HB7.out (by omega))
        have HOO7 := Lib.hid (HOO4.out.trans (HK6.out.then_below (HB7.out.mono (by omega))))
        clear h9 hvb hd1 hd2
        have hs78 : w4.heap.size ≤ w7.heap.size := by omega
        cases vb
        · go_wp2_with fail
          refine H9.out.mono ?_; rintro e w8 ⟨rfl, hb⟩
          have hs8 := hb.size
          have HK8 := Lib.hid ((HK6.out.then_below HB7.out).then_below (hb.mono (show w4.heap.size ≤ w7.heap.size by omega)))
          have HW8 := Lib.hid (ownsRow_only HW4.out HK8.out (show g + 1 ≤ w.heap.size by omega))
          have HR8 := Lib.hid (HR7.out.below hb (by omega))
          have HOO8 := Lib.hid (HOO7.out.then_below (hb.mono (by omega)))
          clear hb
          go_wp2_with fail
          go_roundw
          case rel => exact ⟨k + 1, p' + 1 + 1, q, d, ps, by omega, by go_num, rfl, by omega, HW8.out, HR8.out, by omega, by omega, HOO8.out⟩
          case measure => simp [intOf]; omega
        · go_wp2_with fail
          refine H9.out.mono ?_; rintro e w8 ⟨rfl, hb⟩
          have hs8 := hb.size
          have HW8 := Lib.hid (ownsRow_base (base' := w.heap.size) (ownsRow_below HO7'.out hb) (by omega))
          have HR8 := Lib.hid (HR7.out.below hb (by omega))
          have HOO8 := Lib.hid (HOO7.out.then_below (hb.mono (by omega)))
          clear hb
          go_wp2_with fail
          go_roundw
          case rel => exact ⟨k + 1, p' + 1 + 1, q7, c7, ps ++ [(d1, d2)], by omega, by go_num, by simp, by simp; omega, HW8.out, HR8.out, by omega, by omega, HOO8.out⟩
          case measure => simp [intOf]; omega
      · have hkn : ¬ ((k : Int) < (n : Nat)) := by omega
        have hlen : ps.length ≤ 30 := by omega
        by_cases h0 : 0 < ps.length
        · have h0i : (0 : Int) < ps.length := by omega
          obtain ⟨⟨a0, b0⟩, hp0⟩ : ∃ z, ps[0]? = some z := ⟨_, List.getElem?_eq_getElem h0⟩
          have HP0 := Lib.hid hp0; clear hp0
          go_wp2_with fail
          refine (pick_any g p' 24 wr HR.out (by omega) (by omega)).mono ?_; rintro e w4 ⟨x, rfl, hx0, hx1, hR, hO, hs⟩
          obtain ⟨hs4a, hs4b⟩ := le_le hs
          have HR4 := Lib.hid hR
          have HW4 := Lib.hid (ownsRow_only HW.out hO (show g + 1 ≤ w.heap.size by omega))
          have HOO4 := Lib.hid (HOO.out.trans hO)
          clear hR hO hs
          have hd0 := HW4.out.cellAt 0 (by omega)
          have hd1 := HW4.out.cellAt 1 (by omega)
          have hf1 := HW4.out.frozenAt 1
          obtain ⟨e0, e1⟩ := prow_at HP0.out
          rw [Nat.zero_mul] at e0
          rw [Nat.zero_mul, Nat.zero_add] at e1
          rw [e0] at hd0
          rw [e1] at hd1
          clear e0 e1
          by_cases hx : x = 0
          · subst hx
            have hsz : w.heap.size ≤ w4.heap.size := by omega
            have hmx1 : ps.length + 1 ≤ maxLen := by simp only [maxLen]; omega
            have hmy1 : (ps.length + 1) * 16 ≤ 140737488355328 := by omega
            go_wp2_with (at_builtin; refine wpList_app1 elPr rfl (.tmp 50) (.tmp 54) rfl w4 _ HW4.out [.int .i64 a0, .int .i64 b0] rfl rfl ⟨rfl, rfl, rfl, rfl⟩ rfl (prow_one [(a0, b0)]) hsz hmx1 hmy1 ?_; intro q7 c7 w7 hown hb2 hg2 hsz2 hq2; have HO7 := Lib.hid hown; have HB7 := Lib.hid hb2; clear hown hb2 hg2 hsz2 hq2)
            have HP7 : Hid (Pairs w7 w.heap.size w7.heap.size (some ⟨q7, 0, none⟩) c7 (ps ++ [(a0, b0)])) := Lib.hid (by
              obtain ⟨A9, c9, he, hC⟩ := Cells.of_own HO7.out
              simp only [Value.slice.injEq, true_and] at he
              obtain ⟨rfl, rfl⟩ := he
              unfold Pairs
              rw [List.length_append, prow_app1]
              exact hC)
            have HR7 := Lib.hid (HR4.out.below HB7.out (by omega))
            have HO9 := Lib.hid (HOO4.out.then_below HB7.out)
            go_ret
            exact ⟨some ⟨q7, 0, none⟩, c7, ps ++ [(a0, b0)], p' + 1, by simp, HP7.out, by simp; omega, HR7.out, by omega, by omega, HO9.out⟩
          · have hxn : (x == 0) = false := by simpa using hx
            by_cases hx1 : x = 1
            · subst hx1
              have hst := (HW4.out.stored 1 (.int .i64 a0)).1
              rw [prow_setB HP0.out] at hst
              obtain ⟨w5, hw5⟩ : ∃ W, W = w4.setCell ⟨q, 1, none⟩ (.int .i64 a0) := ⟨_, rfl⟩
              have hql : w.heap.size ≤ q := (HW4.out.lt q rfl).1
              have hb5 : Below w.heap.size w4 w5 := by rw [hw5]; exact (Below.refl _ _).setCell (p := ⟨q, 1, none⟩) hql _
              rw [← hw5] at hst
              have HST : Hid (w5.ownsRow w.heap.size 74 2 (.slice (some ⟨q, 0, none⟩) (ps.set 0 (a0, a0)).length d) (ps.set 0 (a0, a0)).length (prow (ps.set 0 (a0, a0)))) := Lib.hid (by rw [List.length_set]; exact hst)
              have HP7 : Hid (Pairs w5 w.heap.size w5.heap.size (some ⟨q, 0, none⟩) d (ps.set 0 (a0, a0))) := Lib.hid (by
                obtain ⟨A9, c9, he, hC⟩ := Cells.of_own HST.out
                simp only [Value.slice.injEq, true_and] at he
                obtain ⟨rfl, rfl⟩ := he
                exact hC)
              have HR5 := Lib.hid (HR4.out.below hb5 (by omega))
              have HO5 := Lib.hid (HOO4.out.then_below hb5)
              clear hst hb5
              go_wp2_with fail
              rw [← hw5]
              go_ret
              exact ⟨some ⟨q, 0, none⟩, d, ps.set 0 (a0, a0), p' + 1, by simp, HP7.out, by simp; omega, HR5.out, by omega, by omega, HO5.out⟩
            · have hxn1 : (x == 1) = false := by simpa using hx1
              have HP7 : Hid (Pairs w4 w.heap.size w4.heap.size (some ⟨q, 0, none⟩) d ps) := Lib.hid (by
                obtain ⟨A9, c9, he, hC⟩ := Cells.of_own HW4.out
                simp only [Value.slice.injEq, true_and] at he
                obtain ⟨rfl, rfl⟩ := he
                exact hC)
              go_wp2_with fail
              go_ret
              exact ⟨some ⟨q, 0, none⟩, d, ps, p' + 1, by simp, HP7.out, by omega, HR4.out, by omega, by omega, HOO4.out⟩
        · have h0i : ¬ (0 : Int) < ps.length := by omega
          have HP7 : Hid (Pairs wr w.heap.size wr.heap.size (some ⟨q, 0, none⟩) d ps) := Lib.hid (by
            obtain ⟨A9, c9, he, hC⟩ := Cells.of_own HW.out
            simp only [Value.slice.injEq, true_and] at he
            obtain ⟨rfl, rfl⟩ := he
            exact hC)
          go_wp2_with fail
          go_ret
          exact ⟨some ⟨q, 0, none⟩, d, ps, p', by simp, HP7.out, by omega, HR.out, by omega, by omega, HOO.out⟩
theorem DrawPairsValid_any (A : Option Addr) (n c : Nat) (w : World) (hA : BytesR w w.heap.size A n) (hc : n ≤ c) (hm : c ≤ maxLen) :
    Calls Try.prog 31 #[.slice A n c] w fun e w' => ∃ A' c', ∃ ps : List (Int × Int), e = .returned (.slice A' ps.length c') ∧ Pairs w' w.heap.size w'.heap.size A' c' ps ∧ ps.length ≤ 31 ∧ Below w.heap.size w w' := by
  have HA := Lib.hid hA; clear hA
  go_enter Try.func31, Try.ntmps31
  go_wp2_with fail
  refine (l6Open_any A n c w HA.out hc hm).mono ?_; rintro e w1 ⟨g, rfl, hg, hR, hb⟩
  have HR := Lib.hid hR; clear hR
  have HB := Lib.hid hb; clear hb
  go_wp2_with fail
  refine (l92Pairs_any g 0 w1 HR.out (by omega)).mono ?_; rintro e w2 ⟨A', c', ps, p', rfl, hI, hl, hR2, _, _, hO⟩
  have HI := Lib.hid hI; clear hI
  have HO := Lib.hid hO; clear hO
  clear hR2
  go_wp2_with fail
  go_ret
  exact ⟨A', c', ps, by simp, HI.out.mono HB.out.size (Nat.le_refl _), hl, HB.out.trans (HO.out.below hg HB.out.size)⟩
end Go.Proofs.Ytojbljaleconpaa
