/- The generator of a list of tasks. No condition but on sizes. -/
import Derived.Test.YthfhlcmgeacddaaDx
namespace Go.Proofs.Ythfhlcmgeacddaa
open Go.RowKit
/-- drawn tasks in new memory -/
def DrewL (ti : TypeId) (w : World) (g p : Nat) (e : Ending) (w' : World) : Prop :=
  ∃ A c, ∃ ts : List TaskV, ∃ p', e = .returned (.slice A ts.length c) ∧ Tasks w' w.heap.size w'.heap.size A c ts ∧ (∀ t, t ∈ ts → DTk ti w' w.heap.size t) ∧ ts.length ≤ 16 ∧ Rd w' g p' ∧ p ≤ p' ∧ p' ≤ p + 200 ∧ Only g (g + 1) w w'
theorem elT : Elem Try.prog 36 25 2 32 := Elem.mk' Try.underlying36 (z := .agg #[.int .i64 0, .slice none 0 0]) (by kernel_rfl) rfl (by omega)
theorem ownT_lit (w : World) (a b : Value) : (w.alloc (.cells #[a, b] 25)).ownsRow w.heap.size 25 2 (.slice (some ⟨w.heap.size, 0, none⟩) 1 1) 1 [a, b] :=
  World.ownsRow_lit w #[a, b] 1 (Nat.le_refl _) (by simp [maxLen]) rfl
set_option maxHeartbeats 2000000 in
theorem l91Tasks_any (g p m : Nat) (w : World) (hR : Rd w g p) (hp : p ≤ 800000) (hm : m ≤ 15) :
    Calls Try.prog 52 #[.pointer (some ⟨g, 0, none⟩), .int .i64 m] w (DrewL 3 w g p) := by
  have HR := Lib.hid hR; clear hR
  have hg0 : g < w.heap.size := HR.out.lt
  go_enter Try.func52, Try.ntmps52
  go_wp2_with fail
  obtain ⟨w0, hw0⟩ : ∃ W, W = w.alloc (.cells #[] 25) := ⟨_, rfl⟩
  rw [← hw0]
  have hb : Below w.heap.size w w0 := by rw [hw0]; exact (Below.refl _ _).alloc (Nat.le_refl _) _
  have HW : Hid (w0.ownsRow w.heap.size 25 2 (.slice (some ⟨w.heap.size, 0, none⟩) 0 0) 0 []) := Lib.hid (by rw [hw0]; exact ownsRow_empty w _ 2)
  obtain ⟨ha0, hb0⟩ := le_le (show w0.heap.size = w.heap.size + 1 by rw [hw0]; simp)
  have HO : Hid (Only g (g + 1) w w0) := Lib.hid (Only.of_below hb)
  replace HR := Lib.hid (Rd.below HR.out hb (by omega))
  clear hb hw0
  refine (pick_any g p 5 w0 HR.out (by omega) (by omega)).mono ?_; rintro e w1 ⟨x, rfl, hx0, hx1, hR, hO, hs⟩
  obtain ⟨ha1, hb1⟩ := le_le hs; clear hs
  replace HR := Lib.hid hR; clear hR
  first | replace HO := Lib.hid (Only.trans HO.out hO) | replace HO := Lib.hid (Only.then_below HO.out (Below.mono hO (by omega)))
  first | replace HW := Lib.hid (ownsRow_only HW.out hO (by omega)) | replace HW := Lib.hid (ownsRow_below' HW.out hO (by omega))
  clear hO
  have hxs : IntKind.i64.wrap (1 + x) = 1 + x := wrap_small (by omega)
  go_wp2_with fail
  go_loopw [5, 6, 7] (fun o d i wr => ∃ k : Nat, ∃ A c, ∃ ts : List TaskV, ∃ id : Int, ∃ p', k ≤ m ∧ i = .int .i64 k ∧ d = .int .i64 id ∧ o = .slice A ts.length c ∧ ts.length = k ∧ (1 ≤ id ∧ id ≤ 10 + 2 * k) ∧
      wr.ownsRow w.heap.size 25 2 (.slice A ts.length c) ts.length (trow ts) ∧ (∀ t, t ∈ ts → DTk 3 wr w.heap.size t) ∧ Rd wr g p' ∧ p + 1 ≤ p' ∧ p' ≤ p + 1 + 8 * k ∧ Only g (g + 1) w wr) (fun _ _ i _ => m - (intOf i).toNat)
  case atStart => exact ⟨0, _, 0, [], 1 + x, p + 1, by omega, rfl, rfl, rfl, rfl, by omega, HW.out, by simp, HR.out, by omega, by omega, HO.out⟩
  case round =>
    obtain ⟨k, A, c, ts, id, p1, hk, rfl, rfl, rfl, hlen, hid, hown, hdt, hR, hp1, hp2, hO⟩ := hrel
    replace HR := Lib.hid hR; clear hR
    replace HO := Lib.hid hO; clear hO
    replace HW := Lib.hid hown; clear hown
    have HD := Lib.hid hdt; clear hdt
    have hsz := HO.out.size
    have HK := Lib.hid hlen; clear hlen
    by_cases hlt : k < m
    · --ROUND
      go_wp2_with fail
      refine (l91TaskB_any g p1 id wr HR.out (by omega)).mono ?_; rintro e w2 ⟨b, nx, ny, nz, p2, rfl, hBk, hbl, hbh, hnx, hny, hnz, hR, hp3, hp4, hO⟩
      replace HR := Lib.hid hR; clear hR
      have HN := Lib.hid hBk; clear hBk
      first | replace HO := Lib.hid (Only.trans HO.out hO) | replace HO := Lib.hid (Only.then_below HO.out (Below.mono hO (by omega)))
      first | replace HW := Lib.hid (ownsRow_only HW.out hO (by omega)) | replace HW := Lib.hid (ownsRow_below' HW.out hO (by omega))
      replace HD : Hid (∀ t, t ∈ ts → DTk 3 w2 w.heap.size t) := Lib.hid fun t ht => (HD.out t ht).only hO (by omega)
      have hs2 := hO.size; clear hO
      go_wp2_with fail
      obtain ⟨w3, hw3⟩ : ∃ W, W = w2.alloc (.cells #[.int .i64 id, .slice (some ⟨b, 0, none⟩) 3 3] 25) := ⟨_, rfl⟩
      rw [← hw3]
      have hb : Below w2.heap.size w2 w3 := by rw [hw3]; exact (Below.refl _ _).alloc (Nat.le_refl _) _
      have HU : Hid (Blk w3 w2.heap.size 25 [.int .i64 id, .slice (some ⟨b, 0, none⟩) 3 3]) := Lib.hid (by rw [hw3]; exact Blk.new w2 _ _)
      obtain ⟨ha3, hb3⟩ := le_le (show w3.heap.size = w2.heap.size + 1 by rw [hw3]; simp)
      replace HD : Hid (∀ t, t ∈ ts → DTk 3 w3 w.heap.size t) := Lib.hid fun t ht => (HD.out t ht).step hb
      first | replace HO := Lib.hid (Only.trans HO.out hb) | replace HO := Lib.hid (Only.then_below HO.out (Below.mono hb (by omega)))
      first | replace HW := Lib.hid (ownsRow_only HW.out hb (by omega)) | replace HW := Lib.hid (ownsRow_below' HW.out hb (by omega))
      replace HR := Lib.hid (Rd.below HR.out hb (by omega))
      first | replace HN := Lib.hid (Blk.only HN.out hb (by omega)) | replace HN := Lib.hid (Blk.below HN.out hb (by omega))
      clear hb hw3
      have hi1 : IntKind.i64.wrap (id + 1) = id + 1 := wrap_small (by omega)
      refine (pick_any g p2 2 w3 HR.out (by omega) (by omega)).mono ?_; rintro e w4 ⟨r, rfl, hr0, hr1, hR, hO, hs⟩
      obtain ⟨ha4, hb4⟩ := le_le hs; clear hs
      replace HR := Lib.hid hR; clear hR
      replace HD : Hid (∀ t, t ∈ ts → DTk 3 w4 w.heap.size t) := Lib.hid fun t ht => (HD.out t ht).only hO (by omega)
      first | replace HO := Lib.hid (Only.trans HO.out hO) | replace HO := Lib.hid (Only.then_below HO.out (Below.mono hO (by omega)))
      first | replace HW := Lib.hid (ownsRow_only HW.out hO (by omega)) | replace HW := Lib.hid (ownsRow_below' HW.out hO (by omega))
      first | replace HN := Lib.hid (Blk.only HN.out hO (by omega)) | replace HN := Lib.hid (Blk.below HN.out hO (by omega))
      first | replace HU := Lib.hid (Blk.only HU.out hO (by omega)) | replace HU := Lib.hid (Blk.below HU.out hO (by omega))
      clear hO
      have hi2 : IntKind.i64.wrap (id + 1 + r) = id + 1 + r := wrap_small (by omega)
      go_wp2_with fail
      refine (pick_any g (p2 + 1) 3 w4 HR.out (by omega) (by omega)).mono ?_; rintro e w5 ⟨q, rfl, hq0, hq1, hR, hO, hs⟩
      obtain ⟨ha5, hb5⟩ := le_le hs; clear hs
      replace HR := Lib.hid hR; clear hR
      replace HD : Hid (∀ t, t ∈ ts → DTk 3 w5 w.heap.size t) := Lib.hid fun t ht => (HD.out t ht).only hO (by omega)
      first | replace HO := Lib.hid (Only.trans HO.out hO) | replace HO := Lib.hid (Only.then_below HO.out (Below.mono hO (by omega)))
      first | replace HW := Lib.hid (ownsRow_only HW.out hO (by omega)) | replace HW := Lib.hid (ownsRow_below' HW.out hO (by omega))
      first | replace HN := Lib.hid (Blk.only HN.out hO (by omega)) | replace HN := Lib.hid (Blk.below HN.out hO (by omega))
      first | replace HU := Lib.hid (Blk.only HU.out hO (by omega)) | replace HU := Lib.hid (Blk.below HU.out hO (by omega))
      clear hO
      have hu0 := HU.out.cell (i := 0) rfl
      have hu1 := HU.out.cell (i := 1) rfl
      have HT0 : Hid (DTk 3 w5 w.heap.size ⟨id, some ⟨b, 0, none⟩, 3, [nx, ny, nz]⟩) := Lib.hid ⟨b, nx, ny, nz, rfl, rfl, rfl, by omega, HN.out, hnx, hny, hnz, by simp; omega⟩
      by_cases e0 : q = 0 ∧ 0 < ts.length
      · obtain ⟨rfl, hl0⟩ := e0
        have hl0' : (0 : Int) < ts.length := by omega
        have hl15 : ts.length ≤ 15 := by have := HK.out; omega
        obtain ⟨A', c', he, hC⟩ := Cells.of_own HW.out
        simp only [Value.slice.injEq] at he
        obtain ⟨rfl, -, rfl⟩ := he
        have hbl5 : Below w5.heap.size w5 (w5.alloc (.cells #[.int .i64 id, .slice (some ⟨b, 0, none⟩) 3 3] 25)) := (Below.refl _ _).alloc (Nat.le_refl _) _
        have HC := Lib.hid (hC.below hbl5 (Nat.le_refl _)); clear hC
        have HL5 := Lib.hid hbl5; clear hbl5
        go_wp2_with (at_builtin; refine wpList_appC elT rfl (.tmp 36) (.tmp 37) rfl _ (ownT_lit w5 _ _) A ts.length c (trow ts) rfl rfl HC.out (trow_one ts) (by simp) (by simp only [maxLen]; omega) (by omega) ?_; intro A2 c2 w9 hown2 hb2 hg2; have HW2 := Lib.hid hown2; have HG2 := Lib.hid hg2; have hb3 := HL5.out.trans hb2; clear hown2 hg2 hb2)
        replace HR := Lib.hid (Rd.below HR.out hb3 (by omega))
        first | replace HO := Lib.hid (Only.trans HO.out hb3) | replace HO := Lib.hid (Only.then_below HO.out (Below.mono hb3 (by omega)))
        clear hb3
        have hel : 1 + ts.length = ((⟨id, some ⟨b, 0, none⟩, 3, [nx, ny, nz]⟩ : TaskV) :: ts).length := by simp [Nat.add_comm]
        have hown9 := ownsRow_base HW2.out (show w.heap.size ≤ w5.heap.size by omega)
        rw [hel] at hown9
        refine ⟨⟨k + 1, _, _, (⟨id, some ⟨b, 0, none⟩, 3, [nx, ny, nz]⟩ : TaskV) :: ts, id + 1 + r, _, by omega, by go_num, rfl, by rw [← hel], by rw [← HK.out]; simp, by omega, hown9, ?_, HR.out, by omega, by omega, HO.out⟩, by simp [intOf]; omega⟩
        intro t ht
        rcases List.mem_cons.1 ht with rfl | ht
        · exact (HT0.out.step HL5.out).grown HG2.out (ownT_lit w5 _ _) (by decide)
        · exact ((HD.out t ht).step HL5.out).grown HG2.out (ownT_lit w5 _ _) (by decide)
      · by_cases e1 : q = 0
        · have hl0 : ts.length = 0 := by omega
          subst e1
          have hl0' : decide ((0 : Int) < (ts.length : Int)) = false := decide_eq_false (by omega)
          have hl1' : decide (0 < ts.length) = false := decide_eq_false (by omega)
          clear hl0 e0
          have hl15 : ts.length ≤ 15 := by have := HK.out; omega
          have hbl5 : Below w5.heap.size w5 (w5.alloc (.cells #[.int .i64 id, .slice (some ⟨b, 0, none⟩) 3 3] 25)) := (Below.refl _ _).alloc (Nat.le_refl _) _
          have hsz5 : w.heap.size ≤ w5.heap.size := by omega
          go_wp2_with (at_builtin; refine wpList_app1 elT rfl (.tmp 39) (.tmp 41) rfl w5 _ HW.out [.int .i64 id, .slice (some ⟨b, 0, none⟩) 3 3] rfl rfl ⟨rfl, rfl, rfl, rfl⟩ rfl (trow_one [⟨id, some ⟨b, 0, none⟩, 3, [nx, ny, nz]⟩]) hsz5 (by simp only [maxLen]; omega) (by omega) ?_; intro gg cap w9 hown2 hb2 hg2 hsz9 _; have HW2 := Lib.hid hown2; have HG2 := Lib.hid hg2; have HB2 := Lib.hid hb2; clear hown2 hg2 hb2)
          have hb3 := HB2.out
          replace HR := Lib.hid (Rd.below HR.out hb3 (by omega))
          first | replace HO := Lib.hid (Only.trans HO.out hb3) | replace HO := Lib.hid (Only.then_below HO.out (Below.mono hb3 (by omega)))
          clear hb3
          have hel : ts.length + 1 = (ts ++ [(⟨id, some ⟨b, 0, none⟩, 3, [nx, ny, nz]⟩ : TaskV)]).length := by simp
          have hown9 := HW2.out
          rw [hel] at hown9
          refine ⟨⟨k + 1, _, _, ts ++ [(⟨id, some ⟨b, 0, none⟩, 3, [nx, ny, nz]⟩ : TaskV)], id + 1 + r, _, by omega, by go_num, rfl, by rw [← hel], by rw [← HK.out]; simp, by omega, by rw [trow_app]; exact hown9, ?_, HR.out, by omega, by omega, HO.out⟩, by simp [intOf]; omega⟩
          intro t ht
          rcases List.mem_append.1 ht with ht | ht
          · exact (HD.out t ht).grown HG2.out HW.out (by decide)
          · obtain rfl := List.mem_singleton.1 ht
            exact HT0.out.grown HG2.out HW.out (by decide)
        · have hq' : (q == 0) = false := by simp [e1]
          have hl15 : ts.length ≤ 15 := by have := HK.out; omega
          have hbl5 : Below w5.heap.size w5 (w5.alloc (.cells #[.int .i64 id, .slice (some ⟨b, 0, none⟩) 3 3] 25)) := (Below.refl _ _).alloc (Nat.le_refl _) _
          have hsz5 : w.heap.size ≤ w5.heap.size := by omega
          go_wp2_with (at_builtin; refine wpList_app1 elT rfl (.tmp 39) (.tmp 41) rfl w5 _ HW.out [.int .i64 id, .slice (some ⟨b, 0, none⟩) 3 3] rfl rfl ⟨rfl, rfl, rfl, rfl⟩ rfl (trow_one [⟨id, some ⟨b, 0, none⟩, 3, [nx, ny, nz]⟩]) hsz5 (by simp only [maxLen]; omega) (by omega) ?_; intro gg cap w9 hown2 hb2 hg2 hsz9 _; have HW2 := Lib.hid hown2; have HG2 := Lib.hid hg2; have HB2 := Lib.hid hb2; clear hown2 hg2 hb2)
          have hb3 := HB2.out
          replace HR := Lib.hid (Rd.below HR.out hb3 (by omega))
          first | replace HO := Lib.hid (Only.trans HO.out hb3) | replace HO := Lib.hid (Only.then_below HO.out (Below.mono hb3 (by omega)))
          clear hb3
          have hel : ts.length + 1 = (ts ++ [(⟨id, some ⟨b, 0, none⟩, 3, [nx, ny, nz]⟩ : TaskV)]).length := by simp
          have hown9 := HW2.out
          rw [hel] at hown9
          refine ⟨⟨k + 1, _, _, ts ++ [(⟨id, some ⟨b, 0, none⟩, 3, [nx, ny, nz]⟩ : TaskV)], id + 1 + r, _, by omega, by go_num, rfl, by rw [← hel], by rw [← HK.out]; simp, by omega, by rw [trow_app]; exact hown9, ?_, HR.out, by omega, by omega, HO.out⟩, by simp [intOf]; omega⟩
          intro t ht
          rcases List.mem_append.1 ht with ht | ht
          · exact (HD.out t ht).grown HG2.out HW.out (by decide)
          · obtain rfl := List.mem_singleton.1 ht
            exact HT0.out.grown HG2.out HW.out (by decide)
    · --AFTER
      have hkm : k = m := by omega
      subst hkm
      by_cases hm0 : k = 0
      · have hm0' : ¬ ((0 : Int) < (k : Int)) := by omega
        go_wp2_with fail
        go_ret
        obtain ⟨A9, c9, he9, hT9⟩ := Tasks.of_drawn HW.out HD.out
        refine ⟨A9, c9, ts, _, by simpa using he9, hT9, HD.out, (by have := HK.out; omega), HR.out, by omega, by omega, HO.out⟩
      have hm0' : (0 : Int) < (k : Int) := by omega
      go_wp2_with fail
      refine (pick_any g p1 k wr HR.out (by omega) (by omega)).mono ?_; rintro e w2 ⟨i0, rfl, hi0, hi1, hR, hO, hs⟩
      obtain ⟨i, rfl⟩ := Int.eq_ofNat_of_zero_le hi0
      obtain ⟨ha2, hb2⟩ := le_le hs; clear hs
      replace HR := Lib.hid hR; clear hR
      replace HD : Hid (∀ t, t ∈ ts → DTk 3 w2 w.heap.size t) := Lib.hid fun t ht => (HD.out t ht).only hO (by omega)
      first | replace HO := Lib.hid (Only.trans HO.out hO) | replace HO := Lib.hid (Only.then_below HO.out (Below.mono hO (by omega)))
      first | replace HW := Lib.hid (ownsRow_only HW.out hO (by omega)) | replace HW := Lib.hid (ownsRow_below' HW.out hO (by omega))
      clear hO
      go_wp2_with fail
      refine (pick_any g (p1 + 1) 40 w2 HR.out (by omega) (by omega)).mono ?_; rintro e w3 ⟨q, rfl, hq0, hq1, hR, hO, hs⟩
      obtain ⟨ha3, hb3⟩ := le_le hs; clear hs
      replace HR := Lib.hid hR; clear hR
      replace HD : Hid (∀ t, t ∈ ts → DTk 3 w3 w.heap.size t) := Lib.hid fun t ht => (HD.out t ht).only hO (by omega)
      first | replace HO := Lib.hid (Only.trans HO.out hO) | replace HO := Lib.hid (Only.then_below HO.out (Below.mono hO (by omega)))
      first | replace HW := Lib.hid (ownsRow_only HW.out hO (by omega)) | replace HW := Lib.hid (ownsRow_below' HW.out hO (by omega))
      clear hO
      obtain ⟨gb, cap, he, hgb, hgl⟩ := HW.out.form (by have := HK.out; omega)
      simp only [Value.slice.injEq] at he
      obtain ⟨rfl, -, rfl⟩ := he
      have hit : i < ts.length := by have := HK.out; omega
      obtain ⟨t, ht⟩ : ∃ t, ts[i]? = some t := ⟨_, List.getElem?_eq_getElem hit⟩
      have HTt := Lib.hid (HD.out t (List.mem_of_getElem? ht))
      obtain ⟨b, nx, ny, nz, hta, htc, htn, hbl, hBk, hnx, hny, hnz, htid⟩ := HTt.out
      obtain ⟨e1, e2⟩ := trow_at ht
      have hc0 := HW.out.cellAt (i * 2) (by omega)
      rw [e1] at hc0
      have hc1 := HW.out.cellAt (i * 2 + 1) (by omega)
      rw [e2, hta, htc, htn] at hc1
      have hf0 := HW.out.frozenAt (i * 2)
      have HBk := Lib.hid hBk; clear hBk e1 e2
      have hitI : (i : Int) < (ts.length : Int) := by omega
      have HTI := Lib.hid ht; clear ht
      have HTA := Lib.hid hta; have HTC := Lib.hid htc; have HTN := Lib.hid htn; clear hta htc htn
      by_cases e0 : q = 0
      · subst e0
        go_wp2_with fail
        obtain ⟨w4, hw4⟩ : ∃ W, W = w3.alloc (.cells #[.int .i64 0, .int .i64 40, .int .i64 41] 3) := ⟨_, rfl⟩
        rw [← hw4]
        have hb : Below w3.heap.size w3 w4 := by rw [hw4]; exact (Below.refl _ _).alloc (Nat.le_refl _) _
        have HL3 : Hid (Blk w4 w3.heap.size 3 [.int .i64 0, .int .i64 40, .int .i64 41]) := Lib.hid (by rw [hw4]; exact Blk.new w3 _ _)
        obtain ⟨ha4, hb4⟩ := le_le (show w4.heap.size = w3.heap.size + 1 by rw [hw4]; simp)
        replace HD : Hid (∀ t, t ∈ ts → DTk 3 w4 w.heap.size t) := Lib.hid fun t ht => (HD.out t ht).step hb
        replace HR := Lib.hid (Rd.below HR.out hb (by omega))
        first | replace HO := Lib.hid (Only.trans HO.out hb) | replace HO := Lib.hid (Only.then_below HO.out (Below.mono hb (by omega)))
        first | replace HW := Lib.hid (ownsRow_only HW.out hb (by omega)) | replace HW := Lib.hid (ownsRow_below' HW.out hb (by omega))
        clear hb hw4
        refine (pick_any g (p1 + 1 + 1) 3 w4 HR.out (by omega) (by omega)).mono ?_; rintro e w5 ⟨s0, rfl, hs0, hs1, hR, hO, hs⟩
        obtain ⟨s, rfl⟩ := Int.eq_ofNat_of_zero_le hs0
        obtain ⟨ha5, hb5⟩ := le_le hs; clear hs
        replace HR := Lib.hid hR; clear hR
        replace HD : Hid (∀ t, t ∈ ts → DTk 3 w5 w.heap.size t) := Lib.hid fun t ht => (HD.out t ht).only hO (by omega)
        first | replace HO := Lib.hid (Only.trans HO.out hO) | replace HO := Lib.hid (Only.then_below HO.out (Below.mono hO (by omega)))
        first | replace HW := Lib.hid (ownsRow_only HW.out hO (by omega)) | replace HW := Lib.hid (ownsRow_below' HW.out hO (by omega))
        first | replace HL3 := Lib.hid (Blk.only HL3.out hO (by omega)) | replace HL3 := Lib.hid (Blk.below HL3.out hO (by omega))
        clear hO
        have hs3 : s < 3 := by omega
        obtain ⟨u, hu, hu0⟩ : ∃ u : Int, ([.int .i64 0, .int .i64 40, .int .i64 41] : List Value)[s]? = some (.int .i64 u) ∧ 0 ≤ u ∧ u ≤ 100 := by
          have : s = 0 ∨ s = 1 ∨ s = 2 := by omega
          rcases this with rfl | rfl | rfl
          · exact ⟨0, rfl, by omega⟩
          · exact ⟨40, rfl, by omega⟩
          · exact ⟨41, rfl, by omega⟩
        have hl0 := HL3.out.cell hu
        clear hu hc0 hc1 hf0
        have hc0 := HW.out.cellAt (i * 2) (by omega)
        rw [(trow_at HTI.out).1] at hc0
        have hf0 := HW.out.frozenAt (i * 2)
        have hs3' : (s : Int) < 3 := by omega
        go_wp2_with fail
        have hst := (HW.out.stored (i * 2) (.int .i64 u)).1
        rw [trow_set HTI.out] at hst
        have hdt : ∀ t', t' ∈ ts.set i { t with id := u } → DTk 3 (w5.setCell ⟨gb, i * 2, none⟩ (.int .i64 u)) w.heap.size t' := by
          intro t' ht'
          rcases List.mem_or_eq_of_mem_set ht' with h | rfl
          · exact (HD.out t' h).far _ HW.out (by decide) rfl
          · obtain ⟨b', x', y', z', h1, h2, h3, h4, h5, h6, h7, h8, _⟩ := (HD.out t (List.mem_of_getElem? HTI.out)).far (p := ⟨gb, i * 2, none⟩) (.int .i64 u) HW.out (by decide) rfl
            exact ⟨b', x', y', z', h1, h2, h3, h4, h5, h6, h7, h8, hu0⟩
        obtain ⟨w6, hw6⟩ : ∃ W, W = w5.setCell ⟨gb, i * 2, none⟩ (.int .i64 u) := ⟨_, rfl⟩
        rw [← hw6] at hst hdt ⊢
        have hb : Below w.heap.size w5 w6 := by rw [hw6]; exact (Below.refl _ _).setCell (p := ⟨gb, i * 2, none⟩) hgb _
        replace HR := Lib.hid (Rd.below HR.out hb (by omega))
        first | replace HO := Lib.hid (Only.trans HO.out hb) | replace HO := Lib.hid (Only.then_below HO.out (Below.mono hb (by omega)))
        clear hb hw6 hc0 hf0
        go_wp2_with fail
        go_ret
        obtain ⟨A9, c9, he9, hT9⟩ := Tasks.of_drawn (ts := ts.set i { t with id := u }) (by simpa using hst) hdt
        refine ⟨A9, c9, ts.set i { t with id := u }, _, by simpa using he9, hT9, hdt, (by have := HK.out; simp; omega), HR.out, by omega, by omega, HO.out⟩
      · have e0' : (q == 0) = false := by simpa using e0
        by_cases e1 : q = 1
        · subst e1
          have hb0 := HBk.out.cell (i := 0) rfl
          have hbf := HBk.out.frozen 0
          go_wp2_with fail
          obtain ⟨ts2, hl2, hr2, hd2⟩ := DTk.pokes HD.out b 0 20 (by omega) (by omega)
          have hst := own_far HW.out (p := ⟨b, 0, none⟩) (own_ne HW.out HBk.out (by decide)) (.int .i64 20)
          rw [← hl2, ← hr2] at hst
          obtain ⟨w6, hw6⟩ : ∃ W, W = w3.setCell ⟨b, 0, none⟩ (.int .i64 20) := ⟨_, rfl⟩
          rw [← hw6] at hst hd2 ⊢
          have hb : Below w.heap.size w3 w6 := by rw [hw6]; exact (Below.refl _ _).setCell (p := ⟨b, 0, none⟩) hbl _
          replace HR := Lib.hid (Rd.below HR.out hb (by omega))
          first | replace HO := Lib.hid (Only.trans HO.out hb) | replace HO := Lib.hid (Only.then_below HO.out (Below.mono hb (by omega)))
          clear hb hw6 hc0 hf0
          go_ret
          obtain ⟨A9, c9, he9, hT9⟩ := Tasks.of_drawn (ts := ts2) hst hd2
          refine ⟨A9, c9, ts2, _, by rw [← hl2]; simpa using he9, hT9, hd2, (by have := HK.out; omega), HR.out, by omega, by omega, HO.out⟩
        · have e1' : (q == 1) = false := by simpa using e1
          by_cases e2 : q = 2
          · subst e2
            have hl15 : ts.length ≤ 15 := by have := HK.out; omega
            have hbl5 : Below w3.heap.size w3 (w3.alloc (.cells #[.int .i64 t.id, .slice (some ⟨b, 0, none⟩) 3 3] 25)) := (Below.refl _ _).alloc (Nat.le_refl _) _
            have hsz5 : w.heap.size ≤ w3.heap.size := by omega
            have htc : tcells t = [.int .i64 t.id, .slice (some ⟨b, 0, none⟩) 3 3] := by simp [tcells, HTA.out, HTC.out, HTN.out]
            have HTCc := Lib.hid htc; clear htc
            go_wp2_with (at_builtin; refine wpList_app1 elT rfl (.tmp 71) (.tmp 76) rfl w3 _ HW.out [.int .i64 t.id, .slice (some ⟨b, 0, none⟩) 3 3] rfl rfl ⟨rfl, rfl, rfl, rfl⟩ rfl (trow_one [⟨t.id, some ⟨b, 0, none⟩, 3, [nx, ny, nz]⟩]) hsz5 (by simp only [maxLen]; omega) (by omega) ?_; intro gg cap2 w9 hown2 hb2 hg2 hsz9 _; have HW2 := Lib.hid hown2; have HG2 := Lib.hid hg2; have HB2 := Lib.hid hb2; clear hown2 hg2 hb2)
            have hb3 := HB2.out
            replace HR := Lib.hid (Rd.below HR.out hb3 (by omega))
            first | replace HO := Lib.hid (Only.trans HO.out hb3) | replace HO := Lib.hid (Only.then_below HO.out (Below.mono hb3 (by omega)))
            clear hb3
            have hel : ts.length + 1 = (ts ++ [t]).length := by simp
            have hown9 := HW2.out
            rw [← HTCc.out] at hown9
            rw [hel] at hown9
            have hd9 : ∀ t', t' ∈ ts ++ [t] → DTk 3 w9 w.heap.size t' := by
              intro t' ht'
              rcases List.mem_append.1 ht' with h | h
              · exact (HD.out t' h).grown HG2.out HW.out (by decide)
              · obtain rfl := List.mem_singleton.1 h
                exact (HD.out t' (List.mem_of_getElem? HTI.out)).grown HG2.out HW.out (by decide)
            go_ret
            obtain ⟨A9, c9, he9, hT9⟩ := Tasks.of_drawn (ts := ts ++ [t]) (by rw [trow_app]; simpa [trow] using hown9) hd9
            refine ⟨A9, c9, ts ++ [t], _, by rw [← hel] at he9 ⊢; simpa using he9, hT9, hd9, (by rw [← hel]; omega), HR.out, by omega, by omega, HO.out⟩
          · have e2' : (q == 2) = false := by simpa using e2
            go_wp2_with fail
            go_ret
            obtain ⟨A9, c9, he9, hT9⟩ := Tasks.of_drawn HW.out HD.out
            refine ⟨A9, c9, ts, _, by simpa using he9, hT9, HD.out, (by have := HK.out; omega), HR.out, by omega, by omega, HO.out⟩
end Go.Proofs.Ythfhlcmgeacddaa
