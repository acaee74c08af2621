/- The generators of rooms and indexes. No condition but on sizes. -/
import Derived.Test.YtpjipofkpikipaaIh
import Derived.Test.YtpjipofkpikipaaDd
namespace Go.Proofs.Ytpjipofkpikipaa
open Go.RowKit
theorem only_of_grownR {w w' : World} {q : Nat} (h : w.grownBy w' (some q)) : Only q (q + 1) w w' :=
  ⟨h.os, h.tape, h.output, h.size, fun k hk hn => h.block k hk (by simp; omega)⟩
theorem le_leR {a b : Nat} (h : a = b) : a ≤ b ∧ b ≤ a := by omega
/-- rows that lie off block q, from lo on -/
def Off (w : World) (lo q : Nat) (r : RowV) : Prop := ∃ l h, Ints w l h r.a r.c r.xs ∧ (h ≤ q ∨ q + 1 ≤ l) ∧ lo ≤ l ∧ h ≤ w.heap.size ∧ r.xs.length ≤ 3
theorem Off.only {w w' : World} {lo q a b : Nat} {r : RowV} (h : Off w lo q r) (o : Only a b w w') (hb : b ≤ lo) : Off w' lo q r := by
  obtain ⟨l, hh, h1, h2, h3, h4, h5⟩ := h
  exact ⟨l, hh, h1.only o (.inr (by omega)) h4, h2, h3, Nat.le_trans h4 o.size, h5⟩
theorem Off.grown {w w' : World} {lo q q2 : Nat} {r : RowV} (h : Off w lo q r) (o : Only q (q + 1) w w') (hq : q2 = q ∨ w.heap.size ≤ q2) : Off w' lo q2 r := by
  obtain ⟨l, hh, h1, h2, h3, h4, h5⟩ := h
  refine ⟨l, hh, h1.only o h2 h4, ?_, h3, Nat.le_trans h4 o.size, h5⟩
  rcases hq with rfl | hq
  · exact h2
  · exact .inl (by omega)
theorem Off.below {w w' : World} {lo q : Nat} {r : RowV} (h : Off w lo q r) (o : Below w.heap.size w w') : Off w' lo q r := by
  obtain ⟨l, hh, h1, h2, h3, h4, h5⟩ := h
  exact ⟨l, hh, h1.below o h4, h2, h3, Nat.le_trans h4 o.size, h5⟩
/-- what the generator of rooms leaves -/
def DrewRs (w : World) (g p : Nat) (e : Ending) (w' : World) : Prop :=
  ∃ A c, ∃ rs : List RowV, ∃ p', e = .returned (.slice A rs.length c) ∧ Rws w' w.heap.size w'.heap.size A c rs ∧ rs.length ≤ 15 ∧ (∀ r, r ∈ rs → r.xs.length ≤ 3) ∧ Rd w' g p' ∧ p ≤ p' ∧ p' ≤ p + 200 ∧ Only g (g + 1) w w'
set_option maxHeartbeats 2000000 in
theorem l91Rooms_any (g p : Nat) (w : World) (hR : Rd w g p) (hp : p ≤ 800000) :
    Calls Try.prog 40 #[.pointer (some ⟨g, 0, none⟩)] w (DrewRs w g p) := by
  have HR := Lib.hid hR; clear hR
  have hg0 : g < w.heap.size := HR.out.lt
  go_enter Try.func40, Try.ntmps40
  go_wp2_with fail
  obtain ⟨w1, hw1⟩ : ∃ W, W = w.alloc (.cells #[] 28) := ⟨_, rfl⟩
  rw [← hw1]
  have hb1 : Below w.heap.size w w1 := by rw [hw1]; exact alloc_below w _
  have HW0 : Hid (w1.ownsRow w.heap.size 28 1 (.slice (some ⟨w.heap.size, 0, none⟩) 0 0) 0 []) := Lib.hid (by rw [hw1]; exact ownsRow_empty w 28 1)
  have hs1 := hb1.size
  replace HR := Lib.hid (HR.out.below hb1 hg0)
  have HO : Hid (Only g (g + 1) w w1) := Lib.hid (Only.of_below hb1)
  clear hb1 hw1
  refine (pick_any g p 9 w1 HR.out (by omega) (by omega)).mono ?_; rintro e w2 ⟨n0, rfl, hn0, hn1, hR, hO, hs⟩
  obtain ⟨n, rfl⟩ := Int.eq_ofNat_of_zero_le hn0
  have hn8 : n ≤ 8 := by omega
  replace HR := Lib.hid hR
  replace HW0 := Lib.hid (ownsRow_only HW0.out hO (show g + 1 ≤ w.heap.size by omega))
  replace HO := Lib.hid (HO.out.trans hO)
  clear hR hO hs hn0 hn1
  go_wp2_with fail
  refine (pick_any g (p + 1) 20 w2 HR.out (by omega) (by omega)).mono ?_; rintro e w3 ⟨x, rfl, hx0, hx1, hR, hO, hs⟩
  replace HR := Lib.hid hR
  replace HW0 := Lib.hid (ownsRow_only HW0.out hO (show g + 1 ≤ w.heap.size by omega))
  replace HO := Lib.hid (HO.out.trans hO)
  clear hR hO hs
  by_cases hx : x = 0
  · subst hx
    go_wp2_with fail
    refine (pick_any g (p + 1 + 1) 2 w3 HR.out (by omega) (by omega)).mono ?_; rintro e w4 ⟨y0, rfl, hy0, hy1, hR, hO, hs⟩
    replace HR := Lib.hid hR
    replace HW0 := Lib.hid (ownsRow_only HW0.out hO (show g + 1 ≤ w.heap.size by omega))
    replace HO := Lib.hid (HO.out.trans hO)
    clear hR hO hs
    have hyw : IntKind.i64.wrap (14 + y0) = 14 + y0 := wrap_small (by omega)
    obtain ⟨n1, hn1⟩ : ∃ n1 : Nat, 14 + y0 = n1 := ⟨(14 + y0).toNat, by omega⟩
    have hn15 : n1 ≤ 15 := by omega
    rw [hn1] at hyw
    go_wp2_with fail
    clear hyw
    go_loopw [3, 5] (fun o i wr => ∃ k p' q d : Nat, ∃ us : List RowV, k ≤ n1 ∧ i = .int .i64 k ∧ o = .slice (some ⟨q, 0, none⟩) us.length d ∧ us.length ≤ k ∧ wr.ownsRow w.heap.size 28 1 (.slice (some ⟨q, 0, none⟩) us.length d) us.length (us.map rcell) ∧
        (∀ r, r ∈ us → Off wr w.heap.size q r) ∧ Rd wr g p' ∧ p + 3 ≤ p' ∧ p' ≤ p + 3 + 8 * k ∧ Only g (g + 1) w wr) (fun _ i _ => n1 - (intOf i).toNat)
    case atStart => exact ⟨0, p + 1 + 1 + 1, w.heap.size, 0, [], by omega, rfl, rfl, by simp, HW0.out, by simp, HR.out, by omega, by omega, HO.out⟩
    case round =>
      clear HR HW0
      obtain ⟨k, p', q, d, us, hk, rfl, rfl, hul, hown, hoff, hR, hp1, hp2, hO⟩ := hrel
      have HW := Lib.hid hown; clear hown
      have HU := Lib.hid hoff; clear hoff
      have HR := Lib.hid hR; clear hR
      have HOO := Lib.hid hO
      have hsO := hO.size
      clear hO
      have hgl := HR.out.lt
      by_cases hlt : k < n1
      · have hklt : (k : Int) < (n1 : Nat) := by omega
        go_wp2_with fail
        refine (l91Vec_any g p' 12 wr HR.out (by omega) (by omega)).mono ?_; rintro e w4 ⟨A4, c4, zs, p4, rfl, hI, hz, hzb, hR4, hp3, hp4, hO4⟩
        have hs4 := hO4.size
        have HR4 := Lib.hid hR4
        have HO4 := Lib.hid (ownsRow_only HW.out hO4 (show g + 1 ≤ w.heap.size by omega))
        have HU4 : Hid (∀ r, r ∈ us → Off w4 w.heap.size q r) := Lib.hid (fun r hr => (HU.out r hr).only hO4 (by omega))
        have HOO4 := Lib.hid (HOO.out.trans hO4)
        have hql : q < wr.heap.size := (HW.out.lt q rfl).2
        have HX4 : Hid (Off w4 w.heap.size q ⟨A4, c4, zs⟩) := Lib.hid ⟨_, _, hI, .inr (by omega), by omega, Nat.le_refl _, hz⟩
        have HI4 := Lib.hid hI
        have hs4b : w.heap.size ≤ w4.heap.size := by omega
        have hmx : us.length + 1 ≤ maxLen := by simp only [maxLen]; omega
        have hmy : (us.length + 1) * 24 ≤ 140737488355328 := by omega
        have hzl : zs.length ≤ 1048576 := by omega
        clear hI hzb hR4 hO4 hz
        cases hv : vecB zs
        · have HV := Lib.hid hv; clear hv
          go_wp2_with fail
          refine (vecValidS_any A4 c4 _ _ zs w4 HI4.out hzl).mono ?_; rintro e w' ⟨rfl, rfl⟩
          rw [HV.out]
          go_wp2_with fail
          refine (pick_any g p4 6 w4 HR4.out (by omega) (by omega)).mono ?_; rintro e w5 ⟨x, rfl, hx0, hx1, hR5, hO5, hs5⟩
          obtain ⟨hs5a, hs5b⟩ := le_leR hs5
          have hs5d := hs5
          clear hs5
          replace HR4 := Lib.hid hR5
          replace HO4 := Lib.hid (ownsRow_only HO4.out hO5 (show g + 1 ≤ w.heap.size by omega))
          replace HU4 : Hid (∀ r, r ∈ us → Off w5 w.heap.size q r) := Lib.hid (fun r hr => (HU4.out r hr).only hO5 (by omega))
          replace HX4 := Lib.hid (HX4.out.only hO5 (by omega))
          replace HOO4 := Lib.hid (HOO4.out.trans hO5)
          have hs4b : w.heap.size ≤ w5.heap.size := by omega
          clear hR5 hO5 hs5d HI4
          by_cases hx : x = 0
          · subst hx
            go_wp2_with (at_builtin; refine wpList_app1 elS rfl (.tmp 30) (.tmp 32) rfl w5 _ HO4.out [.slice A4 zs.length c4] rfl rfl ⟨rfl, rfl, rfl, rfl⟩ rfl (one_sliceR _ _ _) hs4b hmx hmy ?_; intro q2 d2 w7 hown2 hb2 hg2 hsz2 hq2; have HO7 := Lib.hid hown2; have HB7 := Lib.hid hb2; have HG7 := Lib.hid (only_of_grownR (q := q) hg2); have HQ7 := Lib.hid hq2; clear hown2 hb2 hg2 hq2)
            have hs7 := HG7.out.size
            have hqq : q2 = q ∨ w5.heap.size ≤ q2 := by
              rcases HQ7.out with h | h
              · simp only [Value.ownBlock, Option.some.injEq] at h; exact .inl h.symm
              · exact .inr (by omega)
            go_roundw
            case rel =>
              refine ⟨k + 1, p4 + 1, q2, d2, us ++ [⟨A4, c4, zs⟩], by omega, by go_num, by simp, by simp; omega, by rw [List.length_append, List.map_append]; exact HO7.out, fun r hr => ?_, HR4.out.below HB7.out (by omega), by omega, by omega, HOO4.out.then_below HB7.out⟩
              rcases List.mem_append.1 hr with h | h
              · exact ((HU4.out r h).grown HG7.out hqq)
              · simp only [List.mem_singleton] at h
                subst h
                exact (HX4.out.grown HG7.out hqq)
            case measure => simp [intOf]; omega
          · have hxn : (x == 0) = false := by simpa using hx
            go_wp2_with fail
            go_roundw
            case rel => exact ⟨k + 1, p4 + 1, q, d, us, by omega, by go_num, rfl, by omega, HO4.out, HU4.out, HR4.out, by omega, by omega, HOO4.out⟩
            case measure => simp [intOf]; omega
        · have HV := Lib.hid hv; clear hv
          go_wp2_with fail
          refine (vecValidS_any A4 c4 _ _ zs w4 HI4.out hzl).mono ?_; rintro e w' ⟨rfl, rfl⟩
          rw [HV.out]
          go_wp2_with (at_builtin; refine wpList_app1 elS rfl (.tmp 30) (.tmp 32) rfl w4 _ HO4.out [.slice A4 zs.length c4] rfl rfl ⟨rfl, rfl, rfl, rfl⟩ rfl (one_sliceR _ _ _) hs4b hmx hmy ?_; intro q2 d2 w7 hown2 hb2 hg2 hsz2 hq2; have HO7 := Lib.hid hown2; have HB7 := Lib.hid hb2; have HG7 := Lib.hid (only_of_grownR (q := q) hg2); have HQ7 := Lib.hid hq2; clear hown2 hb2 hg2 hq2)
          have hs7 := HG7.out.size
          have hqq : q2 = q ∨ w4.heap.size ≤ q2 := by
            rcases HQ7.out with h | h
            · simp only [Value.ownBlock, Option.some.injEq] at h; exact .inl h.symm
            · exact .inr (by omega)
          go_roundw
          case rel =>
            refine ⟨k + 1, p4, q2, d2, us ++ [⟨A4, c4, zs⟩], by omega, by go_num, by simp, by simp; omega, by rw [List.length_append, List.map_append]; exact HO7.out, fun r hr => ?_, HR4.out.below HB7.out (by omega), by omega, by omega, HOO4.out.then_below HB7.out⟩
            rcases List.mem_append.1 hr with h | h
            · exact ((HU4.out r h).grown HG7.out hqq)
            · simp only [List.mem_singleton] at h
              subst h
              exact (HX4.out.grown HG7.out hqq)
          case measure => simp [intOf]; omega
      · have hkn : ¬ ((k : Int) < (n1 : Nat)) := by omega
        have hR9 : Rws wr w.heap.size wr.heap.size (some ⟨q, 0, none⟩) d us := by
          obtain ⟨A9, c9, he, hR⟩ := Rws.of_own (lo := w.heap.size) HW.out rfl (fun r hr => by
            obtain ⟨l, hh, h1, h2, h3, h4, h5⟩ := HU.out r hr
            exact h1.mono h3 h4) (Nat.le_refl _)
          simp only [Value.slice.injEq] at he
          obtain ⟨rfl, -, rfl⟩ := he
          exact hR
        have HR9 := Lib.hid hR9
        clear hR9
        go_wp2_with fail
        go_ret
        exact ⟨some ⟨q, 0, none⟩, d, us, p', by simp, HR9.out, by omega, fun r hr => by obtain ⟨l, hh, h1, h2, h3, h4, h5⟩ := HU.out r hr; exact h5, HR.out, by omega, by omega, HOO.out⟩
  · have hxn : (x == 0) = false := by simpa using hx
    go_wp2_with fail
    go_loopw [3, 5] (fun o i wr => ∃ k p' q d : Nat, ∃ us : List RowV, k ≤ n ∧ i = .int .i64 k ∧ o = .slice (some ⟨q, 0, none⟩) us.length d ∧ us.length ≤ k ∧ wr.ownsRow w.heap.size 28 1 (.slice (some ⟨q, 0, none⟩) us.length d) us.length (us.map rcell) ∧
        (∀ r, r ∈ us → Off wr w.heap.size q r) ∧ Rd wr g p' ∧ p + 2 ≤ p' ∧ p' ≤ p + 2 + 8 * k ∧ Only g (g + 1) w wr) (fun _ i _ => n - (intOf i).toNat)
    case atStart => exact ⟨0, p + 1 + 1, w.heap.size, 0, [], by omega, rfl, rfl, by simp, HW0.out, by simp, HR.out, by omega, by omega, HO.out⟩
    case round =>
      clear HR HW0
      obtain ⟨k, p', q, d, us, hk, rfl, rfl, hul, hown, hoff, hR, hp1, hp2, hO⟩ := hrel
      have HW := Lib.hid hown; clear hown
      have HU := Lib.hid hoff; clear hoff
      have HR := Lib.hid hR; clear hR
      have HOO := Lib.hid hO
      have hsO := hO.size
      clear hO
      have hgl := HR.out.lt
      by_cases hlt : k < n
      · have hklt : (k : Int) < (n : Nat) := by omega
        go_wp2_with fail
        refine (l91Vec_any g p' 12 wr HR.out (by omega) (by omega)).mono ?_; rintro e w4 ⟨A4, c4, zs, p4, rfl, hI, hz, hzb, hR4, hp3, hp4, hO4⟩
        have hs4 := hO4.size
        have HR4 := Lib.hid hR4
        have HO4 := Lib.hid (ownsRow_only HW.out hO4 (show g + 1 ≤ w.heap.size by omega))
        have HU4 : Hid (∀ r, r ∈ us → Off w4 w.heap.size q r) := Lib.hid (fun r hr => (HU.out r hr).only hO4 (by omega))
        have HOO4 := Lib.hid (HOO.out.trans hO4)
        have hql : q < wr.heap.size := (HW.out.lt q rfl).2
        have HX4 : Hid (Off w4 w.heap.size q ⟨A4, c4, zs⟩) := Lib.hid ⟨_, _, hI, .inr (by omega), by omega, Nat.le_refl _, hz⟩
        have HI4 := Lib.hid hI
        have hs4b : w.heap.size ≤ w4.heap.size := by omega
        have hmx : us.length + 1 ≤ maxLen := by simp only [maxLen]; omega
        have hmy : (us.length + 1) * 24 ≤ 140737488355328 := by omega
        have hzl : zs.length ≤ 1048576 := by omega
        clear hI hzb hR4 hO4 hz
        cases hv : vecB zs
        · have HV := Lib.hid hv; clear hv
          go_wp2_with fail
          refine (vecValidS_any A4 c4 _ _ zs w4 HI4.out hzl).mono ?_; rintro e w' ⟨rfl, rfl⟩
          rw [HV.out]
          go_wp2_with fail
          refine (pick_any g p4 6 w4 HR4.out (by omega) (by omega)).mono ?_; rintro e w5 ⟨x, rfl, hx0, hx1, hR5, hO5, hs5⟩
          obtain ⟨hs5a, hs5b⟩ := le_leR hs5
          have hs5d := hs5
          clear hs5
          replace HR4 := Lib.hid hR5
          replace HO4 := Lib.hid (ownsRow_only HO4.out hO5 (show g + 1 ≤ w.heap.size by omega))
          replace HU4 : Hid (∀ r, r ∈ us → Off w5 w.heap.size q r) := Lib.hid (fun r hr => (HU4.out r hr).only hO5 (by omega))
          replace HX4 := Lib.hid (HX4.out.only hO5 (by omega))
          replace HOO4 := Lib.hid (HOO4.out.trans hO5)
          have hs4b : w.heap.size ≤ w5.heap.size := by omega
          clear hR5 hO5 hs5d HI4
          by_cases hx : x = 0
          · subst hx
            go_wp2_with (at_builtin; refine wpList_app1 elS rfl (.tmp 30) (.tmp 32) rfl w5 _ HO4.out [.slice A4 zs.length c4] rfl rfl ⟨rfl, rfl, rfl, rfl⟩ rfl (one_sliceR _ _ _) hs4b hmx hmy ?_; intro q2 d2 w7 hown2 hb2 hg2 hsz2 hq2; have HO7 := Lib.hid hown2; have HB7 := Lib.hid hb2; have HG7 := Lib.hid (only_of_grownR (q := q) hg2); have HQ7 := Lib.hid hq2; clear hown2 hb2 hg2 hq2)
            have hs7 := HG7.out.size
            have hqq : q2 = q ∨ w5.heap.size ≤ q2 := by
              rcases HQ7.out with h | h
              · simp only [Value.ownBlock, Option.some.injEq] at h; exact .inl h.symm
              · exact .inr (by omega)
            go_roundw
            case rel =>
              refine ⟨k + 1, p4 + 1, q2, d2, us ++ [⟨A4, c4, zs⟩], by omega, by go_num, by simp, by simp; omega, by rw [List.length_append, List.map_append]; exact HO7.out, fun r hr => ?_, HR4.out.below HB7.out (by omega), by omega, by omega, HOO4.out.then_below HB7.out⟩
              rcases List.mem_append.1 hr with h | h
              · exact ((HU4.out r h).grown HG7.out hqq)
              · simp only [List.mem_singleton] at h
                subst h
                exact (HX4.out.grown HG7.out hqq)
            case measure => simp [intOf]; omega
          · have hxn : (x == 0) = false := by simpa using hx
            go_wp2_with fail
            go_roundw
            case rel => exact ⟨k + 1, p4 + 1, q, d, us, by omega, by go_num, rfl, by omega, HO4.out, HU4.out, HR4.out, by omega, by omega, HOO4.out⟩
            case measure => simp [intOf]; omega
        · have HV := Lib.hid hv; clear hv
          go_wp2_with fail
          refine (vecValidS_any A4 c4 _ _ zs w4 HI4.out hzl).mono ?_; rintro e w' ⟨rfl, rfl⟩
          rw [HV.out]
          go_wp2_with (at_builtin; refine wpList_app1 elS rfl (.tmp 30) (.tmp 32) rfl w4 _ HO4.out [.slice A4 zs.length c4] rfl rfl ⟨rfl, rfl, rfl, rfl⟩ rfl (one_sliceR _ _ _) hs4b hmx hmy ?_; intro q2 d2 w7 hown2 hb2 hg2 hsz2 hq2; have HO7 := Lib.hid hown2; have HB7 := Lib.hid hb2; have HG7 := Lib.hid (only_of_grownR (q := q) hg2); have HQ7 := Lib.hid hq2; clear hown2 hb2 hg2 hq2)
          have hs7 := HG7.out.size
          have hqq : q2 = q ∨ w4.heap.size ≤ q2 := by
            rcases HQ7.out with h | h
            · simp only [Value.ownBlock, Option.some.injEq] at h; exact .inl h.symm
            · exact .inr (by omega)
          go_roundw
          case rel =>
            refine ⟨k + 1, p4, q2, d2, us ++ [⟨A4, c4, zs⟩], by omega, by go_num, by simp, by simp; omega, by rw [List.length_append, List.map_append]; exact HO7.out, fun r hr => ?_, HR4.out.below HB7.out (by omega), by omega, by omega, HOO4.out.then_below HB7.out⟩
            rcases List.mem_append.1 hr with h | h
            · exact ((HU4.out r h).grown HG7.out hqq)
            · simp only [List.mem_singleton] at h
              subst h
              exact (HX4.out.grown HG7.out hqq)
          case measure => simp [intOf]; omega
      · have hkn : ¬ ((k : Int) < (n : Nat)) := by omega
        have hR9 : Rws wr w.heap.size wr.heap.size (some ⟨q, 0, none⟩) d us := by
          obtain ⟨A9, c9, he, hR⟩ := Rws.of_own (lo := w.heap.size) HW.out rfl (fun r hr => by
            obtain ⟨l, hh, h1, h2, h3, h4, h5⟩ := HU.out r hr
            exact h1.mono h3 h4) (Nat.le_refl _)
          simp only [Value.slice.injEq] at he
          obtain ⟨rfl, -, rfl⟩ := he
          exact hR
        have HR9 := Lib.hid hR9
        clear hR9
        go_wp2_with fail
        go_ret
        exact ⟨some ⟨q, 0, none⟩, d, us, p', by simp, HR9.out, by omega, fun r hr => by obtain ⟨l, hh, h1, h2, h3, h4, h5⟩ := HU.out r hr; exact h5, HR.out, by omega, by omega, HOO.out⟩
theorem Tab.onlyT {w w' : World} {T n lo hi : Nat} {e : TypeId} {us : List RowV} (h : Tab w T n e us) (a : Only lo hi w w') (hd : hi ≤ T) : Tab w' T n e us :=
  ⟨ownsRow_only h.own a hd, h.len, fun r hr => ((h.ints r hr).only a (.inr (by omega)) (Nat.le_refl _)).mono (Nat.le_refl _) a.size, h.sep, Nat.lt_of_lt_of_le h.lt a.size⟩
/-- a new row is stored, after a call that changed blocks below the table alone -/
theorem Tab.setO {w0 w : World} {T n k lo hi : Nat} {e : TypeId} {us : List RowV} {A : Option Addr} {c : Nat} {xs : List Int} (h : Tab w0 T n e us) (a : Only lo hi w0 w) (hd : hi ≤ T) (ht : Ints w w0.heap.size w.heap.size A c xs) :
    Tab (w.setCell ⟨T, k, none⟩ (.slice A xs.length c)) T n e (us.set k ⟨A, c, xs⟩) := by
  have h1 := h.onlyT a hd
  have hs : (w.setCell ⟨T, k, none⟩ (.slice A xs.length c)).heap.size = w.heap.size := by simp [World.setCell]
  have ho : Only T (T + 1) w (w.setCell ⟨T, k, none⟩ (.slice A xs.length c)) := (Only.refl _ _ _).setCell (p := ⟨T, k, none⟩) (Nat.le_refl _) (by simp) _
  refine ⟨?_, by rw [List.length_set]; exact h.len, fun r hr => ?_, h.sep.set_ k fun u hu => apart_new (h.ints u hu) (t := ⟨A, c, xs⟩) ht, by rw [hs]; exact h1.lt⟩
  · rw [List.map_set]; exact (h1.own.stored k (rcell ⟨A, c, xs⟩)).1
  · rw [hs]
    rcases List.mem_or_eq_of_mem_set hr with h2 | rfl
    · exact (h1.ints r h2).only ho (.inr (Nat.le_refl _)) (Nat.le_refl _)
    · exact (ht.mono (show T + 1 ≤ w0.heap.size from h.lt) (Nat.le_refl _)).only ho (.inr (Nat.le_refl _)) (Nat.le_refl _)
theorem tabL_short {rs : List (List Int)} (hl : rs.length = 16) (h : ∀ r, r ∈ rs → vecB r = true) : ∀ r, r ∈ tabL rs → r.length ≤ 3 := fun r hr => by
  have h3 := tab_vec hl h
  rw [List.all_eq_true] at h3
  rw [vec_len (h3 r hr)]; omega
theorem idxOf_short (rs : List (List Int)) : ∀ r, r ∈ idxOf rs → r.length ≤ 3 := by
  intro r hr
  by_cases h : (idxOf rs).length ≠ 0
  · obtain ⟨e, hv, hl, hp⟩ := idxOf_form h
    rw [e] at hr
    exact tabL_short hp (padL_vec hv) r hr
  · have : idxOf rs = [] := List.eq_nil_of_length_eq_zero (by omega)
    rw [this] at hr; cases hr
/-- what the generator of an index leaves -/
def DrewIx (w : World) (g p : Nat) (e : Ending) (w' : World) : Prop :=
  ∃ A c, ∃ us : List RowV, ∃ p', e = .returned (.slice A us.length c) ∧ Rws w' w.heap.size w'.heap.size A c us ∧ us.length ≤ 32 ∧ (∀ r, r ∈ us → r.xs.length ≤ 3) ∧ Rd w' g p' ∧ p ≤ p' ∧ p' ≤ p + 300 ∧ Only g (g + 1) w w'
theorem l91Index_any (g p : Nat) (w : World) (hR : Rd w g p) (hp : p ≤ 700000) :
    Calls Try.prog 57 #[.pointer (some ⟨g, 0, none⟩)] w (DrewIx w g p) := by
  have HR := Lib.hid hR; clear hR
  have hg0 : g < w.heap.size := HR.out.lt
  go_enter Try.func57, Try.ntmps57
  go_wp2_with fail
  refine (l91Rooms_any g p w HR.out (by omega)).mono ?_; rintro e w1 ⟨A, c, rs, p1, rfl, hI, hl, hn, hR, hp1, hp2, hO⟩
  have hs1 := hO.size
  replace HR := Lib.hid hR
  have HO := Lib.hid hO
  have HI := Lib.hid hI
  have hn2 : ∀ r, r ∈ rs → r.xs.length ≤ 1048576 := fun r hr => by have := hn r hr; omega
  have HN := Lib.hid hn2
  have hg1 := hR.lt
  clear hR hO hI hn hn2
  go_wp2_with fail
  have h7 := indexOfS_any A c _ _ rs w1 HI.out (by omega) HN.out (Nat.le_refl _)
  obtain ⟨xs, hxs⟩ : ∃ xs, idxOf (rs.map RowV.xs) = xs := ⟨_, rfl⟩
  have hsh := idxOf_short (rs.map RowV.xs)
  rw [hxs] at h7 hsh
  have HSH := Lib.hid hsh
  clear hsh hxs
  refine h7.mono ?_; rintro e w2 (⟨rfl, A2, c2, rfl, hc2, hb⟩ | ⟨T, P, rfl, rfl, hT, ⟨us, hus, ht⟩, hb⟩)
  · replace HR := Lib.hid (HR.out.below hb hg1)
    have hs2 := hb.size
    replace HO := Lib.hid (HO.out.then_below (hb.mono hs1))
    clear hb h7
    go_wp2_with fail
    go_ret
    exact ⟨A2, c2, [], p1, by simp, Rws.zero _ _ _ _ _ hc2, by simp, by simp, HR.out, by omega, by omega, HO.out⟩
  · replace HR := Lib.hid (HR.out.below hb hg1)
    have hs2 := hb.size
    replace HO := Lib.hid (HO.out.then_below (hb.mono hs1))
    have HT := Lib.hid ht
    have hul : us.length = 32 := ht.len
    have HUL := Lib.hid hul
    have hsu : ∀ r, r ∈ us → r.xs.length ≤ 3 := fun r hr => HSH.out r.xs (by rw [← hus]; exact List.mem_map.2 ⟨r, hr, rfl⟩)
    have HSU := Lib.hid hsu
    have hTg : g + 1 ≤ T := by omega
    clear hb h7 ht hus hul hsu
    go_wp2_with fail
    refine (pick_any g p1 16 w2 HR.out (by omega) (by omega)).mono ?_; rintro e w3 ⟨x, rfl, hx0, hx1, hR, hO, hs⟩
    replace HR := Lib.hid hR
    replace HT := Lib.hid (HT.out.onlyT hO hTg)
    replace HO := Lib.hid (HO.out.trans hO)
    obtain ⟨hs3, hs3b⟩ := le_leR hs
    clear hR hO hs
    by_cases hx : x = 0
    · subst hx
      go_wp2_with fail
      refine (pick_any g (p1 + 1) 32 w3 HR.out (by omega) (by omega)).mono ?_; rintro e w4 ⟨j0, rfl, hj0, hj1, hR, hO, hs⟩
      obtain ⟨j, rfl⟩ := Int.eq_ofNat_of_zero_le hj0
      have hj32 : j < 32 := by omega
      replace HR := Lib.hid hR
      replace HT := Lib.hid (HT.out.onlyT hO hTg)
      replace HO := Lib.hid (HO.out.trans hO)
      obtain ⟨hs4, hs4b⟩ := le_leR hs
      clear hR hO hs
      go_wp2_with fail
      refine (l91Vec_any g (p1 + 1 + 1) 12 w4 HR.out (by omega) (by omega)).mono ?_; rintro e w5 ⟨A5, c5, zs, p5, rfl, hI, hz, hzb, hR5, hp3, hp4, hO5⟩
      have hTS := HT.out.setO (k := j) hO5 hTg hI
      have hT5 := HT.out.onlyT hO5 hTg
      obtain ⟨r9, _, hd9, hf9, _⟩ := hT5.at_ hj32
      have hs5 := hO5.size
      replace HR := Lib.hid hR5
      have HTS := Lib.hid hTS
      replace HO := Lib.hid (HO.out.trans hO5)
      clear hI hzb hR5 hO5 hTS hT5
      go_wp2_with fail
      obtain ⟨w6, hw6⟩ : ∃ W, W = w5.setCell ⟨T, j, none⟩ (.slice A5 zs.length c5) := ⟨_, rfl⟩
      have hTS := HTS.out
      rw [← hw6] at hTS ⊢
      have hb6 : Below T w5 w6 := by rw [hw6]; exact (Below.refl _ _).setCell (p := ⟨T, j, none⟩) (Nat.le_refl _) _
      have hs6 := hb6.size
      replace HR := Lib.hid (HR.out.below hb6 (by omega))
      replace HO : Hid (Only g (g + 1) w w6) := Lib.hid (HO.out.then_below (hb6.mono (by omega)))
      have HRW := Lib.hid (hTS.rws.mono (lo' := w.heap.size) (by omega) (Nat.le_refl _))
      have HLL : Hid ((us.set j ⟨A5, c5, zs⟩).length = 32) := Lib.hid (by rw [List.length_set, HUL.out])
      clear hTS hw6 hb6 HTS hd9 hf9
      go_wp2_with fail
      go_ret
      refine ⟨some ⟨T, 0, none⟩, 32, us.set j ⟨A5, c5, zs⟩, p5, by simp [HUL.out], HRW.out, by rw [HLL.out]; omega, fun r hr => ?_, HR.out, by omega, by omega, HO.out⟩
      rcases List.mem_or_eq_of_mem_set hr with h | rfl
      · exact HSU.out r h
      · exact hz
    · have hxn : (x == 0) = false := by simpa using hx
      have HRW := Lib.hid (HT.out.rws.mono (lo' := w.heap.size) (by omega) (Nat.le_refl _))
      go_wp2_with fail
      go_ret
      exact ⟨some ⟨T, 0, none⟩, 32, us, p1 + 1, by simp [HUL.out], HRW.out, by rw [HUL.out]; omega, HSU.out, HR.out, by omega, by omega, HO.out⟩
/-- rooms, or an index, in new memory -/
def GenX (w : World) (e : Ending) (w' : World) : Prop :=
  ∃ A c, ∃ us : List RowV, e = .returned (.slice A us.length c) ∧ Rws w' w.heap.size w'.heap.size A c us ∧ us.length ≤ 32 ∧ (∀ r, r ∈ us → r.xs.length ≤ 3) ∧ Below w.heap.size w w'
/-- an index and a need -/
def GenXI (w : World) (e : Ending) (w' : World) : Prop :=
  ∃ A c, ∃ us : List RowV, ∃ B d, ∃ ys : List Int, e = .returned (.tuple #[.slice A us.length c, .slice B ys.length d]) ∧ Rws w' w.heap.size w'.heap.size A c us ∧ us.length ≤ 32 ∧ (∀ r, r ∈ us → r.xs.length ≤ 3) ∧
    Ints w' w.heap.size w'.heap.size B d ys ∧ ys.length ≤ 3 ∧ (∀ z, z ∈ ys → -1 ≤ z ∧ z ≤ 100) ∧ Below w.heap.size w w'
/-- an index, a place and a room -/
def GenXP (w : World) (e : Ending) (w' : World) : Prop :=
  ∃ A c, ∃ us : List RowV, ∃ i : Int, ∃ B d, ∃ ys : List Int, e = .returned (.tuple #[.slice A us.length c, .int .i64 i, .slice B ys.length d]) ∧ Rws w' w.heap.size w'.heap.size A c us ∧ us.length ≤ 32 ∧ (∀ r, r ∈ us → r.xs.length ≤ 3) ∧
    (-1 ≤ i ∧ i ≤ 100) ∧ Ints w' w.heap.size w'.heap.size B d ys ∧ ys.length ≤ 3 ∧ (∀ z, z ∈ ys → -1 ≤ z ∧ z ≤ 100) ∧ Below w.heap.size w w'
theorem DrawIndexOf_any (A : Option Addr) (n c : Nat) (w : World) (hA : BytesR w w.heap.size A n) (hc : n ≤ c) (hm : c ≤ maxLen) :
    Calls Try.prog 16 #[.slice A n c] w (GenX w) := by
  have HA := Lib.hid hA; clear hA
  go_enter Try.func16, Try.ntmps16
  go_wp2_with fail
  refine (l6Open_any A n c w HA.out hc hm).mono ?_; rintro e w1 ⟨g, rfl, hg, hR, hb⟩
  have HG := Lib.hid hR.lt
  have HR := Lib.hid hR; clear hR
  have HB := Lib.hid hb
  have hs1 := hb.size
  clear hb
  go_wp2_with fail
  refine (l91Rooms_any g 0 w1 HR.out (by omega)).mono ?_; rintro e w2 ⟨A2, c2, us, p2, rfl, hI, hl, hn, hR, hp1, hp2, hO⟩
  replace HB := Lib.hid (HB.out.trans (hO.below hg hs1))
  have HI := Lib.hid (hI.mono (lo' := w.heap.size) hs1 (Nat.le_refl _))
  have HN := Lib.hid hn
  clear hO hI hn hR
  go_wp2_with fail
  go_ret
  exact ⟨A2, c2, us, by simp, HI.out, by omega, HN.out, HB.out⟩
theorem DrawIndexValid_any (A : Option Addr) (n c : Nat) (w : World) (hA : BytesR w w.heap.size A n) (hc : n ≤ c) (hm : c ≤ maxLen) :
    Calls Try.prog 29 #[.slice A n c] w (GenX w) := by
  have HA := Lib.hid hA; clear hA
  go_enter Try.func29, Try.ntmps29
  go_wp2_with fail
  refine (l6Open_any A n c w HA.out hc hm).mono ?_; rintro e w1 ⟨g, rfl, hg, hR, hb⟩
  have HG := Lib.hid hR.lt
  have HR := Lib.hid hR; clear hR
  have HB := Lib.hid hb
  have hs1 := hb.size
  clear hb
  go_wp2_with fail
  refine (l91Index_any g 0 w1 HR.out (by omega)).mono ?_; rintro e w2 ⟨A2, c2, us, p2, rfl, hI, hl, hn, hR, hp1, hp2, hO⟩
  have hs2 := hO.size
  replace HR := Lib.hid hR
  have hg2 := hR.lt
  replace HB := Lib.hid (HB.out.trans (hO.below hg hs1))
  have HI := Lib.hid hI
  have hg1 := HG.out
  have HN := Lib.hid hn
  clear hO hI hn hR
  go_wp2_with fail
  go_ret
  exact ⟨A2, c2, us, by simp, HI.out.mono hs1 (Nat.le_refl _), hl, HN.out, HB.out⟩
theorem DrawIndexFirst_any (A : Option Addr) (n c : Nat) (w : World) (hA : BytesR w w.heap.size A n) (hc : n ≤ c) (hm : c ≤ maxLen) :
    Calls Try.prog 34 #[.slice A n c] w (GenXI w) := by
  have HA := Lib.hid hA; clear hA
  go_enter Try.func34, Try.ntmps34
  go_wp2_with fail
  refine (l6Open_any A n c w HA.out hc hm).mono ?_; rintro e w1 ⟨g, rfl, hg, hR, hb⟩
  have HG := Lib.hid hR.lt
  have HR := Lib.hid hR; clear hR
  have HB := Lib.hid hb
  have hs1 := hb.size
  clear hb
  go_wp2_with fail
  refine (l91Index_any g 0 w1 HR.out (by omega)).mono ?_; rintro e w2 ⟨A2, c2, us, p2, rfl, hI, hl, hn, hR, hp1, hp2, hO⟩
  have hs2 := hO.size
  replace HR := Lib.hid hR
  have hg2 := hR.lt
  replace HB := Lib.hid (HB.out.trans (hO.below hg hs1))
  have HI := Lib.hid hI
  have hg1 := HG.out
  have HN := Lib.hid hn
  clear hO hI hn hR
  have hgw : g + 1 ≤ w2.heap.size := hg2
  have hgs : w.heap.size ≤ w2.heap.size := by omega
  go_wp2_with fail
  refine (l91Vec_any g p2 9 w2 HR.out (by omega) (by omega)).mono ?_; rintro e w3 ⟨B, d, ys, p9, rfl, hI, hz, hzb, hR, hp3, hp4, hO⟩
  have hs9 := hO.size
  replace HB := Lib.hid (HB.out.trans (hO.below hg (by omega)))
  replace HI := Lib.hid ((HI.out.only hO (.inr (by omega)) (by omega)).mono (Nat.le_refl _) hs9)
  have HZ := Lib.hid hzb
  have HY := Lib.hid (hI.mono (lo' := w.heap.size) (by omega) (Nat.le_refl _))
  clear hI hzb hR hO
  go_wp2_with fail
  go_ret2
  exact ⟨A2, c2, us, B, d, ys, by simp, HI.out.mono hs1 (Nat.le_refl _), hl, HN.out, HY.out, hz, HZ.out, HB.out⟩
theorem DrawIndexPut_any (A : Option Addr) (n c : Nat) (w : World) (hA : BytesR w w.heap.size A n) (hc : n ≤ c) (hm : c ≤ maxLen) :
    Calls Try.prog 39 #[.slice A n c] w (GenXP w) := by
  have HA := Lib.hid hA; clear hA
  go_enter Try.func39, Try.ntmps39
  go_wp2_with fail
  refine (l6Open_any A n c w HA.out hc hm).mono ?_; rintro e w1 ⟨g, rfl, hg, hR, hb⟩
  have HG := Lib.hid hR.lt
  have HR := Lib.hid hR; clear hR
  have HB := Lib.hid hb
  have hs1 := hb.size
  clear hb
  go_wp2_with fail
  refine (l91Index_any g 0 w1 HR.out (by omega)).mono ?_; rintro e w2 ⟨A2, c2, us, p2, rfl, hI, hl, hn, hR, hp1, hp2, hO⟩
  have hs2 := hO.size
  replace HR := Lib.hid hR
  have hg2 := hR.lt
  replace HB := Lib.hid (HB.out.trans (hO.below hg hs1))
  have HI := Lib.hid hI
  have hg1 := HG.out
  have HN := Lib.hid hn
  clear hO hI hn hR
  go_wp2_with fail
  refine (pick_any g p2 16 w2 HR.out (by omega) (by omega)).mono ?_; rintro e w3 ⟨x, rfl, x0, x1, hR, hO, hs⟩
  replace HR := Lib.hid hR
  replace HB := Lib.hid (HB.out.trans (hO.below hg (by omega)))
  have hsw3 := hO.size
  replace HI := Lib.hid ((HI.out.only hO (.inr (by omega)) (by omega)).mono (Nat.le_refl _) hsw3)
  clear hO hs hR
  go_wp2_with fail
  refine (pick_any g (p2 + 1) 20 w3 HR.out (by omega) (by omega)).mono ?_; rintro e w4 ⟨y, rfl, y0, y1, hR, hO, hs⟩
  replace HR := Lib.hid hR
  replace HB := Lib.hid (HB.out.trans (hO.below hg (by omega)))
  have hsw4 := hO.size
  replace HI := Lib.hid ((HI.out.only hO (.inr (by omega)) (by omega)).mono (Nat.le_refl _) hsw4)
  clear hO hs hR
  by_cases hy : y = 0
  · subst hy
    have hb5 : Below w4.heap.size w4 (w4.alloc (.cells #[.int .i64 (-1), .int .i64 15, .int .i64 16] 3)) := alloc_below w4 _
    have HB5 := Lib.hid hb5
    have HR5 := Lib.hid (HR.out.below hb5 (by omega))
    have hg5 : g < w4.heap.size := by omega
    have HI5 := Lib.hid (HI.out.below hb5 (Nat.le_refl _))
    have hs5 := hb5.size
    clear hb5
    go_wp2_with fail
    refine (pick_any g (p2 + 1 + 1) 3 _ HR5.out (by omega) (by omega)).mono ?_; rintro e w6 ⟨z, rfl, hz0, hz1, hR, hO, hs⟩
    obtain ⟨j, rfl⟩ := Int.eq_ofNat_of_zero_le hz0
    have hj3 : j < 3 := by omega
    have hj3i : (j : Int) < 3 := by omega
    obtain ⟨l, hcl, hl2⟩ := lit3 hO hg5 (i := j) hj3
    have hlb : -1 ≤ l ∧ l ≤ 100 := by omega
    replace HR := Lib.hid hR
    have hs6 := hO.size
    replace HI := Lib.hid ((HI5.out.only hO (.inr (by omega)) (by omega)).mono (Nat.le_refl _) (show w4.heap.size ≤ w6.heap.size by omega))
    replace HB := Lib.hid (HB.out.trans ((HB5.out.mono (show w.heap.size ≤ w4.heap.size by omega)).trans (hO.below hg (by omega))))
    clear hR hO hs hl2 HR5 HI5 HB5
    go_wp2_with fail
    refine (l91Vec_any g (p2 + 1 + 1 + 1) 12 w6 HR.out (by omega) (by omega)).mono ?_; rintro e w7 ⟨B, d, ys, p9, rfl, hI, hz, hzb, hR, hp3, hp4, hO⟩
    have hs9 := hO.size
    replace HB := Lib.hid (HB.out.trans (hO.below hg (by omega)))
    replace HI := Lib.hid ((HI.out.only hO (.inr (by omega)) (by omega)).mono (Nat.le_refl _) hs9)
    have HZ := Lib.hid hzb
    have HY := Lib.hid (hI.mono (lo' := w.heap.size) (by omega) (Nat.le_refl _))
    clear hI hzb hR hO
    go_wp2_with fail
    go_ret3
    exact ⟨A2, c2, us, l, B, d, ys, by simp, HI.out.mono hs1 (Nat.le_refl _), hl, HN.out, hlb, HY.out, hz, HZ.out, HB.out⟩
  · have hyn : (y == 0) = false := by simpa using hy
    have hxb : -1 ≤ x ∧ x ≤ 100 := by omega
    go_wp2_with fail
    refine (l91Vec_any g (p2 + 1 + 1) 12 w4 HR.out (by omega) (by omega)).mono ?_; rintro e w7 ⟨B, d, ys, p9, rfl, hI, hz, hzb, hR, hp3, hp4, hO⟩
    have hs9 := hO.size
    replace HB := Lib.hid (HB.out.trans (hO.below hg (by omega)))
    replace HI := Lib.hid ((HI.out.only hO (.inr (by omega)) (by omega)).mono (Nat.le_refl _) hs9)
    have HZ := Lib.hid hzb
    have HY := Lib.hid (hI.mono (lo' := w.heap.size) (by omega) (Nat.le_refl _))
    clear hI hzb hR hO
    go_wp2_with fail
    go_ret3
    exact ⟨A2, c2, us, x, B, d, ys, by simp, HI.out.mono hs1 (Nat.le_refl _), hl, HN.out, hxb, HY.out, hz, HZ.out, HB.out⟩
end Go.Proofs.Ytpjipofkpikipaa
