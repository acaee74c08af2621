/- l21Copy. No condition but on sizes. -/
import Derived.Test.YtcmampicgdobcaaDa
import Derived.Test.YtcmampicgdobcaaRg
namespace Go.Proofs.Ytcmampicgdobcaa
open Go.RowKit
/-- an own cluster in new memory: the room and units of the given data -/
def RetO (w : World) (room : List Int) (upv : List (Bool × List (Int × List Int))) (e : Ending) (w' : World) : Prop :=
  ∃ A c q d, ∃ us : List UniV, e = .returned (.agg #[.slice A room.length c, .slice (some ⟨q, 0, none⟩) us.length d]) ∧ IntsE 3 w' w.heap.size w'.heap.size A c room ∧ OwnU w' w.heap.size (some ⟨q, 0, none⟩) d us ∧ us.map (fun u => (u.op, u.ts.map pv)) = upv ∧ Below w.heap.size w w'
set_option linter.unusedSimpArgs false in
set_option maxHeartbeats 2000000 in
theorem l21Copy_any (A B : Option Addr) (c d l1 h1 lo hi : Nat) (room : List Int) (us : List UniV) (w : World) (hA : Ints w l1 h1 A c room) (hr : room.length ≤ 1000) (hU : UniT w lo hi B d us) (hl : us.length ≤ 100) (hf : ∀ u, u ∈ us → u.ts.length ≤ 1000) (hg : ∀ u, u ∈ us → ∀ t, t ∈ u.ts → t.need.length ≤ 1000)
    (g1 : h1 ≤ w.heap.size) (g2 : hi ≤ w.heap.size) :
    Calls Try.prog 53 #[.agg #[.slice A room.length c, .slice B us.length d]] w (RetO w room (us.map fun u => (u.op, u.ts.map pv))) := by
  obtain ⟨wx, hwx⟩ : ∃ W, W = w.alloc (.cells #[.slice A room.length c, .slice B us.length d] 28) := ⟨_, rfl⟩
  obtain ⟨w0, hw0⟩ : ∃ W, W = wx.alloc (.cells #[.slice none 0 0, .slice none 0 0] 28) := ⟨_, rfl⟩
  have HWX := Lib.hid hwx
  have HW0 := Lib.hid hw0
  have hbx : Below w.heap.size w wx := by rw [hwx]; exact alloc_belowC w _
  have hb0 : Below wx.heap.size wx w0 := by rw [hw0]; exact alloc_belowC wx _
  have hsx : wx.heap.size = w.heap.size + 1 := by rw [hwx]; simp
  have hs0 : w0.heap.size = w.heap.size + 1 + 1 := by rw [hw0]; simp [hsx]
  have hX0 : Blk wx w.heap.size 28 [.slice A room.length c, .slice B us.length d] := by rw [hwx]; exact Blk.new w _ [.slice A room.length c, .slice B us.length d]
  have HX := Lib.hid (hX0.step hb0)
  have hZ0 : Blk w0 wx.heap.size 28 [.slice none 0 0, .slice none 0 0] := by rw [hw0]; exact Blk.new wx _ [.slice none 0 0, .slice none 0 0]
  rw [hsx] at hZ0
  have HZ := Lib.hid hZ0
  have hb01 : Below w.heap.size w w0 := hbx.trans (hb0.mono (by omega))
  have HB := Lib.hid hb01
  have HI := Lib.hid (hA.below hb01 g1)
  have HU := Lib.hid (hU.below hb01 g2)
  have hx0 := HX.out.cell (i := 0) rfl
  have hx1 := HX.out.cell (i := 1) rfl
  have HE1 : Hid ((w0.alloc (.cells #[] 3)).ownsRow w0.heap.size 3 1 (.slice (some ⟨w.heap.size + 1 + 1, 0, none⟩) 0 0) 0 []) := Lib.hid (by have h := ownsRow_empty w0 3 1; rw [show (⟨w0.heap.size, 0, none⟩ : Addr) = ⟨w.heap.size + 1 + 1, 0, none⟩ by rw [hs0]] at h; exact h)
  have HBE := Lib.hid (alloc_belowC w0 (.cells #[] 3))
  have HIr := Lib.hid ((HI.out.below HBE.out (by omega)).r)
  have hs9 : w0.heap.size ≤ (w0.alloc (.cells #[] 3)).heap.size := by simp
  have HG := Lib.hid hg
  have HSX := Lib.hid hsx
  have HS0 := Lib.hid hs0
  clear hwx hw0 hbx hb0 hsx hX0 hZ0 hb01 hA hU hg hs0
  go_enter Try.func53, Try.ntmps53
  go_wp2_with (at_builtin; rw [← HWX.out, ← HW0.out]; refine wpList_appI elI rfl (.tmp 5) (.tmp 7) rfl _ HE1.out A room.length c room rfl rfl rfl HIr.out hs9 (by omega) ?_; intro A2 c2 w2 hown hb2 _; have HO := Lib.hid hown; have HB2 := Lib.hid (HBE.out.trans hb2); clear hown hb2)
  have hn : 0 + room.length = room.length := by omega
  obtain ⟨A3, c3, he, _, hI3⟩ := IntsE.of_own (e := 3) (ys := room) (by have := HO.out; rw [hn, List.nil_append] at this; exact this)
  simp only [Value.slice.injEq, true_and] at he
  obtain ⟨rfl, rfl⟩ := he
  have hs2 := HB2.out.size
  obtain ⟨w3, hw3⟩ : ∃ W, W = (w2.alloc (.cells #[] 48)).alloc (.cells #[.slice A2 room.length c2, .slice (some ⟨w2.heap.size, 0, none⟩) 0 0] 28) := ⟨_, rfl⟩
  rw [← hw3]
  have hb3 : Below w2.heap.size w2 w3 := by rw [hw3]; exact ((Below.refl _ _).alloc (Nat.le_refl _) _).alloc (by simp) _
  have hQ3 : Blk w3 (w2.heap.size + 1) 28 [.slice A2 room.length c2, .slice (some ⟨w2.heap.size, 0, none⟩) 0 0] := by
    rw [hw3]
    have := Blk.new (w2.alloc (.cells #[] 48)) 28 [.slice A2 room.length c2, .slice (some ⟨w2.heap.size, 0, none⟩) 0 0]
    simpa using this
  have hU3 : w3.ownsRow w2.heap.size 48 2 (.slice (some ⟨w2.heap.size, 0, none⟩) 0 0) 0 [] := by
    rw [hw3]; exact ownsRow_below (ownsRow_empty w2 48 2) (alloc_belowC _ _)
  have hs3 : w2.heap.size + 2 ≤ w3.heap.size := by rw [hw3]; simp
  have HI3 := Lib.hid (hI3.below hb3 (Nat.le_refl _))
  have HX3 := Lib.hid ((HX.out.below HB2.out (by have := HS0.out; omega)).below hb3 (by have := HS0.out; omega))
  have HZ3 := Lib.hid ((HZ.out.below HB2.out (by have := HS0.out; omega)).below hb3 (by have := HS0.out; omega))
  have HB3 := Lib.hid ((HB.out.trans (HB2.out.mono (by have := HS0.out; omega))).trans (hb3.mono (by have := HS0.out; omega)))
  have HU3 := Lib.hid ((HU.out.below HB2.out (by have := HS0.out; omega)).below hb3 (by have := HS0.out; omega))
  have HQ3 := Lib.hid hQ3
  have HW3 := Lib.hid hU3
  clear hI3 hb3 hw3 hQ3 hU3 HO HB2 HIr HBE HE1 hs9 hn
  have hsz0 : w.heap.size + 2 ≤ w2.heap.size := by have := HS0.out; omega
  go_loopw [4] (fun i wr => ∃ k q d : Nat, ∃ vs : List UniV, k ≤ us.length ∧ i = .int .i64 k ∧ vs.map (fun u => (u.op, u.ts.map pv)) = (us.take k).map (fun u => (u.op, u.ts.map pv)) ∧ Blk wr (w2.heap.size + 1) 28 [.slice A2 room.length c2, .slice (some ⟨q, 0, none⟩) vs.length d] ∧
      OwnU wr w2.heap.size (some ⟨q, 0, none⟩) d vs ∧ Below w2.heap.size w3 wr) (fun i _ => us.length - (intOf i).toNat)
  case atStart => exact ⟨0, w2.heap.size, 0, [], by omega, rfl, by simp, HQ3.out, ⟨HW3.out, by simp, fun i j x y _ hx => by simp at hx⟩, Below.refl _ _⟩
  case round =>
    obtain ⟨k, q, d', vs, hk, rfl, hpv, hQ, hO, hb⟩ := hrel
    have HPV := Lib.hid hpv
    have HQ := Lib.hid hQ
    have HO := Lib.hid hO
    have HBr := Lib.hid hb
    have hsr := hb.size
    clear hpv hQ hO hb
    by_cases hlt : k < us.length
    · have hklt : (k : Int) < us.length := by omega
      obtain ⟨b1, off1, u, rfl, hu, hc1, hc2, _, hbh, hT⟩ := (HU3.out.below HBr.out (by omega)).at_ hlt
      have hum := List.mem_of_getElem? hu
      have hul := hf u hum
      have HC := Lib.hid (l2Copy_any u.a u.c lo hi u.ts wr.drew (hT.below (Below.refl wr.heap.size wr).drew (by omega)) hul (HG.out u hum) (by show hi ≤ wr.heap.size; omega))
      have HTK := Lib.hid hu
      clear hu hT hum
      have x1 := (HX3.out.below HBr.out (show w.heap.size < w2.heap.size by omega)).cell (i := 1) rfl
      have q1 := HQ.out.cell (i := 1) rfl
      have hwd : w.heap.size < wr.drew.heap.size := by show _ < wr.heap.size; omega
      have hqd : w2.heap.size + 1 < wr.drew.heap.size := by show _ < wr.heap.size; omega
      have hbd : b1 < wr.drew.heap.size := by show _ < wr.heap.size; omega
      have hrd : w2.heap.size ≤ wr.drew.heap.size := by show _ ≤ wr.heap.size; omega
      have HOd : Hid (OwnU wr.drew w2.heap.size (some ⟨q, 0, none⟩) d' vs) := Lib.hid (HO.out.below (Below.refl wr.heap.size wr).drew)
      have HQd : Hid (Blk wr.drew (w2.heap.size + 1) 28 [.slice A2 room.length c2, .slice (some ⟨q, 0, none⟩) vs.length d']) := Lib.hid HQ.out
      have hvl : vs.length ≤ us.length := by have := congrArg List.length HPV.out; simp at this; omega
      have q1d : wr.drew.cell? ⟨w2.heap.size + 1, 1, none⟩ = some (.slice (some ⟨q, 0, none⟩) vs.length d') := q1
      go_wp2_with fail
      refine wp_region_U (fun w' => w'.cell? ⟨w.heap.size, 1, none⟩ = some (.slice (some ⟨b1, off1, none⟩) us.length d) ∧ w'.cell? ⟨b1, off1 + k * 2, none⟩ = some (.bool u.op) ∧ w'.cell? ⟨b1, off1 + k * 2 + 1, none⟩ = some (.slice u.a u.ts.length u.c) ∧ w'.cell? ⟨w2.heap.size + 1, 1, none⟩ = some (.slice (some ⟨q, 0, none⟩) vs.length d')) 18 (by kernel_rfl) ⟨x1, hc1, hc2, q1⟩ (fun hHeld => ?_)
      refine wpAnyU.take (i := 0) [18] (v := ?_) rfl (by kernel_rfl) (by kernel_rfl) (by kernel_rfl) (by kernel_rfl) (fun _ _ _ h => h) (Or.inl ⟨by rfl, ?_⟩) (by assumption) ?_
      rotate_left
      · (intro w hSw; (try dsimp only at hSw); go_simp <;> (with_reducible rfl))
      try simp only [Act.put, List.setIfInBounds_toArray, List.set_cons_zero, List.set_cons_succ]
      refine wpAnyU.take (i := 1) [18] (v := ?_) rfl (by kernel_rfl) (by kernel_rfl) (by kernel_rfl) (by kernel_rfl) (fun _ _ _ h => h) (Or.inl ⟨by rfl, ?_⟩) (by assumption) ?_
      rotate_left
      · (intro w hSw; (try dsimp only at hSw); go_simp <;> (with_reducible rfl))
      try simp only [Act.put, List.setIfInBounds_toArray, List.set_cons_zero, List.set_cons_succ]
      refine wpAnyU.take (i := 2) [18] (v := ?_) rfl (by kernel_rfl) (by kernel_rfl) (by kernel_rfl) (by kernel_rfl) (fun _ _ _ h => h) (Or.inl ⟨by rfl, ?_⟩) (by assumption) ?_
      rotate_left
      · (intro w hSw; (try dsimp only at hSw); go_simp <;> (with_reducible rfl))
      try simp only [Act.put, List.setIfInBounds_toArray, List.set_cons_zero, List.set_cons_succ]
      refine wpAnyU.take (i := 3) [18] (v := ?_) rfl (by kernel_rfl) (by kernel_rfl) (by kernel_rfl) (by kernel_rfl) (fun _ _ _ h => h) (Or.inl ⟨by rfl, ?_⟩) (by assumption) ?_
      rotate_left
      · (intro w hSw; (try dsimp only at hSw); go_simp <;> (with_reducible rfl))
      try simp only [Act.put, List.setIfInBounds_toArray, List.set_cons_zero, List.set_cons_succ]
      refine wpAnyU.take (i := 4) [18] (v := ?_) rfl (by kernel_rfl) (by kernel_rfl) (by kernel_rfl) (by kernel_rfl) (fun _ _ _ h => h) (Or.inl ⟨by rfl, ?_⟩) (by assumption) ?_
      rotate_left
      · (intro w hSw; (try dsimp only at hSw); go_simp <;> (with_reducible rfl))
      try simp only [Act.put, List.setIfInBounds_toArray, List.set_cons_zero, List.set_cons_succ]
      refine wpAnyU.take (i := 5) [18] (v := ?_) rfl (by kernel_rfl) (by kernel_rfl) (by kernel_rfl) (by kernel_rfl) (fun _ _ _ h => h) (Or.inl ⟨by rfl, ?_⟩) (by assumption) ?_
      rotate_left
      · (intro w hSw; (try dsimp only at hSw); go_simp <;> (with_reducible rfl))
      try simp only [Act.put, List.setIfInBounds_toArray, List.set_cons_zero, List.set_cons_succ]
      refine wpAnyU.take (i := 6) [18] (v := ?_) rfl (by kernel_rfl) (by kernel_rfl) (by kernel_rfl) (by kernel_rfl) (fun _ _ _ h => h) (Or.inl ⟨by rfl, ?_⟩) (by assumption) ?_
      rotate_left
      · (intro w hSw; (try dsimp only at hSw); go_simp <;> (with_reducible rfl))
      try simp only [Act.put, List.setIfInBounds_toArray, List.set_cons_zero, List.set_cons_succ]
      refine wpAnyU.take (i := 7) [18] (v := ?_) rfl (by kernel_rfl) (by kernel_rfl) (by kernel_rfl) (by kernel_rfl) (fun _ _ _ h => h) (Or.inl ⟨by rfl, ?_⟩) (by assumption) ?_
      rotate_left
      · (intro w hSw; (try dsimp only at hSw); go_simp <;> (with_reducible rfl))
      try simp only [Act.put, List.setIfInBounds_toArray, List.set_cons_zero, List.set_cons_succ]
      refine wpAnyU.take (i := 8) [18] (v := ?_) rfl (by kernel_rfl) (by kernel_rfl) (by kernel_rfl) (by kernel_rfl) (fun _ _ _ h => h) (Or.inl ⟨by rfl, ?_⟩) (by assumption) ?_
      rotate_left
      · (intro w hSw; (try dsimp only at hSw); go_simp <;> (with_reducible rfl))
      try simp only [Act.put, List.setIfInBounds_toArray, List.set_cons_zero, List.set_cons_succ]
      refine wpAnyU.take (i := 9) [18] (v := ?_) rfl (by kernel_rfl) (by kernel_rfl) (by kernel_rfl) (by kernel_rfl) (fun _ _ _ h => h) (Or.inl ⟨by rfl, ?_⟩) (by assumption) ?_
      rotate_left
      · (intro w hSw; (try dsimp only at hSw); go_simp <;> (with_reducible rfl))
      try simp only [Act.put, List.setIfInBounds_toArray, List.set_cons_zero, List.set_cons_succ]
      refine wpAnyU.take (i := 10) [18] (v := ?_) rfl (by kernel_rfl) (by kernel_rfl) (by kernel_rfl) (by kernel_rfl) (fun _ _ _ h => h) (Or.inl ⟨by rfl, ?_⟩) (by assumption) ?_
      rotate_left
      · (intro w hSw; (try dsimp only at hSw); go_simp <;> (with_reducible rfl))
      try simp only [Act.put, List.setIfInBounds_toArray, List.set_cons_zero, List.set_cons_succ]
      refine wpAnyU.take (i := 11) [18] (v := ?_) rfl (by kernel_rfl) (by kernel_rfl) (by kernel_rfl) (by kernel_rfl) (fun _ _ _ h => h) (Or.inl ⟨by rfl, ?_⟩) (by assumption) ?_
      rotate_left
      · (intro w hSw; (try dsimp only at hSw); go_simp <;> (with_reducible rfl))
      try simp only [Act.put, List.setIfInBounds_toArray, List.set_cons_zero, List.set_cons_succ]
      refine wpAnyU.take (i := 12) [18] (v := ?_) rfl (by kernel_rfl) (by kernel_rfl) (by kernel_rfl) (by kernel_rfl) (fun _ _ _ h => h) (Or.inl ⟨by rfl, ?_⟩) (by assumption) ?_
      rotate_left
      · (intro w hSw; (try dsimp only at hSw); go_simp <;> (with_reducible rfl))
      try simp only [Act.put, List.setIfInBounds_toArray, List.set_cons_zero, List.set_cons_succ]
      refine wpAnyU.take (i := 13) [18] (v := ?_) rfl (by kernel_rfl) (by kernel_rfl) (by kernel_rfl) (by kernel_rfl) (fun _ _ _ h => h) (Or.inl ⟨by rfl, ?_⟩) (by assumption) ?_
      rotate_left
      · (intro w hSw; (try dsimp only at hSw); go_simp <;> (with_reducible rfl))
      try simp only [Act.put, List.setIfInBounds_toArray, List.set_cons_zero, List.set_cons_succ]
      refine wpAnyU.one (i := 14) (by kernel_rfl) rfl (fun K hK => ?_)
      go_simp
      go_at_call 64
      refine HC.out.mono ?_
      rintro e w5 ⟨g5, c5, ts5, rfl, hp5, hO5, hb5⟩
      go_wp2_with fail
      have HP5 := Lib.hid hp5
      have HT5 := Lib.hid hO5
      have HB5 := Lib.hid hb5
      have HO5 := Lib.hid (HOd.out.below hb5)
      have HQ5 := Lib.hid (HQd.out.below hb5 hqd)
      have x5 := cell_belowT hb5 hwd x1
      have q5 := HQ5.out.cell (i := 1) rfl
      have c51 := cell_belowT hb5 hbd hc1
      have c52 := cell_belowT hb5 hbd hc2
      have hs5 := hb5.size
      clear hp5 hO5 hb5
      refine hK.out _ _ (fun _ => ?_) (fun hHeld => ?_)
      rotate_left
      replace hHeld := hHeld (by kernel_rfl)
      clear hK K
      try simp only [Act.put, List.setIfInBounds_toArray, List.set_cons_zero, List.set_cons_succ]
      rotate_right
      · exact ⟨x5, c51, c52, q5⟩
      refine wpAnyU.take (i := 15) [18] (v := ?_) rfl (by kernel_rfl) (by kernel_rfl) (by kernel_rfl) (by kernel_rfl) (fun _ _ _ h => h) (Or.inl ⟨by rfl, ?_⟩) (by assumption) ?_
      rotate_left
      · (intro w hSw; (try dsimp only at hSw); go_simp <;> (with_reducible rfl))
      try simp only [Act.put, List.setIfInBounds_toArray, List.set_cons_zero, List.set_cons_succ]
      refine wpAnyU.one (i := 16) (by kernel_rfl) rfl (fun K hK => ?_)
      go_simp
      refine hK.out _ _ (fun _ => ?_) (fun hHeld => ?_)
      rotate_left
      replace hHeld := hHeld (by kernel_rfl)
      clear hK K
      try simp only [Act.put, List.setIfInBounds_toArray, List.set_cons_zero, List.set_cons_succ]
      rotate_right
      · have hb6 : Below w5.heap.size w5 (w5.alloc (.cells #[.bool u.op, .slice (some ⟨g5, 0, none⟩) ts5.length c5] 48)) := alloc_belowC _ _
        exact ⟨cell_belowT hb6 (by omega) x5, cell_belowT hb6 (by omega) c51, cell_belowT hb6 (by omega) c52, cell_belowT hb6 (by omega) q5⟩
      refine wpAnyU.one (i := 17) (by kernel_rfl) rfl (fun K hK => ?_)
      refine step_app1 elUn rfl (.tmp 19) (.tmp 34) rfl w5 _ HO5.out.row [.bool u.op, .slice (some ⟨g5, 0, none⟩) ts5.length c5] rfl rfl ⟨rfl, rfl, rfl, rfl⟩ rfl (urowT_one [⟨u.op, some ⟨g5, 0, none⟩, c5, ts5⟩]) (by omega) (by simp only [maxLen]; omega) (by omega) ?_
      intro q2 d2 w9 hown hb9 hg9 hsz9 hq9
      have HW9 := Lib.hid hown
      have HB9 := Lib.hid hb9
      have HG9 := Lib.hid hg9
      have HQ9 := Lib.hid (HQ5.out.grown hg9 (own_ne HO5.out.row HQ5.out (by decide)))
      have q9 := HQ9.out.cell (i := 1) rfl
      have f9 := HQ9.out.frozen 1
      have y9 := cell_belowT hb9 (show w.heap.size < w2.heap.size by omega) x5
      have y91 := cell_belowT hb9 (show b1 < w2.heap.size by omega) c51
      have y92 := cell_belowT hb9 (show b1 < w2.heap.size by omega) c52
      clear hown hb9 hg9 hq9
      refine hK.out _ _ (fun _ => ?_) (fun hHeld => ?_)
      rotate_left
      replace hHeld := hHeld (by kernel_rfl)
      clear hK K
      try simp only [Act.put, List.setIfInBounds_toArray, List.set_cons_zero, List.set_cons_succ]
      rotate_right
      · exact ⟨y9, y91, y92, q9⟩
      refine wpAnyU.one (i := 18) (by kernel_rfl) rfl (fun K hK => ?_)
      go_simp
      refine hK.out _ _ (fun h => absurd (h.symm.trans (by kernel_rfl)) Bool.false_ne_true) (fun _ => ?_)
      clear hK K
      try simp only [Act.put, List.setIfInBounds_toArray, List.set_cons_zero, List.set_cons_succ]
      refine wpAnyU.one (i := 19) (by kernel_rfl) rfl (fun K hK => ?_)
      go_simp
      refine hK.out _ _ (fun h => absurd (h.symm.trans (by kernel_rfl)) Bool.false_ne_true) (fun _ => ?_)
      clear hK K
      try simp only [Act.put, List.setIfInBounds_toArray, List.set_cons_zero, List.set_cons_succ]
      refine wpAnyU.done (by kernel_rfl) ?_ _
      have hs9 := HB9.out.size
      have hb9s := hsz9
      obtain ⟨wf, hwf⟩ : ∃ W, W = w9.setCell ⟨w2.heap.size + 1, 1, none⟩ (.slice (some ⟨q2, 0, none⟩) (vs.length + 1) d2) := ⟨_, rfl⟩
      rw [← hwf]
      have hqf : Blk wf (w2.heap.size + 1) 28 [.slice A2 room.length c2, .slice (some ⟨q2, 0, none⟩) (vs.length + 1) d2] := by rw [hwf]; exact HQ9.out.set_ 1 _
      have hsn := HO5.out.snoc (u := ⟨u.op, some ⟨g5, 0, none⟩, c5, ts5⟩) (HT5.out.mono hrd) (fun x hx g hg h2 => by
        simp only [bcell, ubin, Value.ownBlock, Option.some.injEq] at h2
        subst h2
        have h3 := ((HO.out.each x hx).1.lt _ hg).2
        have h4 : wr.drew.heap.size ≤ g5 := (HT5.out.1.lt _ rfl).1
        have h5 : wr.drew.heap.size = wr.heap.size := rfl
        omega) HW9.out HG9.out (by omega)
      have HSN : Hid (OwnU wf _ _ _ _) := Lib.hid (by rw [hwf]; exact hsn.far HQ9.out (by decide) (by decide) (by decide) _)
      have HQF := Lib.hid hqf
      have hbf : Below w2.heap.size wr wf := (((Below.refl wr.heap.size wr).drew.trans HB5.out).mono (by omega)).trans (HB9.out.trans (by rw [hwf]; exact (Below.refl _ _).setCell (p := ⟨w2.heap.size + 1, 1, none⟩) (by simp) _))
      have HBF := Lib.hid hbf
      clear hsn hqf hbf hwf
      go_wp2_with fail
      refine ⟨⟨k + 1, q2, d2, vs ++ [⟨u.op, some ⟨g5, 0, none⟩, c5, ts5⟩], by omega, by go_num, ?_, ?_, HSN.out, HBr.out.trans HBF.out⟩, by simp [intOf]; omega⟩
      · rw [take_succ_some HTK.out, List.map_append, List.map_append, HPV.out, List.map_singleton, List.map_singleton, HP5.out]
      · rw [List.length_append]; exact HQF.out
    · have hkn : ¬ ((k : Int) < us.length) := by omega
      obtain rfl : k = us.length := by omega
      have hsrr : w2.heap.size + 2 ≤ wr.heap.size := by omega
      have hQn := HQ.out
      have hZn := HZ3.out.below HBr.out (show w.heap.size + 1 < w2.heap.size by omega)
      have hXn := HX3.out.below HBr.out (show w.heap.size < w2.heap.size by omega)
      have q0 := hQn.cell (i := 0) rfl
      have q1 := hQn.cell (i := 1) rfl
      have z0 := hZn.cell (i := 0) rfl
      have z1 := hZn.cell (i := 1) rfl
      have y0 := hZn.frozen 0
      have y1 := hZn.frozen 1
      have x1 := hXn.cell (i := 1) rfl
      have HZn := Lib.hid hZn
      have HIn := Lib.hid (HI3.out.below HBr.out (Nat.le_refl _))
      have HBn := Lib.hid (HB3.out.trans (HBr.out.mono (by omega)))
      clear hQn hZn hXn
      go_wp2_with fail
      obtain ⟨wf, hwf⟩ : ∃ W, W = (wr.setCell ⟨w.heap.size + 1, 0, none⟩ (.slice A2 room.length c2)).setCell ⟨w.heap.size + 1, 1, none⟩ (.slice (some ⟨q, 0, none⟩) vs.length d') := ⟨_, rfl⟩
      rw [← hwf]
      have hzf : Blk wf (w.heap.size + 1) 28 [.slice A2 room.length c2, .slice (some ⟨q, 0, none⟩) vs.length d'] := by rw [hwf]; exact (HZn.out.set_ 0 _).set_ 1 _
      have hof : Only (w.heap.size + 1) (w.heap.size + 2) wr wf := by rw [hwf]; exact ((Only.refl _ _ _).setCell (p := ⟨w.heap.size + 1, 0, none⟩) (Nat.le_refl _) (by simp) _).setCell (p := ⟨w.heap.size + 1, 1, none⟩) (Nat.le_refl _) (by simp) _
      have hsf := hof.size
      have hbf := HBn.out.trans (hof.below (by omega) (by omega))
      have hI9 := ((HIn.out.only hof (.inr (by have := HS0.out; omega)) (by omega)).mono (show w.heap.size ≤ w0.heap.size by have := HS0.out; omega) (show w2.heap.size ≤ wf.heap.size by omega))
      have hU9 := (HO.out.only hof (by omega)).mono (show w.heap.size ≤ w2.heap.size by omega)
      have r0 := hzf.cell (i := 0) rfl
      have r1 := hzf.cell (i := 1) rfl
      refine bodyPost_ret (v := .agg #[.slice A2 room.length c2, .slice (some ⟨q, 0, none⟩) vs.length d']) (by simp [results, Try.results53, go_sem, r0, r1]) rfl ?_
      exact ⟨A2, c2, q, d', vs, rfl, hI9, hU9, by rw [HPV.out, List.take_length], hbf⟩
end Go.Proofs.Ytcmampicgdobcaa
