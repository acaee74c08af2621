/- The generator of a cluster. No condition but on sizes. -/
import Derived.Test.YtcmampicgdobcaaEg
namespace Go.Proofs.Ytcmampicgdobcaa
open Go.RowKit
/-- a cluster is copied into a box -/
theorem clu_box {W : World} {base N z : Nat} {va vb : Value} {cs : List Value} (hZ : Blk W z 28 cs) (hc : cs.length = 2) (h : Clu W base N (.agg #[va, vb])) :
    ∃ wf, wf = (W.setCell ⟨z, 0, none⟩ va).setCell ⟨z, 1, none⟩ vb ∧ Blk wf z 28 [va, vb] ∧ Clu wf base N (.agg #[va, vb]) ∧ Only z (z + 1) W wf := by
  obtain ⟨x, y, rfl⟩ : ∃ x y, cs = [x, y] := by
    match cs, hc with
    | [x, y], _ => exact ⟨x, y, rfl⟩
  have h1 := hZ.set_ 0 va
  have h2 := h1.set_ 1 vb
  exact ⟨_, rfl, h2, (h.far hZ (by decide) (by decide) (by decide) va).far h1 (by decide) (by decide) (by decide) vb,
    ((Only.refl _ _ _).setCell (p := ⟨z, 0, none⟩) (Nat.le_refl _) (by simp) _).setCell (p := ⟨z, 1, none⟩) (Nat.le_refl _) (by simp) _⟩
/-- a drawn cluster -/
def GenC (w : World) (g p : Nat) (e : Ending) (w' : World) : Prop :=
  ∃ A c B d, ∃ room : List Int, ∃ us : List UniV, ∃ p', e = .returned (.agg #[.slice A room.length c, .slice B us.length d]) ∧ Ints w' w.heap.size w'.heap.size A c room ∧ UniT w' w.heap.size w'.heap.size B d us ∧ room.length ≤ 3 ∧ us.length ≤ 10 ∧ (bflat (us.map ubin)).length ≤ 17 ∧
    (∀ u, u ∈ us → ∀ t, t ∈ u.ts → GoodN t.need) ∧ Rd w' g p' ∧ p' ≤ p + 1000 ∧ Only g (g + 1) w w'
theorem IntsE.drop1 {e : TypeId} {w : World} {lo hi b off c : Nat} {ys : List Int} (h : IntsE e w lo hi (some ⟨b, off, none⟩) c ys) : IntsE e w lo hi (some ⟨b, off + 1, none⟩) (c - 1) (ys.drop 1) := by
  refine ⟨⟨by rw [List.length_drop]; have := h.1.1; omega, by have := h.1.2.1; omega, ?_⟩, fun b' hb hy => ?_⟩
  · rcases h.1.2.2 with h | ⟨b', off', h1, h2, h3, h4⟩
    · exact .inl (by rw [h]; rfl)
    · simp only [Option.some.injEq, Addr.mk.injEq, and_true] at h1
      obtain ⟨rfl, rfl⟩ := h1
      refine .inr ⟨b, off + 1, rfl, h2, h3, fun j y hj => ?_⟩
      rw [List.getElem?_drop] at hj
      have := h4 (1 + j) y hj
      rw [show off + 1 + j = off + (1 + j) by omega]; exact this
  · refine h.2 b' hb (fun e => hy (by rw [e]; rfl))
/-- an own cluster of some shape -/
def CluW (w : World) (base : Nat) (v : Value) : Prop :=
  ∃ A c B d, ∃ room : List Int, ∃ us : List UniV, v = .agg #[.slice A room.length c, .slice B us.length d] ∧ IntsE 3 w base w.heap.size A c room ∧ OwnU w base B d us ∧ room.length ≤ 3 ∧ us.length ≤ 10 ∧ (bflat (us.map ubin)).length ≤ 17 ∧ (∀ u, u ∈ us → ∀ t, t ∈ u.ts → GoodN t.need)
theorem CluW.mk' {w : World} {base N n c d : Nat} {A B : Option Addr} {room : List Int} {us : List UniV} (h : CluOk N room us) (hN : N ≤ 17) (hn : us.length = n) (hI : IntsE 3 w base w.heap.size A c room) (hU : OwnU w base B d us) : CluW w base (.agg #[.slice A room.length c, .slice B n d]) :=
  ⟨A, c, B, d, room, us, by rw [hn], hI, hU, h.roomle, h.few, Nat.le_trans h.many hN, h.good⟩
theorem CluW.of {w : World} {base N c d : Nat} {A B : Option Addr} {room : List Int} {us : List UniV} (h : CluOk N room us) (hN : N ≤ 16) (hI : IntsE 3 w base w.heap.size A c room) (hU : OwnU w base B d us) : CluW w base (.agg #[.slice A room.length c, .slice B us.length d]) :=
  CluW.mk' h (by omega) rfl hI hU
theorem CluW.far {w : World} {base g i : Nat} {t : TypeId} {cs : List Value} {v : Value} (h : CluW w base v) (hb : Blk w g t cs) (h1 : 48 ≠ t) (h2 : 62 ≠ t) (h3 : 3 ≠ t) (u : Value) : CluW (w.setCell ⟨g, i, none⟩ u) base v := by
  obtain ⟨A, c, B, d, room, us, rfl, k1, k2, k3⟩ := h
  exact ⟨A, c, B, d, room, us, rfl, (k1.far hb h3 u).mono (Nat.le_refl _) (by simp [World.setCell]), k2.far hb h1 h2 h3 u, k3⟩
/-- the cluster is copied into the result's cells -/
theorem genC_ret {w W : World} {g p p' : Nat} {va vb : Value} (hS : Blk W w.heap.size 28 [.slice none 0 0, .slice none 0 0]) (h : CluW W w.heap.size (.agg #[va, vb])) (hR : Rd W g p') (hO : Only g (g + 1) w W) (hp : p' ≤ p + 1000) (hg : g < w.heap.size) :
    ∃ wf, wf = (W.setCell ⟨w.heap.size, 0, none⟩ va).setCell ⟨w.heap.size, 1, none⟩ vb ∧ wf.cell? ⟨w.heap.size, 0, none⟩ = some va ∧ wf.cell? ⟨w.heap.size, 1, none⟩ = some vb ∧ GenC w g p (.returned (.agg #[va, vb])) wf := by
  have h1 := hS.set_ 0 va
  have h2 := h1.set_ 1 vb
  refine ⟨_, rfl, h2.cell (i := 0) rfl, h2.cell (i := 1) rfl, ?_⟩
  have hb : Below w.heap.size W ((W.setCell ⟨w.heap.size, 0, none⟩ va).setCell ⟨w.heap.size, 1, none⟩ vb) :=
    ((Below.refl _ _).setCell (p := ⟨w.heap.size, 0, none⟩) (Nat.le_refl _) va).setCell (p := ⟨w.heap.size, 1, none⟩) (Nat.le_refl _) vb
  obtain ⟨A, c, B, d, room, us, he, k1, k2, k3, k4, k5, k6⟩ := (h.far hS (by decide) (by decide) (by decide) va).far h1 (by decide) (by decide) (by decide) vb
  exact ⟨A, c, B, d, room, us, p', by rw [he], k1.1, k2.units, k3, k4, k5, k6, hR.below hb hg, hp, hO.then_below hb⟩
set_option linter.unusedSimpArgs false in
set_option maxHeartbeats 4000000 in
theorem l92Cluster_any (g p : Nat) (w : World) (hR : Rd w g p) (hp : p ≤ 800000) :
    Calls Try.prog 29 #[.pointer (some ⟨g, 0, none⟩)] w (GenC w g p) := by
  have hg := hR.lt
  obtain ⟨w0, hw0⟩ : ∃ W, W = w.alloc (.cells #[.slice none 0 0, .slice none 0 0] 28) := ⟨_, rfl⟩
  have HW0 := Lib.hid hw0
  have hb0 : Below w.heap.size w w0 := by rw [hw0]; exact alloc_belowC w _
  have hs0 : w.heap.size + 1 ≤ w0.heap.size := by rw [hw0]; simp
  have HS0 : Hid (Blk w0 w.heap.size 28 [.slice none 0 0, .slice none 0 0]) := Lib.hid (by rw [hw0]; exact Blk.new w _ [.slice none 0 0, .slice none 0 0])
  have HR0 := Lib.hid (hR.below hb0 hg)
  have HO0 : Hid (Only g (g + 1) w w0) := Lib.hid (Only.of_below hb0)
  clear hw0 hb0 hR
  go_enter Try.func29, Try.ntmps29
  go_wp2_with fail
  rw [← HW0.out]
  refine (l91Room_any g p w0 HR0.out (by omega)).mono ?_
  rintro e w1 ⟨rb, rx, ry, rz, p1, rfl, hI, _, _, _, hR1, hp0, hp1, hO⟩
  have hs1 := hO.size
  have HI1 := Lib.hid hI
  have HR1 := Lib.hid hR1
  have HS1 := Lib.hid (HS0.out.only hO (.inr (by omega)))
  have HO1 := Lib.hid (HO0.out.trans hO)
  clear hI hR1 hO HR0 HS0 HO0
  go_wp2_with fail
  refine (pick_any g p1 7 w1 HR1.out (by omega) (by omega)).mono ?_
  rintro e w2 ⟨nn, rfl, hn0, hn1, hR2, hO2, hs2⟩
  have HI2 := Lib.hid (HI1.out.only hO2 (.inr (by omega)) (Nat.le_refl _))
  have HR2 := Lib.hid hR2
  have HS2 := Lib.hid (HS1.out.only hO2 (.inr (by omega)))
  have HO2 := Lib.hid (HO1.out.trans hO2)
  have hwn : IntKind.i64.wrap (1 + nn) = 1 + nn := wrap_small (by omega)
  clear hR2 hO2 HI1 HR1 HS1 HO1
  go_wp2_with fail
  refine (clusterNewO_any (some ⟨rb, 0, none⟩) 3 _ _ [rx, ry, rz] (1 + nn) w2 HI2.out (by simp) (by omega)).mono ?_
  rintro e w3 ⟨v3, b3, rfl, ⟨A3, c3, B3, d3, room3, us3, rfl, hA3, hU3, hC3⟩, hb3⟩
  have hs3 := hb3.size
  have HC3 : Hid (Clu w3 w.heap.size 0 (.agg #[.slice A3 room3.length c3, .slice B3 us3.length d3])) := Lib.hid ⟨A3, c3, B3, d3, room3, us3, rfl, hA3.mono (by omega) (Nat.le_refl _), hU3.mono (by omega), hC3⟩
  have HR3 := Lib.hid (HR2.out.below hb3 (by omega))
  have HS3 := Lib.hid (HS2.out.below hb3 (by omega))
  have HO3 := Lib.hid (HO2.out.then_below (hb3.mono (by omega)))
  clear hA3 hU3 hC3 hb3 HI2 HR2 HS2 HO2
  obtain ⟨w4, hw4⟩ : ∃ W, W = w3.alloc (.cells #[.slice A3 room3.length c3, .slice B3 us3.length d3] 28) := ⟨_, rfl⟩
  have HW4 := Lib.hid hw4
  have hb4 : Below w3.heap.size w3 w4 := by rw [hw4]; exact alloc_belowC w3 _
  have hs4 : w3.heap.size + 1 ≤ w4.heap.size := by rw [hw4]; simp
  have HX4 : Hid (Blk w4 w3.heap.size 28 [.slice A3 room3.length c3, .slice B3 us3.length d3]) := Lib.hid (by rw [hw4]; exact Blk.new w3 _ [.slice A3 room3.length c3, .slice B3 us3.length d3])
  have HC4 := Lib.hid (HC3.out.below hb4)
  have HR4 := Lib.hid (HR3.out.below hb4 (by omega))
  have HS4 := Lib.hid (HS3.out.below hb4 (by omega))
  have HO4 := Lib.hid (HO3.out.then_below (hb4.mono (by omega)))
  obtain ⟨X, hX⟩ : ∃ X, X = w3.heap.size := ⟨_, rfl⟩
  have hXw : w.heap.size + 1 ≤ X := by omega
  clear hw4 hb4 HC3 HR3 HS3 HO3
  go_wp2_with fail
  rw [← HW4.out]
  refine (pick_any g (p1 + 1) 16 w4 HR4.out (by omega) (by omega)).mono ?_
  rintro e w5 ⟨nv, rfl, hv0, hv1, hR5, hO5, hs5⟩
  have HR5 := Lib.hid hR5
  have HX5 := Lib.hid (HX4.out.only hO5 (.inr (by omega)))
  have HC5 := Lib.hid (HC4.out.only hO5 (by omega))
  have HS5 := Lib.hid (HS4.out.only hO5 (.inr (by omega)))
  have HO5 := Lib.hid (HO4.out.trans hO5)
  have hs5' : X + 1 ≤ w5.heap.size := by omega
  clear hR5 hO5 hs5 HR4 HX4 HC4 HS4 HO4 HW4
  obtain ⟨nv, rfl⟩ : ∃ n : Nat, nv = n := ⟨nv.toNat, by omega⟩
  rw [← hX] at HX5 ⊢
  clear hX hs4 hs3 hs2 hs1
  go_wp2_with fail
  go_loopw [6] (fun i wr => ∃ k p' : Nat, ∃ va vb, k ≤ nv ∧ i = .int .i64 k ∧ Rd wr g p' ∧ p' ≤ p + 20 + 20 * k ∧ Blk wr X 28 [va, vb] ∧ Clu wr w.heap.size k (.agg #[va, vb]) ∧ Blk wr w.heap.size 28 [.slice none 0 0, .slice none 0 0] ∧ Only g (g + 1) w wr ∧ X + 1 ≤ wr.heap.size) (fun i _ => nv - (intOf i).toNat)
  case atStart => exact ⟨0, _, _, _, by omega, rfl, HR5.out, by omega, HX5.out, HC5.out, HS5.out, HO5.out, hs5'⟩
  case round =>
    clear HR5 HX5 HC5 HS5 HO5 hs5'
    obtain ⟨k, p', va, vb, hk, rfl, hRd, hpp, hX, hCl, hS, hO, hsX⟩ := hrel
    obtain ⟨A, c, B, d, room, us, hv, hA, hU, hC⟩ := hCl
    simp only [Value.agg.injEq, Array.mk.injEq, List.cons.injEq, and_true] at hv
    obtain ⟨rfl, rfl⟩ := hv
    have HR := Lib.hid hRd
    have HX := Lib.hid hX
    have HS := Lib.hid hS
    have HO := Lib.hid hO
    have HA := Lib.hid hA
    have HU := Lib.hid hU
    have HC := Lib.hid hC
    clear hRd hX hS hO hA hU hC
    by_cases hlt : (k : Int) < nv
    · have hkk : k ≤ 100 := by omega
      go_wp2_with fail
      refine (pick_any g p' 6 wr HR.out (by omega) (by omega)).mono ?_
      rintro e w6 ⟨v6, rfl, h60, h61, hR6, hO6, hs6⟩
      have HR6 := Lib.hid hR6
      have HX6 := Lib.hid (HX.out.only hO6 (.inr (by omega)))
      have HS6 := Lib.hid (HS.out.only hO6 (.inr (by omega)))
      have HA6 := Lib.hid ((HA.out.only hO6 (.inr (by omega)) (Nat.le_refl _)).mono (Nat.le_refl _) hO6.size)
      have HU6 := Lib.hid (HU.out.only hO6 (by omega))
      have HO6 := Lib.hid (HO.out.trans hO6)
      clear hR6 hO6 HR HX HS HO HA HU
      have x60 := HX6.out.cell (i := 0) rfl
      have x61 := HX6.out.cell (i := 1) rfl
      by_cases hz : v6 = 0
      · subst hz
        have HU6d : Hid (OwnU w6.drew w.heap.size B d us) := Lib.hid (HU6.out.below (Below.refl _ _).drew)
        have hsd6 : w6.drew.heap.size = w6.heap.size := rfl
        go_wp2_with fail
        refine wp_region_U (fun w' => w'.cell? ⟨X, 0, none⟩ = some (.slice A room.length c) ∧ w'.cell? ⟨X, 1, none⟩ = some (.slice B us.length d)) 8 (by kernel_rfl) ⟨x60, x61⟩ (fun hHeld => ?_)
        refine wpAnyU.take (i := 0) [8] (v := ?_) rfl (by kernel_rfl) (by kernel_rfl) (by kernel_rfl) (by kernel_rfl) (fun _ _ _ h => h) (Or.inl ⟨by rfl, ?_⟩) (by assumption) ?_
        rotate_left
        · (intro w hSw; (try dsimp only at hSw); go_simp <;> (with_reducible rfl))
        try simp only [Act.put, List.setIfInBounds_toArray, List.set_cons_zero, List.set_cons_succ]
        refine wpAnyU.take (i := 1) [8] (v := ?_) rfl (by kernel_rfl) (by kernel_rfl) (by kernel_rfl) (by kernel_rfl) (fun _ _ _ h => h) (Or.inl ⟨by rfl, ?_⟩) (by assumption) ?_
        rotate_left
        · (intro w hSw; (try dsimp only at hSw); go_simp <;> (with_reducible rfl))
        try simp only [Act.put, List.setIfInBounds_toArray, List.set_cons_zero, List.set_cons_succ]
        refine wpAnyU.one (i := 2) (by kernel_rfl) rfl (fun K hK => ?_)
        go_simp
        go_at_call 17
        refine (pick_any g (p' + 1) 12 w6.drew HR6.out (by omega) (by omega)).mono ?_
        rintro e w7 ⟨v7, rfl, hv70, hv71, hR7, hO7, hs7⟩
        go_wp2_with fail
        have HR7 := Lib.hid hR7
        have HX7 : Hid (Blk w7 X 28 [.slice A room.length c, .slice B us.length d]) := Lib.hid (HX6.out.only (w := w6.drew) hO7 (.inr (by omega)))
        have HS7 : Hid (Blk w7 w.heap.size 28 [.slice none 0 0, .slice none 0 0]) := Lib.hid (HS6.out.only (w := w6.drew) hO7 (.inr (by omega)))
        have HA7 : Hid (IntsE 3 w7 w.heap.size w7.heap.size A c room) := Lib.hid ((IntsE.only (w := w6.drew) HA6.out hO7 (.inr (by omega)) (Nat.le_refl _)).mono (Nat.le_refl _) hO7.size)
        have HU7 : Hid (OwnU w7 w.heap.size B d us) := Lib.hid (OwnU.only (w := w6.drew) HU6d.out hO7 (by omega))
        have HO7 : Hid (Only g (g + 1) w w7) := Lib.hid (Only.trans (w' := w6.drew) (Only.drew HO6.out) hO7)
        have hsz7 : w6.heap.size ≤ w7.heap.size := by have := hO7.size; exact this
        have x70 := HX7.out.cell (i := 0) rfl
        have x71 := HX7.out.cell (i := 1) rfl
        clear hR7 hO7 hs7
        refine hK.out _ _ (fun _ => ?_) (fun hHeld => ?_)
        rotate_left
        replace hHeld := hHeld (by kernel_rfl)
        clear hK K
        try simp only [Act.put, List.setIfInBounds_toArray, List.set_cons_zero, List.set_cons_succ]
        rotate_right
        · exact ⟨x70, x71⟩
        have hw7 : IntKind.i64.wrap (1 + v7) = 1 + v7 := wrap_small (by omega)
        refine wpAnyU.take (i := 3) [8] (v := ?_) rfl (by kernel_rfl) (by kernel_rfl) (by kernel_rfl) (by kernel_rfl) (fun _ _ _ h => h) (Or.inl ⟨by rfl, ?_⟩) (by assumption) ?_
        rotate_left
        · (intro w hSw; (try dsimp only at hSw); go_simp <;> (with_reducible rfl))
        try simp only [Act.put, List.setIfInBounds_toArray, List.set_cons_zero, List.set_cons_succ]
        refine wpAnyU.one (i := 4) (by kernel_rfl) rfl (fun K hK => ?_)
        go_simp
        go_at_call 41
        refine (clusterDepartS_any A B c d k _ _ _ _ room (1 + v7) us w7 HA7.out.1 HU7.out.units HC.out hkk (Nat.le_refl _) (Nat.le_refl _)).mono ?_
        rintro e w9 ⟨v9, code, rfl, ⟨A9, c9, B9, d9, room9, us9, rfl, hA9, hU9, hC9⟩, hb9⟩
        go_wp2_with fail
        have hs9 := hb9.size
        have HC9 : Hid (Clu w9 w.heap.size (k + 1) (.agg #[.slice A9 room9.length c9, .slice B9 us9.length d9])) := Lib.hid ⟨A9, c9, B9, d9, room9, us9, rfl, hA9.mono (by omega) (Nat.le_refl _), hU9.mono (by omega), hC9.mono (by omega)⟩
        have HR9 := Lib.hid (HR7.out.below hb9 (by omega))
        have HX9 := Lib.hid (HX7.out.below hb9 (by omega))
        have HS9 := Lib.hid (HS7.out.below hb9 (by omega))
        have HO9 := Lib.hid (HO7.out.then_below (hb9.mono (by omega)))
        have x90 := HX9.out.cell (i := 0) rfl
        have x91 := HX9.out.cell (i := 1) rfl
        have f90 := HX9.out.frozen 0
        have f91 := HX9.out.frozen 1
        clear hA9 hU9 hC9 hb9
        refine hK.out _ _ (fun _ => ?_) (fun hHeld => ?_)
        rotate_left
        replace hHeld := hHeld (by kernel_rfl)
        clear hK K
        try simp only [Act.put, List.setIfInBounds_toArray, List.set_cons_zero, List.set_cons_succ]
        rotate_right
        · exact ⟨x90, x91⟩
        refine wpAnyU.take (i := 5) [8] (v := ?_) rfl (by kernel_rfl) (by kernel_rfl) (by kernel_rfl) (by kernel_rfl) (fun _ _ _ h => h) (Or.inl ⟨by rfl, ?_⟩) (by assumption) ?_
        rotate_left
        · (intro w hSw; (try dsimp only at hSw); go_simp <;> (with_reducible rfl))
        try simp only [Act.put, List.setIfInBounds_toArray, List.set_cons_zero, List.set_cons_succ]
        refine wpAnyU.take (i := 6) [8] (v := ?_) rfl (by kernel_rfl) (by kernel_rfl) (by kernel_rfl) (by kernel_rfl) (fun _ _ _ h => h) (Or.inl ⟨by rfl, ?_⟩) (by assumption) ?_
        rotate_left
        · (intro w hSw; (try dsimp only at hSw); go_simp <;> (with_reducible rfl))
        try simp only [Act.put, List.setIfInBounds_toArray, List.set_cons_zero, List.set_cons_succ]
        refine wpAnyU.pure_ (i := 7) (v := ?_) rfl (by kernel_rfl) (by kernel_rfl) (by kernel_rfl) (by decide) (fun _ _ _ h => h) (Or.inl ⟨by rfl, ?_⟩) (by first | exact fun _ => hHeld | exact fun h => absurd (h.symm.trans (by kernel_rfl)) Bool.false_ne_true) ?_
        rotate_left
        · (intro w _; go_simp <;> (with_reducible rfl))
        try simp only [Act.put, List.setIfInBounds_toArray, List.set_cons_zero, List.set_cons_succ]
        refine wpAnyU.one (i := 8) (by kernel_rfl) rfl (fun K hK => ?_)
        go_simp
        refine hK.out _ _ (fun h => absurd (h.symm.trans (by kernel_rfl)) Bool.false_ne_true) (fun _ => ?_)
        clear hK K
        try simp only [Act.put, List.setIfInBounds_toArray, List.set_cons_zero, List.set_cons_succ]
        refine wpAnyU.done (by kernel_rfl) ?_ _
        obtain ⟨wf, hwf, hXf, hCf, hof⟩ := clu_box HX9.out rfl HC9.out
        rw [← hwf]
        have hRf := HR9.out.below (hof.below (B := w.heap.size) (by omega) (by omega)) hg
        have hSf := HS9.out.only hof (.inl (by omega))
        have hOf := HO9.out.then_below (hof.below (B := w.heap.size) (by omega) (by omega))
        have hsf := hof.size
        clear hwf hof hHeld
        go_wp2_with fail
        exact ⟨⟨k + 1, p' + 1 + 1, _, _, by omega, by go_num, hRf, by omega, hXf, hCf, hSf, hOf, by omega⟩, by simp [intOf]; omega⟩
      · have hzb : (v6 == 0) = false := by simpa using hz
        by_cases ho : v6 = 1
        · subst ho
          have HU6d : Hid (OwnU w6.drew w.heap.size B d us) := Lib.hid (HU6.out.below (Below.refl _ _).drew)
          have hsd6 : w6.drew.heap.size = w6.heap.size := rfl
          go_wp2_with fail
          refine wp_region_U (fun w' => w'.cell? ⟨X, 0, none⟩ = some (.slice A room.length c) ∧ w'.cell? ⟨X, 1, none⟩ = some (.slice B us.length d)) 10 (by kernel_rfl) ⟨x60, x61⟩ (fun hHeld => ?_)
          refine wpAnyU.take (i := 0) [10] (v := ?_) rfl (by kernel_rfl) (by kernel_rfl) (by kernel_rfl) (by kernel_rfl) (fun _ _ _ h => h) (Or.inl ⟨by rfl, ?_⟩) (by assumption) ?_
          rotate_left
          · (intro w hSw; (try dsimp only at hSw); go_simp <;> (with_reducible rfl))
          try simp only [Act.put, List.setIfInBounds_toArray, List.set_cons_zero, List.set_cons_succ]
          refine wpAnyU.take (i := 1) [10] (v := ?_) rfl (by kernel_rfl) (by kernel_rfl) (by kernel_rfl) (by kernel_rfl) (fun _ _ _ h => h) (Or.inl ⟨by rfl, ?_⟩) (by assumption) ?_
          rotate_left
          · (intro w hSw; (try dsimp only at hSw); go_simp <;> (with_reducible rfl))
          try simp only [Act.put, List.setIfInBounds_toArray, List.set_cons_zero, List.set_cons_succ]
          refine wpAnyU.take (i := 3) [10] (v := ?_) rfl (by kernel_rfl) (by kernel_rfl) (by kernel_rfl) (by kernel_rfl) (fun _ _ _ h => h) (Or.inl ⟨by rfl, ?_⟩) (by assumption) ?_
          rotate_left
          · (intro w hSw; (try dsimp only at hSw); go_simp <;> (with_reducible rfl))
          try simp only [Act.put, List.setIfInBounds_toArray, List.set_cons_zero, List.set_cons_succ]
          refine wpAnyU.one (i := 2) (by kernel_rfl) rfl (fun K hK => ?_)
          go_simp
          go_at_call 17
          refine (pick_any g (p' + 1) 7 w6.drew HR6.out (by omega) (by omega)).mono ?_
          rintro e w7 ⟨v7, rfl, hv70, hv71, hR7, hO7, hs7⟩
          go_wp2_with fail
          have HR7 := Lib.hid hR7
          have HX7 : Hid (Blk w7 X 28 [.slice A room.length c, .slice B us.length d]) := Lib.hid (HX6.out.only (w := w6.drew) hO7 (.inr (by omega)))
          have HS7 : Hid (Blk w7 w.heap.size 28 [.slice none 0 0, .slice none 0 0]) := Lib.hid (HS6.out.only (w := w6.drew) hO7 (.inr (by omega)))
          have HA7 : Hid (IntsE 3 w7 w.heap.size w7.heap.size A c room) := Lib.hid ((IntsE.only (w := w6.drew) HA6.out hO7 (.inr (by omega)) (Nat.le_refl _)).mono (Nat.le_refl _) hO7.size)
          have HU7 : Hid (OwnU w7 w.heap.size B d us) := Lib.hid (OwnU.only (w := w6.drew) HU6d.out hO7 (by omega))
          have HO7 : Hid (Only g (g + 1) w w7) := Lib.hid (Only.trans (w' := w6.drew) (Only.drew HO6.out) hO7)
          have hsz7 : w6.heap.size ≤ w7.heap.size := by have := hO7.size; exact this
          have x70 := HX7.out.cell (i := 0) rfl
          have x71 := HX7.out.cell (i := 1) rfl
          clear hR7 hO7 hs7
          refine hK.out _ _ (fun _ => ?_) (fun hHeld => ?_)
          rotate_left
          replace hHeld := hHeld (by kernel_rfl)
          clear hK K
          try simp only [Act.put, List.setIfInBounds_toArray, List.set_cons_zero, List.set_cons_succ]
          rotate_right
          · exact ⟨x70, x71⟩
          refine wpAnyU.one (i := 4) (by kernel_rfl) rfl (fun K hK => ?_)
          go_simp
          go_at_call 17
          refine (pick_any g (p' + 1 + 1) 3 w7 HR7.out (by omega) (by omega)).mono ?_
          rintro e w8 ⟨v8, rfl, hv80, hv81, hR8, hO8, hs8⟩
          go_wp2_with fail
          have HR8 := Lib.hid hR8
          have HX8 : Hid (Blk w8 X 28 [.slice A room.length c, .slice B us.length d]) := Lib.hid (HX7.out.only (w := w7) hO8 (.inr (by omega)))
          have HS8 : Hid (Blk w8 w.heap.size 28 [.slice none 0 0, .slice none 0 0]) := Lib.hid (HS7.out.only (w := w7) hO8 (.inr (by omega)))
          have HA8 : Hid (IntsE 3 w8 w.heap.size w8.heap.size A c room) := Lib.hid ((IntsE.only (w := w7) HA7.out hO8 (.inr (by omega)) (Nat.le_refl _)).mono (Nat.le_refl _) hO8.size)
          have HU8 : Hid (OwnU w8 w.heap.size B d us) := Lib.hid (OwnU.only (w := w7) HU7.out hO8 (by omega))
          have HO8 : Hid (Only g (g + 1) w w8) := Lib.hid (Only.trans (w' := w7) HO7.out hO8)
          have hsz8 : w6.heap.size ≤ w8.heap.size := by have := hO8.size; omega
          have x80 := HX8.out.cell (i := 0) rfl
          have x81 := HX8.out.cell (i := 1) rfl
          clear hR8 hO8 hs8
          refine hK.out _ _ (fun _ => ?_) (fun hHeld => ?_)
          rotate_left
          replace hHeld := hHeld (by kernel_rfl)
          clear hK K
          try simp only [Act.put, List.setIfInBounds_toArray, List.set_cons_zero, List.set_cons_succ]
          rotate_right
          · exact ⟨x80, x81⟩
          refine wpAnyU.take (i := 5) [10] (v := ?_) rfl (by kernel_rfl) (by kernel_rfl) (by kernel_rfl) (by kernel_rfl) (fun _ _ _ h => h) (Or.inl ⟨by rfl, ?_⟩) (by assumption) ?_
          rotate_left
          · (intro w hSw; (try dsimp only at hSw); go_simp <;> (with_reducible rfl))
          try simp only [Act.put, List.setIfInBounds_toArray, List.set_cons_zero, List.set_cons_succ]
          refine wpAnyU.one (i := 6) (by kernel_rfl) rfl (fun K hK => ?_)
          go_simp
          go_at_call 42
          refine (clusterOpenS_any A B c d k _ _ _ _ room v7 _ us w8 HA8.out.1 HU8.out.units HC.out hkk (Nat.le_refl _) (Nat.le_refl _)).mono ?_
          rintro e w9 ⟨v9, code, rfl, ⟨A9, c9, B9, d9, room9, us9, rfl, hA9, hU9, hC9⟩, hb9⟩
          go_wp2_with fail
          have hs9 := hb9.size
          have HC9 : Hid (Clu w9 w.heap.size (k + 1) (.agg #[.slice A9 room9.length c9, .slice B9 us9.length d9])) := Lib.hid ⟨A9, c9, B9, d9, room9, us9, rfl, hA9.mono (by omega) (Nat.le_refl _), hU9.mono (by omega), hC9.mono (by omega)⟩
          have HR9 := Lib.hid (HR8.out.below hb9 (by omega))
          have HX9 := Lib.hid (HX8.out.below hb9 (by omega))
          have HS9 := Lib.hid (HS8.out.below hb9 (by omega))
          have HO9 := Lib.hid (HO8.out.then_below (hb9.mono (by omega)))
          have x90 := HX9.out.cell (i := 0) rfl
          have x91 := HX9.out.cell (i := 1) rfl
          have f90 := HX9.out.frozen 0
          have f91 := HX9.out.frozen 1
          clear hA9 hU9 hC9 hb9
          refine hK.out _ _ (fun _ => ?_) (fun hHeld => ?_)
          rotate_left
          replace hHeld := hHeld (by kernel_rfl)
          clear hK K
          try simp only [Act.put, List.setIfInBounds_toArray, List.set_cons_zero, List.set_cons_succ]
          rotate_right
          · exact ⟨x90, x91⟩
          refine wpAnyU.take (i := 7) [10] (v := ?_) rfl (by kernel_rfl) (by kernel_rfl) (by kernel_rfl) (by kernel_rfl) (fun _ _ _ h => h) (Or.inl ⟨by rfl, ?_⟩) (by assumption) ?_
          rotate_left
          · (intro w hSw; (try dsimp only at hSw); go_simp <;> (with_reducible rfl))
          try simp only [Act.put, List.setIfInBounds_toArray, List.set_cons_zero, List.set_cons_succ]
          refine wpAnyU.take (i := 8) [10] (v := ?_) rfl (by kernel_rfl) (by kernel_rfl) (by kernel_rfl) (by kernel_rfl) (fun _ _ _ h => h) (Or.inl ⟨by rfl, ?_⟩) (by assumption) ?_
          rotate_left
          · (intro w hSw; (try dsimp only at hSw); go_simp <;> (with_reducible rfl))
          try simp only [Act.put, List.setIfInBounds_toArray, List.set_cons_zero, List.set_cons_succ]
          refine wpAnyU.pure_ (i := 9) (v := ?_) rfl (by kernel_rfl) (by kernel_rfl) (by kernel_rfl) (by decide) (fun _ _ _ h => h) (Or.inl ⟨by rfl, ?_⟩) (by first | exact fun _ => hHeld | exact fun h => absurd (h.symm.trans (by kernel_rfl)) Bool.false_ne_true) ?_
          rotate_left
          · (intro w _; go_simp <;> (with_reducible rfl))
          try simp only [Act.put, List.setIfInBounds_toArray, List.set_cons_zero, List.set_cons_succ]
          refine wpAnyU.one (i := 10) (by kernel_rfl) rfl (fun K hK => ?_)
          go_simp
          refine hK.out _ _ (fun h => absurd (h.symm.trans (by kernel_rfl)) Bool.false_ne_true) (fun _ => ?_)
          clear hK K
          try simp only [Act.put, List.setIfInBounds_toArray, List.set_cons_zero, List.set_cons_succ]
          refine wpAnyU.done (by kernel_rfl) ?_ _
          obtain ⟨wf, hwf, hXf, hCf, hof⟩ := clu_box HX9.out rfl HC9.out
          rw [← hwf]
          have hRf := HR9.out.below (hof.below (B := w.heap.size) (by omega) (by omega)) hg
          have hSf := HS9.out.only hof (.inl (by omega))
          have hOf := HO9.out.then_below (hof.below (B := w.heap.size) (by omega) (by omega))
          have hsf := hof.size
          clear hwf hof hHeld
          go_wp2_with fail
          exact ⟨⟨k + 1, p' + 1 + 1 + 1, _, _, by omega, by go_num, hRf, by omega, hXf, hCf, hSf, hOf, by omega⟩, by simp [intOf]; omega⟩
        · have hob : (v6 == 1) = false := by simpa using ho
          have HU6d : Hid (OwnU w6.drew w.heap.size B d us) := Lib.hid (HU6.out.below (Below.refl _ _).drew)
          have hsd6 : w6.drew.heap.size = w6.heap.size := rfl
          go_wp2_with fail
          refine wp_region_U (fun w' => w'.cell? ⟨X, 0, none⟩ = some (.slice A room.length c) ∧ w'.cell? ⟨X, 1, none⟩ = some (.slice B us.length d)) 13 (by kernel_rfl) ⟨x60, x61⟩ (fun hHeld => ?_)
          refine wpAnyU.take (i := 0) [13] (v := ?_) rfl (by kernel_rfl) (by kernel_rfl) (by kernel_rfl) (by kernel_rfl) (fun _ _ _ h => h) (Or.inl ⟨by rfl, ?_⟩) (by assumption) ?_
          rotate_left
          · (intro w hSw; (try dsimp only at hSw); go_simp <;> (with_reducible rfl))
          try simp only [Act.put, List.setIfInBounds_toArray, List.set_cons_zero, List.set_cons_succ]
          refine wpAnyU.take (i := 1) [13] (v := ?_) rfl (by kernel_rfl) (by kernel_rfl) (by kernel_rfl) (by kernel_rfl) (fun _ _ _ h => h) (Or.inl ⟨by rfl, ?_⟩) (by assumption) ?_
          rotate_left
          · (intro w hSw; (try dsimp only at hSw); go_simp <;> (with_reducible rfl))
          try simp only [Act.put, List.setIfInBounds_toArray, List.set_cons_zero, List.set_cons_succ]
          refine wpAnyU.take (i := 2) [13] (v := ?_) rfl (by kernel_rfl) (by kernel_rfl) (by kernel_rfl) (by kernel_rfl) (fun _ _ _ h => h) (Or.inl ⟨by rfl, ?_⟩) (by assumption) ?_
          rotate_left
          · (intro w hSw; (try dsimp only at hSw); go_simp <;> (with_reducible rfl))
          try simp only [Act.put, List.setIfInBounds_toArray, List.set_cons_zero, List.set_cons_succ]
          refine wpAnyU.take (i := 6) [13] (v := ?_) rfl (by kernel_rfl) (by kernel_rfl) (by kernel_rfl) (by kernel_rfl) (fun _ _ _ h => h) (Or.inl ⟨by rfl, ?_⟩) (by assumption) ?_
          rotate_left
          · (intro w hSw; (try dsimp only at hSw); go_simp <;> (with_reducible rfl))
          try simp only [Act.put, List.setIfInBounds_toArray, List.set_cons_zero, List.set_cons_succ]
          refine wpAnyU.one (i := 3) (by kernel_rfl) rfl (fun K hK => ?_)
          go_simp
          go_at_call 17
          refine (pick_any g (p' + 1) 14 w6.drew HR6.out (by omega) (by omega)).mono ?_
          rintro e w7 ⟨v7, rfl, hv70, hv71, hR7, hO7, hs7⟩
          go_wp2_with fail
          have HR7 := Lib.hid hR7
          have HX7 : Hid (Blk w7 X 28 [.slice A room.length c, .slice B us.length d]) := Lib.hid (HX6.out.only (w := w6.drew) hO7 (.inr (by omega)))
          have HS7 : Hid (Blk w7 w.heap.size 28 [.slice none 0 0, .slice none 0 0]) := Lib.hid (HS6.out.only (w := w6.drew) hO7 (.inr (by omega)))
          have HA7 : Hid (IntsE 3 w7 w.heap.size w7.heap.size A c room) := Lib.hid ((IntsE.only (w := w6.drew) HA6.out hO7 (.inr (by omega)) (Nat.le_refl _)).mono (Nat.le_refl _) hO7.size)
          have HU7 : Hid (OwnU w7 w.heap.size B d us) := Lib.hid (OwnU.only (w := w6.drew) HU6d.out hO7 (by omega))
          have HO7 : Hid (Only g (g + 1) w w7) := Lib.hid (Only.trans (w' := w6.drew) (Only.drew HO6.out) hO7)
          have hsz7 : w6.heap.size ≤ w7.heap.size := by have := hO7.size; exact this
          have x70 := HX7.out.cell (i := 0) rfl
          have x71 := HX7.out.cell (i := 1) rfl
          clear hR7 hO7 hs7
          refine hK.out _ _ (fun _ => ?_) (fun hHeld => ?_)
          rotate_left
          replace hHeld := hHeld (by kernel_rfl)
          clear hK K
          try simp only [Act.put, List.setIfInBounds_toArray, List.set_cons_zero, List.set_cons_succ]
          rotate_right
          · exact ⟨x70, x71⟩
          have hw7 : IntKind.i64.wrap (1 + v7) = 1 + v7 := wrap_small (by omega)
          refine wpAnyU.take (i := 4) [13] (v := ?_) rfl (by kernel_rfl) (by kernel_rfl) (by kernel_rfl) (by kernel_rfl) (fun _ _ _ h => h) (Or.inl ⟨by rfl, ?_⟩) (by assumption) ?_
          rotate_left
          · (intro w hSw; (try dsimp only at hSw); go_simp <;> (with_reducible rfl))
          try simp only [Act.put, List.setIfInBounds_toArray, List.set_cons_zero, List.set_cons_succ]
          refine wpAnyU.one (i := 5) (by kernel_rfl) rfl (fun K hK => ?_)
          go_simp
          go_at_call 44
          refine (l91TaskB_any g (p' + 1 + 1) (1 + v7) w7 HR7.out (by omega)).mono ?_
          rintro e wt ⟨tb, tx, ty, tz, pt, rfl, hBt, htb0, htb1, htx, hty, htz, hRt, hpt0, hpt1, hOt⟩
          go_wp2_with fail
          have HRt := Lib.hid hRt
          have HXt := Lib.hid (HX7.out.only hOt (.inr (by omega)))
          have HSt := Lib.hid (HS7.out.only hOt (.inr (by omega)))
          have HAt := Lib.hid ((HA7.out.only hOt (.inr (by omega)) (Nat.le_refl _)).mono (Nat.le_refl _) hOt.size)
          have HUt := Lib.hid (HU7.out.only hOt (by omega))
          have HOt := Lib.hid (HO7.out.trans hOt)
          have hszt : w6.heap.size ≤ wt.heap.size := by have := hOt.size; omega
          have HTt : Hid (Ints wt w.heap.size wt.heap.size (some ⟨tb, 0, none⟩) 3 [tx, ty, tz]) := Lib.hid ((Ints.of_blk (zs := [tx, ty, tz]) hBt (by simp [maxLen])).mono (by omega) (by omega))
          have HGt : Hid (GoodN [tx, ty, tz]) := Lib.hid ⟨rfl, by intro z hz; simp at hz; omega⟩
          have xt0 := HXt.out.cell (i := 0) rfl
          have xt1 := HXt.out.cell (i := 1) rfl
          clear hRt hOt hBt
          refine hK.out _ _ (fun _ => ?_) (fun hHeld => ?_)
          rotate_left
          replace hHeld := hHeld (by kernel_rfl)
          clear hK K
          try simp only [Act.put, List.setIfInBounds_toArray, List.set_cons_zero, List.set_cons_succ]
          rotate_right
          · exact ⟨xt0, xt1⟩
          refine wpAnyU.one (i := 7) (by kernel_rfl) rfl (fun K hK => ?_)
          go_simp
          go_at_call 17
          refine (pick_any g (pt) 3 wt HRt.out (by omega) (by omega)).mono ?_
          rintro e w8 ⟨v8, rfl, hv80, hv81, hR8, hO8, hs8⟩
          go_wp2_with fail
          have HR8 := Lib.hid hR8
          have HX8 : Hid (Blk w8 X 28 [.slice A room.length c, .slice B us.length d]) := Lib.hid (HXt.out.only (w := wt) hO8 (.inr (by omega)))
          have HS8 : Hid (Blk w8 w.heap.size 28 [.slice none 0 0, .slice none 0 0]) := Lib.hid (HSt.out.only (w := wt) hO8 (.inr (by omega)))
          have HA8 : Hid (IntsE 3 w8 w.heap.size w8.heap.size A c room) := Lib.hid ((IntsE.only (w := wt) HAt.out hO8 (.inr (by omega)) (Nat.le_refl _)).mono (Nat.le_refl _) hO8.size)
          have HU8 : Hid (OwnU w8 w.heap.size B d us) := Lib.hid (OwnU.only (w := wt) HUt.out hO8 (by omega))
          have HO8 : Hid (Only g (g + 1) w w8) := Lib.hid (Only.trans (w' := wt) HOt.out hO8)
          have hsz8 : w6.heap.size ≤ w8.heap.size := by have := hO8.size; omega
          have x80 := HX8.out.cell (i := 0) rfl
          have x81 := HX8.out.cell (i := 1) rfl
          have HT8 : Hid (Ints w8 w.heap.size w8.heap.size (some ⟨tb, 0, none⟩) 3 [tx, ty, tz]) := Lib.hid ((HTt.out.only hO8 (.inr (by omega)) (Nat.le_refl _)).mono (Nat.le_refl _) hO8.size)
          clear hR8 hO8 hs8
          refine hK.out _ _ (fun _ => ?_) (fun hHeld => ?_)
          rotate_left
          replace hHeld := hHeld (by kernel_rfl)
          clear hK K
          try simp only [Act.put, List.setIfInBounds_toArray, List.set_cons_zero, List.set_cons_succ]
          rotate_right
          · exact ⟨x80, x81⟩
          refine wpAnyU.take (i := 8) [13] (v := ?_) rfl (by kernel_rfl) (by kernel_rfl) (by kernel_rfl) (by kernel_rfl) (fun _ _ _ h => h) (Or.inl ⟨by rfl, ?_⟩) (by assumption) ?_
          rotate_left
          · (intro w hSw; (try dsimp only at hSw); go_simp <;> (with_reducible rfl))
          try simp only [Act.put, List.setIfInBounds_toArray, List.set_cons_zero, List.set_cons_succ]
          refine wpAnyU.one (i := 9) (by kernel_rfl) rfl (fun K hK => ?_)
          go_simp
          go_at_call 43
          refine (clusterArriveS_any A B (some ⟨tb, 0, none⟩) c d 3 k _ _ _ _ _ _ room [tx, ty, tz] (1 + v7) _ us w8 HA8.out.1 HU8.out.units HC.out hkk HT8.out HGt.out (Nat.le_refl _) (Nat.le_refl _) (Nat.le_refl _)).mono ?_
          rintro e w9 ⟨v9, code, rfl, ⟨A9, c9, B9, d9, room9, us9, rfl, hA9, hU9, hC9⟩, hb9⟩
          go_wp2_with fail
          have hs9 := hb9.size
          have HC9 : Hid (Clu w9 w.heap.size (k + 1) (.agg #[.slice A9 room9.length c9, .slice B9 us9.length d9])) := Lib.hid ⟨A9, c9, B9, d9, room9, us9, rfl, hA9.mono (by omega) (Nat.le_refl _), hU9.mono (by omega), hC9.mono (by omega)⟩
          have HR9 := Lib.hid (HR8.out.below hb9 (by omega))
          have HX9 := Lib.hid (HX8.out.below hb9 (by omega))
          have HS9 := Lib.hid (HS8.out.below hb9 (by omega))
          have HO9 := Lib.hid (HO8.out.then_below (hb9.mono (by omega)))
          have x90 := HX9.out.cell (i := 0) rfl
          have x91 := HX9.out.cell (i := 1) rfl
          have f90 := HX9.out.frozen 0
          have f91 := HX9.out.frozen 1
          clear hA9 hU9 hC9 hb9
          refine hK.out _ _ (fun _ => ?_) (fun hHeld => ?_)
          rotate_left
          replace hHeld := hHeld (by kernel_rfl)
          clear hK K
          try simp only [Act.put, List.setIfInBounds_toArray, List.set_cons_zero, List.set_cons_succ]
          rotate_right
          · exact ⟨x90, x91⟩
          refine wpAnyU.take (i := 10) [13] (v := ?_) rfl (by kernel_rfl) (by kernel_rfl) (by kernel_rfl) (by kernel_rfl) (fun _ _ _ h => h) (Or.inl ⟨by rfl, ?_⟩) (by assumption) ?_
          rotate_left
          · (intro w hSw; (try dsimp only at hSw); go_simp <;> (with_reducible rfl))
          try simp only [Act.put, List.setIfInBounds_toArray, List.set_cons_zero, List.set_cons_succ]
          refine wpAnyU.take (i := 11) [13] (v := ?_) rfl (by kernel_rfl) (by kernel_rfl) (by kernel_rfl) (by kernel_rfl) (fun _ _ _ h => h) (Or.inl ⟨by rfl, ?_⟩) (by assumption) ?_
          rotate_left
          · (intro w hSw; (try dsimp only at hSw); go_simp <;> (with_reducible rfl))
          try simp only [Act.put, List.setIfInBounds_toArray, List.set_cons_zero, List.set_cons_succ]
          refine wpAnyU.pure_ (i := 12) (v := ?_) rfl (by kernel_rfl) (by kernel_rfl) (by kernel_rfl) (by decide) (fun _ _ _ h => h) (Or.inl ⟨by rfl, ?_⟩) (by first | exact fun _ => hHeld | exact fun h => absurd (h.symm.trans (by kernel_rfl)) Bool.false_ne_true) ?_
          rotate_left
          · (intro w _; go_simp <;> (with_reducible rfl))
          try simp only [Act.put, List.setIfInBounds_toArray, List.set_cons_zero, List.set_cons_succ]
          refine wpAnyU.one (i := 13) (by kernel_rfl) rfl (fun K hK => ?_)
          go_simp
          refine hK.out _ _ (fun h => absurd (h.symm.trans (by kernel_rfl)) Bool.false_ne_true) (fun _ => ?_)
          clear hK K
          try simp only [Act.put, List.setIfInBounds_toArray, List.set_cons_zero, List.set_cons_succ]
          refine wpAnyU.done (by kernel_rfl) ?_ _
          obtain ⟨wf, hwf, hXf, hCf, hof⟩ := clu_box HX9.out rfl HC9.out
          rw [← hwf]
          have hRf := HR9.out.below (hof.below (B := w.heap.size) (by omega) (by omega)) hg
          have hSf := HS9.out.only hof (.inl (by omega))
          have hOf := HO9.out.then_below (hof.below (B := w.heap.size) (by omega) (by omega))
          have hsf := hof.size
          clear hwf hof hHeld
          go_wp2_with fail
          exact ⟨⟨k + 1, pt + 1, _, _, by omega, by go_num, hRf, by omega, hXf, hCf, hSf, hOf, by omega⟩, by simp [intOf]; omega⟩
    · have hkn : k = nv := by omega
      have hk15 : k ≤ 16 := by omega
      obtain rfl := hkn
      have x0 := HX.out.cell (i := 0) rfl
      have x1 := HX.out.cell (i := 1) rfl
      by_cases hus : us.length = 0
      · have hui : ¬ ((0 : Int) < (us.length : Int)) := by omega
        have z0 := HS.out.cell (i := 0) rfl
        have z1 := HS.out.cell (i := 1) rfl
        have zf0 := HS.out.frozen 0
        have zf1 := HS.out.frozen 1
        have HW := Lib.hid (CluW.of HC.out hk15 HA.out HU.out)
        clear hus
        go_wp2_with fail
        obtain ⟨wf, hwf, r0, r1, hgen⟩ := genC_ret (p := p) HS.out HW.out HR.out HO.out (by omega) hg
        rw [← hwf]
        refine bodyPost_ret (v := .agg #[.slice A room.length c, .slice B us.length d]) (by simp [results, Try.results29, go_sem, r0, r1]) rfl hgen
      have hui : (0 : Int) < (us.length : Int) := by omega
      have hfew := HC.out.few
      go_wp2_with fail
      refine (pick_any g p' (us.length : Int) wr HR.out (by omega) (by omega)).mono ?_
      rintro e w6 ⟨kk, rfl, h60, h61, hR6, hO6, hs6⟩
      have HR6 := Lib.hid hR6
      have HX6 := Lib.hid (HX.out.only hO6 (.inr (by omega)))
      have HS6 := Lib.hid (HS.out.only hO6 (.inr (by omega)))
      have HA6 := Lib.hid ((HA.out.only hO6 (.inr (by omega)) (Nat.le_refl _)).mono (Nat.le_refl _) hO6.size)
      have HU6 := Lib.hid (HU.out.only hO6 (by omega))
      have HO6 := Lib.hid (HO.out.trans hO6)
      clear hR6 hO6 HR HX HS HO HA HU x0 x1
      obtain ⟨j, rfl⟩ : ∃ n : Nat, kk = n := ⟨kk.toNat, by omega⟩
      have hju : j < us.length := by omega
      go_wp2_with fail
      refine (pick_any g (p' + 1) 40 w6 HR6.out (by omega) (by omega)).mono ?_
      rintro e w7 ⟨v7, rfl, h70, h71, hR7, hO7, hs7⟩
      have HR7 := Lib.hid hR7
      have HX7 := Lib.hid (HX6.out.only hO7 (.inr (by omega)))
      have HS7 := Lib.hid (HS6.out.only hO7 (.inr (by omega)))
      have HA7 := Lib.hid ((HA6.out.only hO7 (.inr (by omega)) (Nat.le_refl _)).mono (Nat.le_refl _) hO7.size)
      have HU7 := Lib.hid (HU6.out.only hO7 (by omega))
      have HO7 := Lib.hid (HO6.out.trans hO7)
      clear hR7 hO7 HR6 HX6 HS6 HO6 HA6 HU6
      have x70 := HX7.out.cell (i := 0) rfl
      have x71 := HX7.out.cell (i := 1) rfl
      have z70 := HS7.out.cell (i := 0) rfl
      have z71 := HS7.out.cell (i := 1) rfl
      have zf70 := HS7.out.frozen 0
      have zf71 := HS7.out.frozen 1
      have hr3 : room.length = 3 := HC.out.room3 (by rintro rfl; simp at hju)
      have HR3 := Lib.hid hr3
      clear hr3
      obtain ⟨q, u, rfl, hu, hc1, hc2, hfz, hq0, hq1⟩ := HU7.out.spot hju
      have HTK := Lib.hid hu
      have hqX : q ≠ X := fun e => by
        subst e
        exact own_ne HU7.out.row HX7.out (by decide) rfl
      have hqS : q ≠ w.heap.size := fun e => by
        subst e
        exact own_ne HU7.out.row HS7.out (by decide) rfl
      clear hu
      by_cases hz : v7 = 0
      · subst hz
        have hf9 := hfz (j * 2)
        go_wp2_with fail
        refine wp_region_U (fun w' => w'.cell? ⟨X, 1, none⟩ = some (.slice (some ⟨q, 0, none⟩) us.length d) ∧ w'.cell? ⟨q, j * 2, none⟩ = some (.bool u.op)) 10 (by kernel_rfl) ⟨x71, hc1⟩ (fun hHeld => ?_)
        refine wpAnyU.take (i := 0) [10] (v := ?_) rfl (by kernel_rfl) (by kernel_rfl) (by kernel_rfl) (by kernel_rfl) (fun _ _ _ h => h) (Or.inl ⟨by rfl, ?_⟩) (by assumption) ?_
        rotate_left
        · (intro w hSw; (try dsimp only at hSw); go_simp <;> (with_reducible rfl))
        try simp only [Act.put, List.setIfInBounds_toArray, List.set_cons_zero, List.set_cons_succ]
        refine wpAnyU.take (i := 1) [10] (v := ?_) rfl (by kernel_rfl) (by kernel_rfl) (by kernel_rfl) (by kernel_rfl) (fun _ _ _ h => h) (Or.inl ⟨by rfl, ?_⟩) (by assumption) ?_
        rotate_left
        · (intro w hSw; (try dsimp only at hSw); go_simp <;> (with_reducible rfl))
        try simp only [Act.put, List.setIfInBounds_toArray, List.set_cons_zero, List.set_cons_succ]
        refine wpAnyU.take (i := 2) [10] (v := ?_) rfl (by kernel_rfl) (by kernel_rfl) (by kernel_rfl) (by kernel_rfl) (fun _ _ _ h => h) (Or.inl ⟨by rfl, ?_⟩) (by assumption) ?_
        rotate_left
        · (intro w hSw; (try dsimp only at hSw); go_simp <;> (with_reducible rfl))
        try simp only [Act.put, List.setIfInBounds_toArray, List.set_cons_zero, List.set_cons_succ]
        refine wpAnyU.take (i := 3) [10] (v := ?_) rfl (by kernel_rfl) (by kernel_rfl) (by kernel_rfl) (by kernel_rfl) (fun _ _ _ h => h) (Or.inl ⟨by rfl, ?_⟩) (by assumption) ?_
        rotate_left
        · (intro w hSw; (try dsimp only at hSw); go_simp <;> (with_reducible rfl))
        try simp only [Act.put, List.setIfInBounds_toArray, List.set_cons_zero, List.set_cons_succ]
        refine wpAnyU.take (i := 4) [10] (v := ?_) rfl (by kernel_rfl) (by kernel_rfl) (by kernel_rfl) (by kernel_rfl) (fun _ _ _ h => h) (Or.inl ⟨by rfl, ?_⟩) (by assumption) ?_
        rotate_left
        · (intro w hSw; (try dsimp only at hSw); go_simp <;> (with_reducible rfl))
        try simp only [Act.put, List.setIfInBounds_toArray, List.set_cons_zero, List.set_cons_succ]
        refine wpAnyU.take (i := 5) [10] (v := ?_) rfl (by kernel_rfl) (by kernel_rfl) (by kernel_rfl) (by kernel_rfl) (fun _ _ _ h => h) (Or.inl ⟨by rfl, ?_⟩) (by assumption) ?_
        rotate_left
        · (intro w hSw; (try dsimp only at hSw); go_simp <;> (with_reducible rfl))
        try simp only [Act.put, List.setIfInBounds_toArray, List.set_cons_zero, List.set_cons_succ]
        refine wpAnyU.take (i := 6) [10] (v := ?_) rfl (by kernel_rfl) (by kernel_rfl) (by kernel_rfl) (by kernel_rfl) (fun _ _ _ h => h) (Or.inl ⟨by rfl, ?_⟩) (by assumption) ?_
        rotate_left
        · (intro w hSw; (try dsimp only at hSw); go_simp <;> (with_reducible rfl))
        try simp only [Act.put, List.setIfInBounds_toArray, List.set_cons_zero, List.set_cons_succ]
        refine wpAnyU.take (i := 7) [10] (v := ?_) rfl (by kernel_rfl) (by kernel_rfl) (by kernel_rfl) (by kernel_rfl) (fun _ _ _ h => h) (Or.inl ⟨by rfl, ?_⟩) (by assumption) ?_
        rotate_left
        · (intro w hSw; (try dsimp only at hSw); go_simp <;> (with_reducible rfl))
        try simp only [Act.put, List.setIfInBounds_toArray, List.set_cons_zero, List.set_cons_succ]
        refine wpAnyU.take (i := 8) [10] (v := ?_) rfl (by kernel_rfl) (by kernel_rfl) (by kernel_rfl) (by kernel_rfl) (fun _ _ _ h => h) (Or.inl ⟨by rfl, ?_⟩) (by assumption) ?_
        rotate_left
        · (intro w hSw; (try dsimp only at hSw); go_simp <;> (with_reducible rfl))
        try simp only [Act.put, List.setIfInBounds_toArray, List.set_cons_zero, List.set_cons_succ]
        refine wpAnyU.take (i := 9) [10] (v := ?_) rfl (by kernel_rfl) (by kernel_rfl) (by kernel_rfl) (by kernel_rfl) (fun _ _ _ h => h) (Or.inl ⟨by rfl, ?_⟩) (by assumption) ?_
        rotate_left
        · (intro w hSw; (try dsimp only at hSw); go_simp <;> (with_reducible rfl))
        try simp only [Act.put, List.setIfInBounds_toArray, List.set_cons_zero, List.set_cons_succ]
        refine wpAnyU.one (i := 10) (by kernel_rfl) rfl (fun K hK => ?_)
        go_simp
        refine hK.out _ _ (fun h => absurd (h.symm.trans (by kernel_rfl)) Bool.false_ne_true) (fun _ => ?_)
        clear hK K
        try simp only [Act.put, List.setIfInBounds_toArray, List.set_cons_zero, List.set_cons_succ]
        refine wpAnyU.one (i := 11) (by kernel_rfl) rfl (fun K hK => ?_)
        go_simp
        refine hK.out _ _ (fun h => absurd (h.symm.trans (by kernel_rfl)) Bool.false_ne_true) (fun _ => ?_)
        clear hK K
        try simp only [Act.put, List.setIfInBounds_toArray, List.set_cons_zero, List.set_cons_succ]
        refine wpAnyU.one (i := 12) (by kernel_rfl) rfl (fun K hK => ?_)
        go_simp
        refine hK.out _ _ (fun h => absurd (h.symm.trans (by kernel_rfl)) Bool.false_ne_true) (fun _ => ?_)
        clear hK K
        try simp only [Act.put, List.setIfInBounds_toArray, List.set_cons_zero, List.set_cons_succ]
        refine wpAnyU.done (by kernel_rfl) ?_ _
        have hput := (HU7.out.setOp HTK.out (!u.op)).below (Below.refl _ _).drew
        have hcp := HC.out.op HTK.out (!u.op)
        have hI9 := (HA7.out.set_ (i := j * 2) HU7.out.row (by decide) (.bool (!u.op))).below (B := w7.heap.size) (Below.refl _ _).drew (Nat.le_refl _)
        obtain ⟨wg, hwg⟩ : ∃ W, W = (w7.setCell ⟨q, j * 2, none⟩ (.bool (!u.op))).drew := ⟨_, rfl⟩
        rw [← hwg] at hput hI9 ⊢
        have hog : Only q (q + 1) w7 wg := by rw [hwg]; exact ((Only.refl _ _ _).setCell (p := ⟨q, j * 2, none⟩) (Nat.le_refl _) (by simp) _).drew
        clear hwg
        have hsg := hog.size
        have hWg : CluW wg w.heap.size (.agg #[.slice A room.length c, .slice (some ⟨q, 0, none⟩) us.length d]) :=
          CluW.mk' hcp (by omega) (by rw [List.length_set]) (hI9.mono (Nat.le_refl _) hsg) hput
        have hXg := HX7.out.only hog (by omega)
        have hSg := HS7.out.only hog (by omega)
        have hRg := HR7.out.below (hog.below (B := w.heap.size) (by omega) (by have := HO7.out.size; omega)) hg
        have hOg := HO7.out.then_below (hog.below (B := w.heap.size) (by omega) (by have := HO7.out.size; omega))
        have m0 := hXg.cell (i := 0) rfl
        have m1 := hXg.cell (i := 1) rfl
        have n0 := hSg.cell (i := 0) rfl
        have n1 := hSg.cell (i := 1) rfl
        have nf0 := hSg.frozen 0
        have nf1 := hSg.frozen 1
        have HWg := Lib.hid hWg
        have HSg := Lib.hid hSg
        have HRg := Lib.hid hRg
        have HOg := Lib.hid hOg
        clear hWg hXg hSg hRg hOg hput hI9 hcp hog hHeld
        go_wp2_with fail
        obtain ⟨wf, hwf, r0, r1, hgen⟩ := genC_ret (p := p) HSg.out HWg.out HRg.out HOg.out (by omega) hg
        rw [← hwf]
        refine bodyPost_ret (v := .agg #[.slice A room.length c, .slice (some ⟨q, 0, none⟩) us.length d]) (by simp [results, Try.results29, go_sem, r0, r1]) rfl hgen
      have hzb : (v7 == 0) = false := by simpa using hz
      by_cases ho : v7 = 1
      · subst ho
        have hf9 := hfz (j * 2 + 1)
        have hqb : q < w7.drew.heap.size := hq1
        have hXb : X < w7.drew.heap.size := HX7.out.lt
        have hul := HC.out.each u (List.mem_of_getElem? HTK.out)
        go_wp2_with fail
        refine wp_region_U (fun w' => w'.cell? ⟨X, 1, none⟩ = some (.slice (some ⟨q, 0, none⟩) us.length d) ∧ w'.cell? ⟨q, j * 2 + 1, none⟩ = some (.slice u.a u.ts.length u.c)) 16 (by kernel_rfl) ⟨x71, hc2⟩ (fun hHeld => ?_)
        refine wpAnyU.take (i := 0) [16] (v := ?_) rfl (by kernel_rfl) (by kernel_rfl) (by kernel_rfl) (by kernel_rfl) (fun _ _ _ h => h) (Or.inl ⟨by rfl, ?_⟩) (by assumption) ?_
        rotate_left
        · (intro w hSw; (try dsimp only at hSw); go_simp <;> (with_reducible rfl))
        try simp only [Act.put, List.setIfInBounds_toArray, List.set_cons_zero, List.set_cons_succ]
        refine wpAnyU.take (i := 1) [16] (v := ?_) rfl (by kernel_rfl) (by kernel_rfl) (by kernel_rfl) (by kernel_rfl) (fun _ _ _ h => h) (Or.inl ⟨by rfl, ?_⟩) (by assumption) ?_
        rotate_left
        · (intro w hSw; (try dsimp only at hSw); go_simp <;> (with_reducible rfl))
        try simp only [Act.put, List.setIfInBounds_toArray, List.set_cons_zero, List.set_cons_succ]
        refine wpAnyU.take (i := 2) [16] (v := ?_) rfl (by kernel_rfl) (by kernel_rfl) (by kernel_rfl) (by kernel_rfl) (fun _ _ _ h => h) (Or.inl ⟨by rfl, ?_⟩) (by assumption) ?_
        rotate_left
        · (intro w hSw; (try dsimp only at hSw); go_simp <;> (with_reducible rfl))
        try simp only [Act.put, List.setIfInBounds_toArray, List.set_cons_zero, List.set_cons_succ]
        refine wpAnyU.take (i := 3) [16] (v := ?_) rfl (by kernel_rfl) (by kernel_rfl) (by kernel_rfl) (by kernel_rfl) (fun _ _ _ h => h) (Or.inl ⟨by rfl, ?_⟩) (by assumption) ?_
        rotate_left
        · (intro w hSw; (try dsimp only at hSw); go_simp <;> (with_reducible rfl))
        try simp only [Act.put, List.setIfInBounds_toArray, List.set_cons_zero, List.set_cons_succ]
        refine wpAnyU.take (i := 4) [16] (v := ?_) rfl (by kernel_rfl) (by kernel_rfl) (by kernel_rfl) (by kernel_rfl) (fun _ _ _ h => h) (Or.inl ⟨by rfl, ?_⟩) (by assumption) ?_
        rotate_left
        · (intro w hSw; (try dsimp only at hSw); go_simp <;> (with_reducible rfl))
        try simp only [Act.put, List.setIfInBounds_toArray, List.set_cons_zero, List.set_cons_succ]
        refine wpAnyU.take (i := 5) [16] (v := ?_) rfl (by kernel_rfl) (by kernel_rfl) (by kernel_rfl) (by kernel_rfl) (fun _ _ _ h => h) (Or.inl ⟨by rfl, ?_⟩) (by assumption) ?_
        rotate_left
        · (intro w hSw; (try dsimp only at hSw); go_simp <;> (with_reducible rfl))
        try simp only [Act.put, List.setIfInBounds_toArray, List.set_cons_zero, List.set_cons_succ]
        refine wpAnyU.take (i := 6) [16] (v := ?_) rfl (by kernel_rfl) (by kernel_rfl) (by kernel_rfl) (by kernel_rfl) (fun _ _ _ h => h) (Or.inl ⟨by rfl, ?_⟩) (by assumption) ?_
        rotate_left
        · (intro w hSw; (try dsimp only at hSw); go_simp <;> (with_reducible rfl))
        try simp only [Act.put, List.setIfInBounds_toArray, List.set_cons_zero, List.set_cons_succ]
        refine wpAnyU.take (i := 7) [16] (v := ?_) rfl (by kernel_rfl) (by kernel_rfl) (by kernel_rfl) (by kernel_rfl) (fun _ _ _ h => h) (Or.inl ⟨by rfl, ?_⟩) (by assumption) ?_
        rotate_left
        · (intro w hSw; (try dsimp only at hSw); go_simp <;> (with_reducible rfl))
        try simp only [Act.put, List.setIfInBounds_toArray, List.set_cons_zero, List.set_cons_succ]
        refine wpAnyU.take (i := 8) [16] (v := ?_) rfl (by kernel_rfl) (by kernel_rfl) (by kernel_rfl) (by kernel_rfl) (fun _ _ _ h => h) (Or.inl ⟨by rfl, ?_⟩) (by assumption) ?_
        rotate_left
        · (intro w hSw; (try dsimp only at hSw); go_simp <;> (with_reducible rfl))
        try simp only [Act.put, List.setIfInBounds_toArray, List.set_cons_zero, List.set_cons_succ]
        refine wpAnyU.take (i := 9) [16] (v := ?_) rfl (by kernel_rfl) (by kernel_rfl) (by kernel_rfl) (by kernel_rfl) (fun _ _ _ h => h) (Or.inl ⟨by rfl, ?_⟩) (by assumption) ?_
        rotate_left
        · (intro w hSw; (try dsimp only at hSw); go_simp <;> (with_reducible rfl))
        try simp only [Act.put, List.setIfInBounds_toArray, List.set_cons_zero, List.set_cons_succ]
        refine wpAnyU.take (i := 10) [16] (v := ?_) rfl (by kernel_rfl) (by kernel_rfl) (by kernel_rfl) (by kernel_rfl) (fun _ _ _ h => h) (Or.inl ⟨by rfl, ?_⟩) (by assumption) ?_
        rotate_left
        · (intro w hSw; (try dsimp only at hSw); go_simp <;> (with_reducible rfl))
        try simp only [Act.put, List.setIfInBounds_toArray, List.set_cons_zero, List.set_cons_succ]
        refine wpAnyU.one (i := 11) (by kernel_rfl) rfl (fun K hK => ?_)
        go_simp
        go_at_call 17
        refine (pick_any g (p' + 1 + 1) 14 w7.drew HR7.out (by omega) (by omega)).mono ?_
        rintro e w8 ⟨v8, rfl, h80, h81, hR8, hO8, hs8⟩
        go_wp2_with fail
        have HR8 := Lib.hid hR8
        have HX8 : Hid (Blk w8 X 28 [.slice A room.length c, .slice (some ⟨q, 0, none⟩) us.length d]) := Lib.hid (HX7.out.only (w := w7.drew) hO8 (.inr (by omega)))
        have HS8 : Hid (Blk w8 w.heap.size 28 [.slice none 0 0, .slice none 0 0]) := Lib.hid (HS7.out.only (w := w7.drew) hO8 (.inr (by omega)))
        have HA8 : Hid (IntsE 3 w8 w.heap.size w8.heap.size A c room) := Lib.hid ((IntsE.only (w := w7.drew) HA7.out hO8 (.inr (by omega)) (Nat.le_refl _)).mono (Nat.le_refl _) hO8.size)
        have HU8 : Hid (OwnU w8 w.heap.size (some ⟨q, 0, none⟩) d us) := Lib.hid (OwnU.only (w := w7.drew) (HU7.out.below (Below.refl _ _).drew) hO8 (by omega))
        have HO8 : Hid (Only g (g + 1) w w8) := Lib.hid (Only.trans (w' := w7.drew) (Only.drew HO7.out) hO8)
        have y81 := HX8.out.cell (i := 1) rfl
        have y82 : w8.cell? ⟨q, j * 2 + 1, none⟩ = some (.slice u.a u.ts.length u.c) := keepS hO8 (by omega) hqb hc2
        have hw8 : IntKind.i64.wrap (1 + v8) = 1 + v8 := wrap_small (by omega)
        have hsz8 : w7.drew.heap.size ≤ w8.heap.size := hO8.size
        clear hR8 hO8 hs8
        refine hK.out _ _ (fun _ => ?_) (fun hHeld => ?_)
        rotate_left
        replace hHeld := hHeld (by kernel_rfl)
        clear hK K
        try simp only [Act.put, List.setIfInBounds_toArray, List.set_cons_zero, List.set_cons_succ]
        rotate_right
        · exact ⟨y81, y82⟩
        refine wpAnyU.take (i := 12) [16] (v := ?_) rfl (by kernel_rfl) (by kernel_rfl) (by kernel_rfl) (by kernel_rfl) (fun _ _ _ h => h) (Or.inl ⟨by rfl, ?_⟩) (by assumption) ?_
        rotate_left
        · (intro w hSw; (try dsimp only at hSw); go_simp <;> (with_reducible rfl))
        try simp only [Act.put, List.setIfInBounds_toArray, List.set_cons_zero, List.set_cons_succ]
        refine wpAnyU.one (i := 13) (by kernel_rfl) rfl (fun K hK => ?_)
        go_simp
        go_at_call 44
        refine (l91TaskB_any g (p' + 1 + 1 + 1) (1 + v8) w8 HR8.out (by omega)).mono ?_
        rintro e wt ⟨tb, tx, ty, tz, pt, rfl, hBt, htb0, htb1, htx, hty, htz, hRt, hpt0, hpt1, hOt⟩
        go_wp2_with fail
        have HRt := Lib.hid hRt
        have HXt := Lib.hid (HX8.out.only hOt (.inr (by omega)))
        have HSt := Lib.hid (HS8.out.only hOt (.inr (by omega)))
        have HAt := Lib.hid ((HA8.out.only hOt (.inr (by omega)) (Nat.le_refl _)).mono (Nat.le_refl _) hOt.size)
        have HUt := Lib.hid (HU8.out.only hOt (by omega))
        have HOt := Lib.hid (HO8.out.trans hOt)
        have HGt : Hid (GoodN [tx, ty, tz]) := Lib.hid ⟨rfl, by intro z hz; simp at hz; omega⟩
        have HTt : Hid (IntsE 3 wt w.heap.size wt.heap.size (some ⟨tb, 0, none⟩) 3 [tx, ty, tz]) := Lib.hid ⟨(Ints.of_blk (zs := [tx, ty, tz]) hBt (by simp [maxLen])).mono (by have : w7.drew.heap.size = w7.heap.size := rfl; omega) (by omega), fun b hb _ => by
          simp at hb; subst hb; exact ⟨_, _, hBt⟩⟩
        have xt1 := HXt.out.cell (i := 1) rfl
        have yt2 : wt.cell? ⟨q, j * 2 + 1, none⟩ = some (.slice u.a u.ts.length u.c) := keepS hOt (by omega) (by omega) y82
        have hszt := hOt.size
        have hszw : w.heap.size ≤ wt.heap.size := HOt.out.size
        have hqt : q < wt.heap.size := by omega
        have hXt : X < wt.heap.size := HXt.out.lt
        clear hRt hOt hBt
        refine hK.out _ _ (fun _ => ?_) (fun hHeld => ?_)
        rotate_left
        replace hHeld := hHeld (by kernel_rfl)
        clear hK K
        try simp only [Act.put, List.setIfInBounds_toArray, List.set_cons_zero, List.set_cons_succ]
        rotate_right
        · exact ⟨xt1, yt2⟩
        refine wpAnyU.one (i := 14) (by kernel_rfl) rfl (fun K hK => ?_)
        go_simp
        refine hK.out _ _ (fun _ => ?_) (fun hHeld => ?_)
        rotate_left
        replace hHeld := hHeld (by kernel_rfl)
        clear hK K
        try simp only [Act.put, List.setIfInBounds_toArray, List.set_cons_zero, List.set_cons_succ]
        rotate_right
        · have hb6 : Below wt.heap.size wt (wt.alloc (.cells #[.int .i64 (1 + v8), .slice (some ⟨tb, 0, none⟩) 3 3] 62)) := alloc_belowC _ _
          exact ⟨cell_belowT hb6 hXt xt1, cell_belowT hb6 hqt yt2⟩
        have HRu := Lib.hid (HUt.out.each u (List.mem_of_getElem? HTK.out)).1
        refine wpAnyU.one (i := 15) (by kernel_rfl) rfl (fun K hK => ?_)
        refine step_app1 elT rfl (.tmp 96) (.tmp 102) rfl wt _ HRu.out [.int .i64 (1 + v8), .slice (some ⟨tb, 0, none⟩) 3 3] rfl rfl ⟨rfl, rfl, rfl, rfl⟩ rfl (two_cellsT _ _ _ _) hszw (by simp only [maxLen]; omega) (by omega) ?_
        intro q9 d9 w9 hown9 hb9 hg9 hsz9 hq9
        have hX9 := HXt.out.grown hg9 (own_ne HRu.out HXt.out (by decide))
        have hS9 := HSt.out.grown hg9 (own_ne HRu.out HSt.out (by decide))
        have hR9 := ownsRow_grown HUt.out.row hg9 (own_ne2 HUt.out.row HRu.out (by decide))
        have gx1 := hX9.cell (i := 1) rfl
        have gf2 := hR9.frozenAt (j * 2 + 1)
        have gd2 : w9.cell? ⟨q, j * 2 + 1, none⟩ = some (.slice u.a u.ts.length u.c) := by
          rw [hR9.cellAt _ (by omega)]; exact (urowT_at HTK.out).2
        have hput := HUt.out.append (t := ⟨1 + v8, some ⟨tb, 0, none⟩, 3, [tx, ty, tz]⟩) HTK.out HTt.out hown9 hg9 (by omega) hq9
        have hcp := HC.out.put (m := 1) (v := ⟨u.op, some ⟨q9, 0, none⟩, d9, u.ts ++ [⟨1 + v8, some ⟨tb, 0, none⟩, 3, [tx, ty, tz]⟩]⟩) HTK.out (by simp) (fun t ht => by
          rcases List.mem_append.1 ht with h1 | h1
          · exact HC.out.good u (List.mem_of_getElem? HTK.out) t h1
          · simp only [List.mem_singleton] at h1; subst h1; exact HGt.out)
        have hA9 : IntsE 3 w9 w.heap.size w9.heap.size A c room := (HAt.out.grown hg9 HRu.out (by decide)).mono (Nat.le_refl _) (by omega)
        have hI9 := hA9.set_ (i := j * 2 + 1) hR9 (by decide) (.slice (some ⟨q9, 0, none⟩) (u.ts.length + 1) d9)
        have HO9 := Lib.hid (HOt.out.then_below hb9)
        have HR9 := Lib.hid (HRt.out.below hb9 hg)
        have HX9 := Lib.hid hX9
        have HS9 := Lib.hid hS9
        have HCP := Lib.hid hcp
        obtain ⟨wg, hwg⟩ : ∃ W, W = w9.setCell ⟨q, j * 2 + 1, none⟩ (.slice (some ⟨q9, 0, none⟩) (u.ts.length + 1) d9) := ⟨_, rfl⟩
        rw [← hwg] at hput hI9
        have hog : Only q (q + 1) w9 wg := by rw [hwg]; exact (Only.refl _ _ _).setCell (p := ⟨q, j * 2 + 1, none⟩) (Nat.le_refl _) (by simp) _
        have HWG := Lib.hid hwg
        have HPUT := Lib.hid hput
        have HI9 := Lib.hid hI9
        have HOG := Lib.hid hog
        clear hput hI9 hog hwg hA9 hcp hX9 hS9 hR9 hown9 hb9 hg9 hq9
        refine hK.out _ _ (fun _ => ?_) (fun hHeld => ?_)
        rotate_left
        replace hHeld := hHeld (by kernel_rfl)
        clear hK K
        try simp only [Act.put, List.setIfInBounds_toArray, List.set_cons_zero, List.set_cons_succ]
        rotate_right
        · exact ⟨gx1, gd2⟩
        refine wpAnyU.one (i := 16) (by kernel_rfl) rfl (fun K hK => ?_)
        go_simp
        refine hK.out _ _ (fun h => absurd (h.symm.trans (by kernel_rfl)) Bool.false_ne_true) (fun _ => ?_)
        clear hK K
        try simp only [Act.put, List.setIfInBounds_toArray, List.set_cons_zero, List.set_cons_succ]
        refine wpAnyU.one (i := 17) (by kernel_rfl) rfl (fun K hK => ?_)
        go_simp
        refine hK.out _ _ (fun h => absurd (h.symm.trans (by kernel_rfl)) Bool.false_ne_true) (fun _ => ?_)
        clear hK K
        try simp only [Act.put, List.setIfInBounds_toArray, List.set_cons_zero, List.set_cons_succ]
        refine wpAnyU.one (i := 18) (by kernel_rfl) rfl (fun K hK => ?_)
        go_simp
        refine hK.out _ _ (fun h => absurd (h.symm.trans (by kernel_rfl)) Bool.false_ne_true) (fun _ => ?_)
        clear hK K
        try simp only [Act.put, List.setIfInBounds_toArray, List.set_cons_zero, List.set_cons_succ]
        refine wpAnyU.done (by kernel_rfl) ?_ _
        rw [← HWG.out]
        have hput := HPUT.out
        have hcp := HCP.out
        have hI9 := HI9.out
        have hog := HOG.out
        have hsg := hog.size
        have hWg : CluW wg w.heap.size (.agg #[.slice A room.length c, .slice (some ⟨q, 0, none⟩) us.length d]) :=
          CluW.mk' hcp (by omega) (by rw [List.length_set]) (hI9.mono (Nat.le_refl _) hsg) hput
        have hXg := HX9.out.only hog (by omega)
        have hSg := HS9.out.only hog (by omega)
        have hRg := HR9.out.below (hog.below (B := w.heap.size) (by omega) (by have := HO9.out.size; omega)) hg
        have hOg := HO9.out.then_below (hog.below (B := w.heap.size) (by omega) (by have := HO9.out.size; omega))
        have m0 := hXg.cell (i := 0) rfl
        have m1 := hXg.cell (i := 1) rfl
        have n0 := hSg.cell (i := 0) rfl
        have n1 := hSg.cell (i := 1) rfl
        have nf0 := hSg.frozen 0
        have nf1 := hSg.frozen 1
        have HWg := Lib.hid hWg
        have HSg := Lib.hid hSg
        have HRg := Lib.hid hRg
        have HOg := Lib.hid hOg
        clear hWg hXg hSg hRg hOg hput hI9 hcp hog hHeld
        go_wp2_with fail
        obtain ⟨wf, hwf, r0, r1, hgen⟩ := genC_ret (p := p) HSg.out HWg.out HRg.out HOg.out (by omega) hg
        rw [← hwf]
        refine bodyPost_ret (v := .agg #[.slice A room.length c, .slice (some ⟨q, 0, none⟩) us.length d]) (by simp [results, Try.results29, go_sem, r0, r1]) rfl hgen
      have hob : (v7 == 1) = false := by simpa using ho
      by_cases htw : v7 = 2
      · subst htw
        have xf := HX7.out.frozen 0
        have hcl : room.length ≤ c := HA7.out.1.1
        have hc3 : ¬ c = 1 := by have := HR3.out; omega
        have hc13 : 1 ≤ room.length := by have := HR3.out; omega
        obtain ⟨rb2, ro2, rfl, _⟩ := HA7.out.1.form (show 0 < room.length by omega)
        have hI9 := (IntsE.drop1 HA7.out).far (i := 0) HX7.out (by decide) (.slice (some ⟨rb2, ro2 + 1, none⟩) (room.length - 1) (c - 1))
        have hU9 := HU7.out.far (i := 0) HX7.out (by decide) (by decide) (by decide) (.slice (some ⟨rb2, ro2 + 1, none⟩) (room.length - 1) (c - 1))
        have hX9 := HX7.out.set_ 0 (.slice (some ⟨rb2, ro2 + 1, none⟩) (room.length - 1) (c - 1))
        obtain ⟨wg, hwg⟩ : ∃ W, W = w7.setCell ⟨X, 0, none⟩ (.slice (some ⟨rb2, ro2 + 1, none⟩) (room.length - 1) (c - 1)) := ⟨_, rfl⟩
        rw [← hwg] at hI9 hU9 hX9
        have hog : Only X (X + 1) w7 wg := by rw [hwg]; exact (Only.refl _ _ _).setCell (p := ⟨X, 0, none⟩) (Nat.le_refl _) (by simp) _
        have hsg := hog.size
        have hWg : CluW wg w.heap.size (.agg #[.slice (some ⟨rb2, ro2 + 1, none⟩) (room.length - 1) (c - 1), .slice (some ⟨q, 0, none⟩) us.length d]) :=
          ⟨_, c - 1, _, d, room.drop 1, us, by rw [List.length_drop], hI9.mono (Nat.le_refl _) hsg, hU9, by rw [List.length_drop]; have := HR3.out; omega, HC.out.few, by have := HC.out.many; omega, HC.out.good⟩
        have hSg := HS7.out.only hog (by omega)
        have hRg := HR7.out.below (hog.below (B := w.heap.size) (by omega) (by have := HO7.out.size; omega)) hg
        have hOg := HO7.out.then_below (hog.below (B := w.heap.size) (by omega) (by have := HO7.out.size; omega))
        have HWg := Lib.hid hWg
        have HSg := Lib.hid hSg
        have HRg := Lib.hid hRg
        have HOg := Lib.hid hOg
        have HWG := Lib.hid hwg
        have hXS : X ≠ w.heap.size := by omega
        clear hWg hSg hRg hOg hI9 hU9 hX9 hog hwg
        go_wp2_with fail
        rw [← HWG.out]
        obtain ⟨wf, hwf, r0, r1, hgen⟩ := genC_ret (p := p) HSg.out HWg.out HRg.out HOg.out (by omega) hg
        rw [← hwf]
        refine bodyPost_ret (v := .agg #[.slice (some ⟨rb2, ro2 + 1, none⟩) (room.length - 1) (c - 1), .slice (some ⟨q, 0, none⟩) us.length d]) (by simp [results, Try.results29, go_sem, r0, r1]) rfl hgen
      · have htb : (v7 == 2) = false := by simpa using htw
        have HW := Lib.hid (CluW.of HC.out hk15 HA7.out HU7.out)
        go_wp2_with fail
        obtain ⟨wf, hwf, r0, r1, hgen⟩ := genC_ret (p := p) HS7.out HW.out HR7.out HO7.out (by omega) hg
        rw [← hwf]
        refine bodyPost_ret (v := .agg #[.slice A room.length c, .slice (some ⟨q, 0, none⟩) us.length d]) (by simp [results, Try.results29, go_sem, r0, r1]) rfl hgen
end Go.Proofs.Ytcmampicgdobcaa
