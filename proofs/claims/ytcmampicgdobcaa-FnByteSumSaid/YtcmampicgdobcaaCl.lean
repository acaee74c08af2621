/- ClusterNew, both; helpers over clusters of units without tasks. No condition but on sizes. -/
import Derived.Test.YtcmampicgdobcaaCu
import Derived.Test.YtcmampicgdobcaaTw
namespace Go.Proofs.Ytcmampicgdobcaa
open Go.RowKit
theorem alloc_belowC (w : World) (o : Obj) : Below w.heap.size w (w.alloc o) := (Below.refl _ _).alloc (Nat.le_refl _) _
/-- a new cluster: a room and n closed units without tasks, or nothing -/
def RetC (w : World) (zs : List Int) (n : Nat) (ok : Bool) (e : Ending) (w' : World) : Prop :=
  ∃ A c B d l1 h1 l2 h2, e = .returned (.tuple #[.agg #[.slice A zs.length c, .slice B n d], .bool ok]) ∧ Ints w' l1 h1 A c zs ∧ Units w' l2 h2 B n (fun _ => false) ∧ (h1 ≤ l2 ∨ h2 ≤ l1) ∧ (w.heap.size ≤ l1 ∧ h1 ≤ w'.heap.size ∧ w.heap.size ≤ l2 ∧ h2 ≤ w'.heap.size) ∧ Below w.heap.size w w'
def newOk (room : List Int) (nodes : Int) : Bool := roomB room && inB nodes 1 10
def newRoom (room : List Int) (nodes : Int) : List Int := if newOk room nodes then room else []
def newMany (room : List Int) (nodes : Int) : Nat := if newOk room nodes then nodes.toNat else 0
theorem RetC.no {w w' : World} {room : List Int} {nodes : Int} (h : newOk room nodes = false) (hb : Below w.heap.size w w') : RetC w (newRoom room nodes) (newMany room nodes) (newOk room nodes) (.returned (.tuple #[.agg #[.slice none 0 0, .slice none 0 0], .bool false])) w' := by
  have e1 : newRoom room nodes = [] := by simp [newRoom, h]
  have e2 : newMany room nodes = 0 := by simp [newMany, h]
  rw [h, e1, e2]
  exact ⟨none, 0, none, 0, w.heap.size, w.heap.size, w.heap.size, w.heap.size, rfl, ⟨by simp, by simp [maxLen], .inl rfl⟩, .inl rfl, .inl (Nat.le_refl _), ⟨Nat.le_refl _, hb.size, Nat.le_refl _, hb.size⟩, hb⟩
theorem cloneI_any (A : Option Addr) (c lo hi : Nat) (ys : List Int) (w : World) (hI : Ints w lo hi A c ys) (hl : ys.length ≤ 1000) (h0 : 0 < ys.length) (h1 : hi ≤ w.heap.size) :
    Calls Try.prog 20 #[.slice A ys.length c] w fun e w' => ∃ A' c', e = .returned (.slice A' ys.length c') ∧ Ints w' w.heap.size w'.heap.size A' c' ys ∧ Below w.heap.size w w' := by
  obtain ⟨b, off, rfl, _⟩ := hI.form h0
  have HI := Lib.hid hI; clear hI
  have hq := fun W => Lib.run_eql_slice_nil (P := Try.prog) W 23 3 (some ⟨b, off, none⟩) ys.length c 0 0 Try.underlying23
  have HB := Lib.hid (show Below w.heap.size w (w.alloc (.cells #[] 3)) from (Below.refl _ _).alloc (Nat.le_refl _) _)
  have HIr := Lib.hid ((HI.out.below HB.out h1).r)
  have hs : w.heap.size ≤ (w.alloc (.cells #[] 3)).heap.size := by simp
  go_enter Try.func20, Try.ntmps20
  go_wp2_with (at_builtin; refine wpList_appI elI rfl (.tmp 5) (.tmp 6) rfl _ (ownsRow_empty w 3 1) (some ⟨b, off, none⟩) ys.length c ys rfl rfl rfl HIr.out hs (by omega) ?_; intro A2 c2 w2 hown hb2 _; have HO := Lib.hid hown; have HB2 := Lib.hid hb2; clear hown hb2)
  have hn : 0 + ys.length = ys.length := by omega
  obtain ⟨A3, c3, he, _, hI3⟩ := Ints.of_own (ys := ys) (by have := HO.out; rw [hn, List.nil_append] at this; exact this)
  have HE := Lib.hid he
  have HI3 := Lib.hid hI3
  clear he hI3
  go_ret
  exact ⟨A3, c3, by rw [← HE.out]; simp, HI3.out, HB.out.trans HB2.out⟩
theorem madeCells_units (n : Nat) : ∀ j, j < n → (madeCells #[Value.bool false, .slice none 0 0] (n * 2))[j * 2]? = some (.bool false) ∧ (madeCells #[Value.bool false, .slice none 0 0] (n * 2))[j * 2 + 1]? = some (.slice none 0 0) := by
  intro j hj
  have e1 : (j * 2) % 2 = 0 := by omega
  have e2 : (j * 2 + 1) % 2 = 1 := by omega
  have l1 : j * 2 < n * 2 := by omega
  have l2 : j * 2 + 1 < n * 2 := by omega
  simp [madeCells, e1, e2, l1, l2]
theorem units_made (w : World) (t : TypeId) (n : Nat) : Units (w.alloc (.cells (madeCells #[Value.bool false, .slice none 0 0] (n * 2)) t)) w.heap.size (w.heap.size + 1) (some ⟨w.heap.size, 0, none⟩) n (fun _ => false) := by
  have hP : Blk (w.alloc (.cells (madeCells #[Value.bool false, .slice none 0 0] (n * 2)) t)) w.heap.size t (madeCells #[Value.bool false, .slice none 0 0] (n * 2)).toList := by
    have := Blk.new w t (madeCells #[Value.bool false, .slice none 0 0] (n * 2)).toList
    rwa [Array.toArray_toList] at this
  refine .inr ⟨w.heap.size, 0, rfl, Nat.le_refl _, by omega, fun j hj => ?_⟩
  obtain ⟨e1, e2⟩ := madeCells_units n j hj
  refine ⟨hP.frozen _, ?_, none, 0, Nat.zero_le _, ?_⟩
  · rw [Nat.zero_add]; exact hP.cell (by rw [Array.getElem?_toList]; exact e1)
  · rw [Nat.zero_add]; exact hP.cell (by rw [Array.getElem?_toList]; exact e2)
theorem roomB_len {ys : List Int} (h : roomB ys = true) : ys.length = 3 := by
  simp only [roomB, Bool.and_eq_true] at h
  exact vec_len (by first | exact h.1 | exact h.2 | exact h.1.1)
set_option maxHeartbeats 1000000 in
theorem clusterNew_any (A : Option Addr) (c lo hi : Nat) (room : List Int) (nodes : Int) (w : World) (hI : Ints w lo hi A c room) (hl : room.length ≤ 1048576) (h1 : hi ≤ w.heap.size) :
    Calls Try.prog 6 #[.slice A room.length c, .int .i64 nodes] w (RetC w (newRoom room nodes) (newMany room nodes) (newOk room nodes)) := by
  obtain ⟨vr, hvr⟩ : ∃ v, roomB room = v := ⟨_, rfl⟩
  obtain ⟨vn, hvn⟩ : ∃ v, inB nodes 1 10 = v := ⟨_, rfl⟩
  have HVR := Lib.hid hvr
  have HVN := Lib.hid hvn
  have HZ : Hid (Blk (w.alloc (.cells #[.slice none 0 0, .slice none 0 0] 28)) w.heap.size 28 [.slice none 0 0, .slice none 0 0]) := Lib.hid (Blk.new w _ [.slice none 0 0, .slice none 0 0])
  have HB := Lib.hid (alloc_belowC w (.cells #[.slice none 0 0, .slice none 0 0] 28))
  have HI := Lib.hid (hI.below HB.out h1)
  clear hI hvr hvn
  cases vr
  · have HE : Hid (newOk room nodes = false) := Lib.hid (by simp [newOk, HVR.out])
    go_enter Try.func6, Try.ntmps6
    go_wp2_with fail
    refine (roomValid_any A c _ _ room _ HI.out hl).mono ?_; rintro e w' ⟨rfl, rfl⟩
    rw [HVR.out]
    go_wp2_with fail
    have r0 := HZ.out.cell (i := 0) rfl
    have r1 := HZ.out.cell (i := 1) rfl
    refine bodyPost_ret (v := .tuple #[.agg #[.slice none 0 0, .slice none 0 0], .bool false]) (by simp [results, Try.results6, go_sem, r0, r1]) rfl ?_
    exact RetC.no HE.out HB.out
  cases vn
  · have HE : Hid (newOk room nodes = false) := Lib.hid (by simp [newOk, HVN.out])
    go_enter Try.func6, Try.ntmps6
    go_wp2_with fail
    refine (roomValid_any A c _ _ room _ HI.out hl).mono ?_; rintro e w' ⟨rfl, rfl⟩
    rw [HVR.out]
    go_wp2_with fail
    refine (within_any nodes 1 10 _).mono ?_; rintro e w' ⟨rfl, rfl⟩
    rw [HVN.out]
    go_wp2_with fail
    have r0 := HZ.out.cell (i := 0) rfl
    have r1 := HZ.out.cell (i := 1) rfl
    refine bodyPost_ret (v := .tuple #[.agg #[.slice none 0 0, .slice none 0 0], .bool false]) (by simp [results, Try.results6, go_sem, r0, r1]) rfl ?_
    exact RetC.no HE.out HB.out
  have HE : Hid (newOk room nodes = true) := Lib.hid (by simp [newOk, HVR.out, HVN.out])
  have hnb := inB_of HVN.out
  obtain ⟨n, rfl⟩ : ∃ n : Nat, nodes = n := ⟨nodes.toNat, by omega⟩
  have hn10 : n ≤ 10 := by omega
  have hr3 := roomB_len HVR.out
  have hr3' : room.length ≤ 3 := Nat.le_of_eq hr3
  have hr0 : 0 < room.length := by omega
  clear hr3
  have hmk : ∀ W : World, (Instr.makeSlice 26 (.int .i64 (n : Int)) (.int .i64 (n : Int))).run Try.prog W = .ok (.slice (some ⟨W.heap.size, 0, none⟩) n n) (W.alloc (.cells (madeCells #[Value.bool false, .slice none 0 0] (n * 2)) 48)) := by
    intro W
    obtain ⟨i1, j1, j2, j3, j4⟩ := info_parts (P := Try.prog) (e := 48) (z := .agg #[.bool false, .slice none 0 0]) (size := 2) (bytes := 32) (by kernel_rfl)
    have := run_make (P := Try.prog) W 26 48 i1 (.agg #[.bool false, .slice none 0 0]) Try.underlying26 j1 j2 .i64 .i64 (n : Int) (n : Int) (by omega) (Int.le_refl _) (by rw [j4]; omega) (by omega)
    rw [j3] at this
    have e : (Value.agg #[.bool false, .slice none 0 0]).cells = #[Value.bool false, .slice none 0 0] := rfl
    rw [e] at this
    simpa using this
  obtain ⟨w0, hw0⟩ : ∃ W, W = w.alloc (.cells #[.slice none 0 0, .slice none 0 0] 28) := ⟨_, rfl⟩
  have HW0 := Lib.hid hw0
  rw [← hw0] at HZ HB HI
  have hs0 : w.heap.size + 1 ≤ w0.heap.size := by rw [hw0]; simp
  have HC : Hid (∀ W, Below w0.heap.size w0 W → Calls Try.prog 20 #[.slice A room.length c] W fun e w' => ∃ A' c', e = .returned (.slice A' room.length c') ∧ Ints w' W.heap.size w'.heap.size A' c' room ∧ Below W.heap.size W w') := Lib.hid (fun W hb => cloneI_any A c _ _ room W (HI.out.below hb (by omega)) (by omega) hr0 (by have := hb.size; omega))
  clear hw0
  go_enter Try.func6, Try.ntmps6
  go_wp2_with fail
  rw [← HW0.out]
  refine (roomValid_any A c _ _ room _ HI.out hl).mono ?_; rintro e w' ⟨rfl, rfl⟩
  rw [HVR.out]
  go_wp2_with fail
  refine (within_any (n : Int) 1 10 _).mono ?_; rintro e w' ⟨rfl, rfl⟩
  rw [HVN.out]
  go_wp2_with fail
  have hL1 : w.heap.size < w0.drew.heap.size := by show w.heap.size < w0.heap.size; omega
  have hL2 : w.heap.size < (w0.alloc (.cells (madeCells #[Value.bool false, .slice none 0 0] (n * 2)) 48)).drew.heap.size := by show w.heap.size < (w0.alloc _).heap.size; simp; omega
  have hb1 : Below w0.heap.size w0 w0.drew := (Below.refl _ _).drew
  have hb2 : Below w0.heap.size w0 (w0.alloc (.cells (madeCells #[Value.bool false, .slice none 0 0] (n * 2)) 48)).drew := ((Below.refl _ _).alloc (Nat.le_refl _) _).drew
  have HK1 := Lib.hid hb1
  have HK2 := Lib.hid hb2
  have HU2 : Hid (Units (w0.alloc (.cells (madeCells #[Value.bool false, .slice none 0 0] (n * 2)) 48)).drew w0.heap.size (w0.heap.size + 1) (some ⟨w0.heap.size, 0, none⟩) n (fun _ => false)) := Lib.hid (units_made w0 48 n)
  have r0 : w0.drew.cell? ⟨w.heap.size, 0, none⟩ = some (.slice none 0 0) := HZ.out.cell (i := 0) rfl
  have r1 : w0.drew.cell? ⟨w.heap.size, 1, none⟩ = some (.slice none 0 0) := HZ.out.cell (i := 1) rfl
  have f0 : w0.drew.frozen? ⟨w.heap.size, 0, none⟩ = false := HZ.out.frozen 0
  have f1 : w0.drew.frozen? ⟨w.heap.size, 1, none⟩ = false := HZ.out.frozen 1
  clear hb1 hb2
  have hfz : ∀ (W : World) (o : Obj) (k : Nat), w.heap.size < W.heap.size → (W.alloc o).frozen? ⟨w.heap.size, k, none⟩ = W.frozen? ⟨w.heap.size, k, none⟩ := fun W o k h => (alloc_belowC W o).frozen (p := ⟨w.heap.size, k, none⟩) h
  go_region_held3 (fun _ => True) (trivial)
    (first
      | (go_at_call 20; (with_reducible refine (HC.out w0.drew HK1.out).mono ?_); rintro e w5 ⟨A5, c5, rfl, hI5, hb5⟩; have HI5 := Lib.hid hI5; have HB5 := Lib.hid hb5; have r0 := cell_belowU hb5 hL1 r0; have r1 := cell_belowU hb5 hL1 r1; have f0 := (hb5.frozen (p := ⟨w.heap.size, 0, none⟩) hL1).trans f0; have f1 := (hb5.frozen (p := ⟨w.heap.size, 1, none⟩) hL1).trans f1; have hs5 : w0.heap.size ≤ w5.heap.size := hb5.size; have hL5 : w.heap.size < w5.heap.size := (by omega); clear hI5 hb5)
      | (go_at_call 20; (with_reducible refine (HC.out _ HK2.out).mono ?_); rintro e w5 ⟨A5, c5, rfl, hI5, hb5⟩; have HI5 := Lib.hid hI5; have HB5 := Lib.hid hb5; have r0 := cell_belowU hb5 hL2 ((cell_belowU (HK2.out.mono (show w.heap.size + 1 ≤ w0.heap.size by omega)) (Nat.lt_succ_self _) r0)); have r1 := cell_belowU hb5 hL2 ((cell_belowU (HK2.out.mono (show w.heap.size + 1 ≤ w0.heap.size by omega)) (Nat.lt_succ_self _) r1)); have f0 := (hb5.frozen (p := ⟨w.heap.size, 0, none⟩) hL2).trans ((HK2.out.frozen (p := ⟨w.heap.size, 0, none⟩) (by show w.heap.size < w0.heap.size; omega)).trans f0); have f1 := (hb5.frozen (p := ⟨w.heap.size, 1, none⟩) hL2).trans ((HK2.out.frozen (p := ⟨w.heap.size, 1, none⟩) (by show w.heap.size < w0.heap.size; omega)).trans f1); have hs5 : w0.heap.size + 1 ≤ w5.heap.size := (by have h9 := hb5.size; have h8 : (w0.alloc (.cells (madeCells #[Value.bool false, .slice none 0 0] (n * 2)) 48)).drew.heap.size = w0.heap.size + 1 := (by show (w0.alloc _).heap.size = _; simp); omega); clear hI5 hb5))
  · have hz5 := HZ.out.drew.below HB5.out hL1
    have hs : ∀ k v, (w5.setCell ⟨w.heap.size, k, none⟩ v).heap.size = w5.heap.size := fun k v => by simp [World.setCell]
    obtain ⟨w6, hw6⟩ : ∃ W, W = (w5.setCell ⟨w.heap.size, 0, none⟩ (.slice A5 room.length c5)).setCell ⟨w.heap.size, 1, none⟩ (.slice (some ⟨w5.heap.size, 0, none⟩) n n) := ⟨_, rfl⟩
    have hs6 : w6.heap.size = w5.heap.size := by rw [hw6]; simp [World.setCell]
    rw [← hw6]
    have ho6 : Only w.heap.size (w.heap.size + 1) w5 w6 := by rw [hw6]; exact ((Only.refl _ _ _).setCell (p := ⟨w.heap.size, 0, none⟩) (Nat.le_refl _) (by simp) _).setCell (p := ⟨w.heap.size, 1, none⟩) (Nat.le_refl _) (by simp) _
    have hb6 : Below w.heap.size w5 w6 := ho6.below (Nat.le_refl _) (by omega)
    have hz6 : Blk w6 w.heap.size 28 [.slice A5 room.length c5, .slice (some ⟨w5.heap.size, 0, none⟩) n n] := by rw [hw6]; exact (hz5.set_ 0 _).set_ 1 _
    have hu := units_made w6 48 n
    rw [hs6] at hu
    have hb7 : Below w6.heap.size w6 (w6.alloc (.cells (madeCells #[Value.bool false, .slice none 0 0] (n * 2)) 48)) := alloc_belowC w6 _
    obtain ⟨w7, hw7⟩ : ∃ W, W = w6.alloc (.cells (madeCells #[Value.bool false, .slice none 0 0] (n * 2)) 48) := ⟨_, rfl⟩
    rw [← hw7] at hu hb7 ⊢
    have hs7 : w7.heap.size = w5.heap.size + 1 := by rw [hw7, ← hs6]; simp
    have hz7 := hz6.step hb7
    have hI7 := ((HI5.out.only ho6 (.inr (show w.heap.size + 1 ≤ w0.drew.heap.size from hs0)) (Nat.le_refl _)).below hb7 (by omega))
    have hbf : Below w.heap.size w w7 := (HB.out.trans ((Below.drewN (Below.refl _ _) 1).trans ((HB5.out.mono (show w.heap.size ≤ w0.drew.heap.size by omega)).trans (hb6.trans (hb7.mono (by omega)))))) 
    have HF : Hid (RetC w (newRoom room n) (newMany room n) (newOk room n) (.returned (.tuple #[.agg #[.slice A5 room.length c5, .slice (some ⟨w5.heap.size, 0, none⟩) n n], .bool true])) w7) := Lib.hid (by
      rw [HE.out, show newRoom room n = room by simp [newRoom, HE.out], show newMany room n = n by simp [newMany, HE.out]]
      exact ⟨A5, c5, _, n, w0.drew.heap.size, w5.heap.size, w5.heap.size, w5.heap.size + 1, rfl, hI7, hu, .inl (Nat.le_refl _), ⟨Nat.le_of_lt hL1, by omega, by omega, by omega⟩, hbf⟩)
    have r0 := hz7.cell (i := 0) rfl
    have r1 := hz7.cell (i := 1) rfl
    clear hw6 hw7 hz5 hz6 hz7 hu hI7 hbf ho6 hb6 hb7 hs hs6
    go_wp2_with fail
    exact bodyPost_ret (v := .tuple #[.agg #[.slice A5 room.length c5, .slice (some ⟨w5.heap.size, 0, none⟩) n n], .bool true]) (by simp [results, Try.results6, go_sem, r0, r1]) rfl HF.out
  · have hz5 := (HZ.out.below (w' := (w0.alloc (.cells (madeCells #[Value.bool false, .slice none 0 0] (n * 2)) 48)).drew) HK2.out (by omega)).below HB5.out hL2
    have hs : ∀ k v, (w5.setCell ⟨w.heap.size, k, none⟩ v).heap.size = w5.heap.size := fun k v => by simp [World.setCell]
    obtain ⟨w6, hw6⟩ : ∃ W, W = (w5.setCell ⟨w.heap.size, 0, none⟩ (.slice A5 room.length c5)).setCell ⟨w.heap.size, 1, none⟩ (.slice (some ⟨w0.heap.size, 0, none⟩) n n) := ⟨_, rfl⟩
    have hs6 : w6.heap.size = w5.heap.size := by rw [hw6]; simp [World.setCell]
    rw [← hw6]
    have ho6 : Only w.heap.size (w.heap.size + 1) w5 w6 := by rw [hw6]; exact ((Only.refl _ _ _).setCell (p := ⟨w.heap.size, 0, none⟩) (Nat.le_refl _) (by simp) _).setCell (p := ⟨w.heap.size, 1, none⟩) (Nat.le_refl _) (by simp) _
    have hb6 : Below w.heap.size w5 w6 := ho6.below (Nat.le_refl _) (by omega)
    have hz6 : Blk w6 w.heap.size 28 [.slice A5 room.length c5, .slice (some ⟨w0.heap.size, 0, none⟩) n n] := by rw [hw6]; exact (hz5.set_ 0 _).set_ 1 _
    have h8 : (w0.alloc (.cells (madeCells #[Value.bool false, .slice none 0 0] (n * 2)) 48)).drew.heap.size = w0.heap.size + 1 := (by show (w0.alloc _).heap.size = _; simp)
    have hu := ((HU2.out.below HB5.out (by omega)).only ho6 (.inr (by omega)) (by omega))
    have hI7 := HI5.out.only ho6 (.inr (by omega)) (Nat.le_refl _)
    have hbf : Below w.heap.size w w6 := HB.out.trans ((HK2.out.mono (by omega)).trans ((HB5.out.mono (by omega)).trans hb6))
    have HF : Hid (RetC w (newRoom room n) (newMany room n) (newOk room n) (.returned (.tuple #[.agg #[.slice A5 room.length c5, .slice (some ⟨w0.heap.size, 0, none⟩) n n], .bool true])) w6) := Lib.hid (by
      rw [HE.out, show newRoom room n = room by simp [newRoom, HE.out], show newMany room n = n by simp [newMany, HE.out]]
      exact ⟨A5, c5, _, n, _, w5.heap.size, w0.heap.size, w0.heap.size + 1, rfl, hI7, hu, .inr (by omega), ⟨by omega, by omega, by omega, by omega⟩, hbf⟩)
    have r0 := hz6.cell (i := 0) rfl
    have r1 := hz6.cell (i := 1) rfl
    clear hw6 hz5 hz6 hu hI7 hbf ho6 hb6 hs hs6
    go_wp2_with fail
    exact bodyPost_ret (v := .tuple #[.agg #[.slice A5 room.length c5, .slice (some ⟨w0.heap.size, 0, none⟩) n n], .bool true]) (by simp [results, Try.results6, go_sem, r0, r1]) rfl HF.out
end Go.Proofs.Ytcmampicgdobcaa
