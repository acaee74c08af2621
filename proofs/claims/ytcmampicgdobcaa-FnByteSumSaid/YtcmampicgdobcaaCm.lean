/- The reference's ClusterNew. No condition but on sizes. -/
import Derived.Test.YtcmampicgdobcaaCl
import Derived.Test.YtcmampicgdobcaaRw
import Derived.Test.YtcmampicgdobcaaDu
namespace Go.Proofs.Ytcmampicgdobcaa
open Go.RowKit
theorem newRoom_len {room : List Int} {nodes : Int} : (newRoom room nodes).length ≤ 3 ∧ newMany room nodes ≤ 10 := by
  by_cases h : newOk room nodes = true
  · have h1 := h
    simp only [newOk, Bool.and_eq_true] at h1
    have h2 := inB_of h1.2
    rw [newRoom, newMany, if_pos h, if_pos h, roomB_len h1.1]
    omega
  · rw [newRoom, newMany, if_neg h, if_neg h]; simp
/-- the cells of closed units whose tasks are empty slices -/
def urow (us : List (Option Addr × Nat)) : List Value := us.flatMap fun u => [.bool false, .slice u.1 0 u.2]
theorem urow_one (us : List (Option Addr × Nat)) : ∀ u ∈ urow us, u.oneCell' = true := by
  intro u hu
  obtain ⟨p, _, hp⟩ := List.mem_flatMap.1 hu
  simp only [List.mem_cons, List.mem_nil_iff, or_false] at hp
  rcases hp with rfl | rfl <;> rfl
theorem urow_app (us : List (Option Addr × Nat)) (u : Option Addr × Nat) : urow (us ++ [u]) = urow us ++ [.bool false, .slice u.1 0 u.2] := by simp [urow]
theorem urow_at {us : List (Option Addr × Nat)} {k : Nat} {u : Option Addr × Nat} (h : us[k]? = some u) : (urow us)[k * 2]? = some (.bool false) ∧ (urow us)[k * 2 + 1]? = some (.slice u.1 0 u.2) := by
  induction us generalizing k with
  | nil => simp at h
  | cons q r ih =>
    cases k with
    | zero => simp at h; subst h; exact ⟨rfl, rfl⟩
    | succ k =>
      have := ih (k := k) (by simpa using h)
      have e : urow (q :: r) = .bool false :: .slice q.1 0 q.2 :: urow r := rfl
      rw [e, show (k + 1) * 2 = k * 2 + 1 + 1 by omega]
      simpa using this
theorem Units.of_own {w : World} {base e d q : Nat} {us : List (Option Addr × Nat)} (h : w.ownsRow base e 2 (.slice (some ⟨q, 0, none⟩) us.length d) us.length (urow us)) (hm : ∀ u, u ∈ us → u.2 ≤ maxLen) : Units w base w.heap.size (some ⟨q, 0, none⟩) us.length (fun _ => false) := by
  obtain ⟨h1, h2⟩ := h.lt q rfl
  refine .inr ⟨q, 0, rfl, h1, h2, fun j hj => ?_⟩
  have hu : us[j]? = some us[j] := List.getElem?_eq_getElem hj
  obtain ⟨e1, e2⟩ := urow_at hu
  refine ⟨h.frozenAt _, ?_, us[j].1, us[j].2, hm _ (List.getElem_mem hj), ?_⟩
  · rw [Nat.zero_add, h.cellAt _ (by omega)]; exact e1
  · rw [Nat.zero_add, h.cellAt _ (by omega)]; exact e2
theorem elUn : Elem Try.prog 26 48 2 32 := Elem.mk' Try.underlying26 (z := .agg #[.bool false, .slice none 0 0]) (by kernel_rfl) rfl (by omega)
set_option maxHeartbeats 2000000 in
theorem clusterNewS_any (A : Option Addr) (c lo hi : Nat) (room : List Int) (nodes : Int) (w : World) (hI : Ints w lo hi A c room) (hl : room.length ≤ 1048576) (h1 : hi ≤ w.heap.size) :
    Calls Try.prog 7 #[.slice A room.length c, .int .i64 nodes] w (RetC w (newRoom room nodes) (newMany room nodes) (newOk room nodes)) := by
  obtain ⟨vr, hvr⟩ : ∃ v, roomB room = v := ⟨_, rfl⟩
  obtain ⟨vn, hvn⟩ : ∃ v, inB nodes 1 10 = v := ⟨_, rfl⟩
  have HVR := Lib.hid hvr
  have HVN := Lib.hid hvn
  have HZ : Hid (Blk (w.alloc (.cells #[.slice none 0 0, .slice none 0 0] 28)) w.heap.size 28 [.slice none 0 0, .slice none 0 0]) := Lib.hid (Blk.new w _ [.slice none 0 0, .slice none 0 0])
  have HB := Lib.hid (alloc_belowC w (.cells #[.slice none 0 0, .slice none 0 0] 28))
  have HI := Lib.hid (hI.below HB.out h1)
  clear hI hvr hvn
  cases vr
  · have HE : Hid (newOk room nodes = false) := Lib.hid (by simp [newOk, HVR.out])
    go_enter Try.func7, Try.ntmps7
    go_wp2_with fail
    refine (l2Room_any A c _ _ room _ HI.out hl).mono ?_; rintro e w' ⟨rfl, rfl⟩
    rw [HVR.out]
    go_wp2_with fail
    have r0 := HZ.out.cell (i := 0) rfl
    have r1 := HZ.out.cell (i := 1) rfl
    refine bodyPost_ret (v := .tuple #[.agg #[.slice none 0 0, .slice none 0 0], .bool false]) (by simp [results, Try.results7, go_sem, r0, r1]) rfl ?_
    exact RetC.no HE.out HB.out
  cases vn
  · have HE : Hid (newOk room nodes = false) := Lib.hid (by simp [newOk, HVN.out])
    go_enter Try.func7, Try.ntmps7
    go_wp2_with fail
    refine (l2Room_any A c _ _ room _ HI.out hl).mono ?_; rintro e w' ⟨rfl, rfl⟩
    rw [HVR.out]
    go_wp2_with fail
    refine (l6In_any nodes 1 10 _).mono ?_; rintro e w' ⟨rfl, rfl⟩
    rw [HVN.out]
    go_wp2_with fail
    have r0 := HZ.out.cell (i := 0) rfl
    have r1 := HZ.out.cell (i := 1) rfl
    refine bodyPost_ret (v := .tuple #[.agg #[.slice none 0 0, .slice none 0 0], .bool false]) (by simp [results, Try.results7, go_sem, r0, r1]) rfl ?_
    exact RetC.no HE.out HB.out
  have HE : Hid (newOk room nodes = true) := Lib.hid (by simp [newOk, HVR.out, HVN.out])
  have hnb := inB_of HVN.out
  obtain ⟨n, rfl⟩ : ∃ n : Nat, nodes = n := ⟨nodes.toNat, by omega⟩
  have hn10 : n ≤ 10 := by omega
  have hr3 := roomB_len HVR.out
  have hr3' : room.length ≤ 3 := Nat.le_of_eq hr3
  have hr0 : 0 < room.length := by omega
  clear hr3
  obtain ⟨b0, off0, rfl, _⟩ := HI.out.form hr0
  obtain ⟨w0, hw0⟩ : ∃ W, W = w.alloc (.cells #[.slice none 0 0, .slice none 0 0] 28) := ⟨_, rfl⟩
  have HW0 := Lib.hid hw0
  rw [← hw0] at HZ HB HI
  have hs0 : w.heap.size + 1 ≤ w0.heap.size := by rw [hw0]; simp
  clear hw0
  have HE1 : Hid ((w0.alloc (.cells #[] 3)).ownsRow w0.heap.size 3 1 (.slice (some ⟨w0.heap.size, 0, none⟩) 0 0) 0 []) := Lib.hid (ownsRow_empty w0 3 1)
  have HBE := Lib.hid (alloc_belowC w0 (.cells #[] 3))
  have HIr := Lib.hid ((HI.out.below HBE.out (by omega)).r)
  have hs9 : w0.heap.size ≤ (w0.alloc (.cells #[] 3)).heap.size := by simp
  go_enter Try.func7, Try.ntmps7
  go_wp2_with fail
  rw [← HW0.out]
  refine (l2Room_any _ c _ _ room _ HI.out hl).mono ?_; rintro e w' ⟨rfl, rfl⟩
  rw [HVR.out]
  go_wp2_with fail
  refine (l6In_any (n : Int) 1 10 _).mono ?_; rintro e w' ⟨rfl, rfl⟩
  rw [HVN.out]
  go_wp2_with (at_builtin; refine wpList_appI elI rfl (.tmp 17) (.tmp 18) rfl _ HE1.out (some ⟨b0, off0, none⟩) room.length c room rfl rfl rfl HIr.out hs9 (by omega) ?_; intro A2 c2 w2 hown hb2 _; have HO := Lib.hid hown; have HB2 := Lib.hid (HBE.out.trans hb2); clear hown hb2)
  have hn : 0 + room.length = room.length := by omega
  obtain ⟨A3, c3, he, _, hI3⟩ := Ints.of_own (ys := room) (by have := HO.out; rw [hn, List.nil_append] at this; exact this)
  simp only [Value.slice.injEq, true_and] at he
  obtain ⟨rfl, rfl⟩ := he
  have hs2 := HB2.out.size
  obtain ⟨w3, hw3⟩ : ∃ W, W = (w2.alloc (.cells #[] 48)).alloc (.cells #[.slice A2 room.length c2, .slice (some ⟨w2.heap.size, 0, none⟩) 0 0] 28) := ⟨_, rfl⟩
  rw [← hw3]
  have hb3 : Below w2.heap.size w2 w3 := by rw [hw3]; exact ((Below.refl _ _).alloc (Nat.le_refl _) _).alloc (by simp) _
  have hQ3 : Blk w3 (w2.heap.size + 1) 28 [.slice A2 room.length c2, .slice (some ⟨w2.heap.size, 0, none⟩) 0 0] := by
    rw [hw3]
    have := Blk.new (w2.alloc (.cells #[] 48)) 28 [.slice A2 room.length c2, .slice (some ⟨w2.heap.size, 0, none⟩) 0 0]
    simpa using this
  have hU3 : w3.ownsRow w2.heap.size 48 2 (.slice (some ⟨w2.heap.size, 0, none⟩) 0 0) 0 [] := by
    rw [hw3]; exact ownsRow_below (ownsRow_empty w2 48 2) (alloc_belowC _ _)
  have hs3 : w2.heap.size + 2 ≤ w3.heap.size := by rw [hw3]; simp
  have HI3 := Lib.hid (hI3.below hb3 (Nat.le_refl _))
  have HZ3 := Lib.hid ((HZ.out.below HB2.out (by omega)).below hb3 (by omega))
  have HB3 := Lib.hid ((HB.out.trans (HB2.out.mono (by omega))).trans (hb3.mono (by omega)))
  have HQ3 := Lib.hid hQ3
  have HU3 := Lib.hid hU3
  clear hI3 hb3 hw3 hQ3 hU3 HO HB2 HIr HBE HE1 hs9 hn
  go_loopw [7] (fun i wr => ∃ k q d : Nat, ∃ us : List (Option Addr × Nat), k ≤ n ∧ i = .int .i64 k ∧ us.length ≤ k ∧ k ≤ us.length ∧ Blk wr (w2.heap.size + 1) 28 [.slice A2 room.length c2, .slice (some ⟨q, 0, none⟩) us.length d] ∧
      wr.ownsRow w2.heap.size 48 2 (.slice (some ⟨q, 0, none⟩) us.length d) us.length (urow us) ∧ (∀ u, u ∈ us → u.2 ≤ maxLen) ∧ Below w2.heap.size w3 wr) (fun i _ => n - (intOf i).toNat)
  case atStart => exact ⟨0, w2.heap.size, 0, [], by omega, rfl, by simp, by simp, HQ3.out, HU3.out, by simp, Below.refl _ _⟩
  case round =>
    obtain ⟨k, q, d, us, hk, rfl, hu1, hu2, hQ, hU, hum, hb⟩ := hrel
    have HUM := Lib.hid hum; clear hum
    have HQ := Lib.hid hQ
    have HU := Lib.hid hU
    have HBr := Lib.hid hb
    have hsr := hb.size
    clear hQ hU hb
    by_cases hlt : k < n
    · have hklt : (k : Int) < n := by omega
      obtain ⟨w4, hw4⟩ : ∃ W, W = wr.alloc (.cells #[] 62) := ⟨_, rfl⟩
      have HW4 := Lib.hid hw4
      have hb4 : Below wr.heap.size wr w4 := by rw [hw4]; exact alloc_belowC wr _
      have hs4 : wr.heap.size + 1 ≤ w4.heap.size := by rw [hw4]; simp
      have HQ4 := Lib.hid (HQ.out.step hb4)
      have HU4 := Lib.hid (ownsRow_below HU.out hb4)
      have HB4 := Lib.hid (HBr.out.trans (hb4.mono (by omega)))
      have hq1 := HQ.out.cell (i := 1) rfl
      have hmx : us.length + 1 ≤ maxLen := by simp only [maxLen]; omega
      have hmy : (us.length + 1) * 32 ≤ 140737488355328 := by omega
      have hsz4 : w2.heap.size ≤ w4.heap.size := by omega
      have HX4 : Hid (Value.slice (some ⟨wr.heap.size + 1, 0, none⟩) 1 1 = Value.slice (some ⟨w4.heap.size, 0, none⟩) 1 1) := Lib.hid (by rw [hw4]; simp)
      clear hw4 hb4
      go_wp2_with (at_builtin; rw [← HW4.out]; refine wpList_app1 elUn rfl (.tmp 28) (.tmp 31) rfl w4 _ HU4.out [.bool false, .slice (some ⟨wr.heap.size, 0, none⟩) 0 0] rfl HX4.out ⟨rfl, rfl, rfl, rfl⟩ rfl (urow_one [(some ⟨wr.heap.size, 0, none⟩, 0)]) hsz4 hmx hmy ?_; intro q2 d2 w7 hown2 hb2 hg2 hsz2 hq2; have HU7 := Lib.hid hown2; have HB7 := Lib.hid hb2; have HQ7 := Lib.hid (HQ4.out.grown hg2 (own_ne HU4.out HQ4.out (by decide))); have hd7 := HQ7.out.cell (i := 1) rfl; have hf7 := HQ7.out.frozen 1; clear hown2 hb2 hg2 hsz2 hq2 hq1)
      obtain ⟨w8, hw8⟩ : ∃ W, W = w7.setCell ⟨w2.heap.size + 1, 1, none⟩ (.slice (some ⟨q2, 0, none⟩) (us.length + 1) d2) := ⟨_, rfl⟩
      have hQ8 : Blk w8 (w2.heap.size + 1) 28 [.slice A2 room.length c2, .slice (some ⟨q2, 0, none⟩) (us.length + 1) d2] := by rw [hw8]; exact HQ7.out.set_ 1 _
      have hU8 : w8.ownsRow w2.heap.size 48 2 (.slice (some ⟨q2, 0, none⟩) (us.length + 1) d2) (us.length + 1) (urow us ++ [.bool false, .slice (some ⟨wr.heap.size, 0, none⟩) 0 0]) := by
        rw [hw8]; exact own_far HU7.out (p := ⟨w2.heap.size + 1, 1, none⟩) (own_ne HU7.out HQ7.out (by decide)) _
      have hb8 : Below w2.heap.size w7 w8 := by rw [hw8]; exact (Below.refl _ _).setCell (p := ⟨w2.heap.size + 1, 1, none⟩) (by simp) _
      rw [← hw8]
      clear hw8
      go_roundw
      case rel =>
        refine ⟨k + 1, q2, d2, us ++ [(some ⟨wr.heap.size, 0, none⟩, 0)], by omega, by go_num, by simp; omega, by simp; omega, ?_, ?_, fun u hu => ?_, HB4.out.trans (HB7.out.trans hb8)⟩
        · rw [List.length_append]; exact hQ8
        · rw [List.length_append, urow_app]; exact hU8
        · rcases List.mem_append.1 hu with h | h
          · exact HUM.out u h
          · simp only [List.mem_singleton] at h; subst h; exact Nat.zero_le _
      case measure => simp [intOf]; omega
    · have hkn : ¬ ((k : Int) < n) := by omega
      have hun : us.length = n := by omega
      have hur := HU.out.lt q rfl
      have hUn := Units.of_own HU.out HUM.out
      have hIn := HI3.out.below HBr.out (Nat.le_refl _)
      have hZn := HZ3.out.below HBr.out (show w.heap.size < w2.heap.size by omega)
      have hBn := HB3.out.trans (HBr.out.mono (by omega))
      have hQn := HQ.out
      rw [hun] at hUn hQn
      clear hun HQ HU HZ3 HI3 HBr HB3
      have q0 := hQn.cell (i := 0) rfl
      have q1 := hQn.cell (i := 1) rfl
      have z0 := hZn.cell (i := 0) rfl
      have z1 := hZn.cell (i := 1) rfl
      have y0 := hZn.frozen 0
      have y1 := hZn.frozen 1
      have HUn := Lib.hid hUn
      have HIn := Lib.hid hIn
      have HZn := Lib.hid hZn
      have HBn := Lib.hid hBn
      clear hUn hIn hZn hBn hQn
      go_wp2_with fail
      obtain ⟨wf, hwf⟩ : ∃ W, W = (wr.setCell ⟨w.heap.size, 0, none⟩ (.slice A2 room.length c2)).setCell ⟨w.heap.size, 1, none⟩ (.slice (some ⟨q, 0, none⟩) n d) := ⟨_, rfl⟩
      rw [← hwf]
      have hzf : Blk wf w.heap.size 28 [.slice A2 room.length c2, .slice (some ⟨q, 0, none⟩) n d] := by rw [hwf]; exact (HZn.out.set_ 0 _).set_ 1 _
      have hof : Only w.heap.size (w.heap.size + 1) wr wf := by rw [hwf]; exact ((Only.refl _ _ _).setCell (p := ⟨w.heap.size, 0, none⟩) (Nat.le_refl _) (by simp) _).setCell (p := ⟨w.heap.size, 1, none⟩) (Nat.le_refl _) (by simp) _
      have hsf := hof.size
      have hbf := HBn.out.trans (hof.below (Nat.le_refl _) (by omega))
      have hI9 := HIn.out.only hof (.inr (by omega)) (by omega)
      have hU9 := HUn.out.only hof (.inr (by omega)) (Nat.le_refl _)
      have r0 := hzf.cell (i := 0) rfl
      have r1 := hzf.cell (i := 1) rfl
      refine bodyPost_ret (v := .tuple #[.agg #[.slice A2 room.length c2, .slice (some ⟨q, 0, none⟩) n d], .bool true]) (by simp [results, Try.results7, go_sem, r0, r1]) rfl ?_
      rw [HE.out, show newRoom room n = room by simp [newRoom, HE.out], show newMany room n = n by simp [newMany, HE.out]]
      exact ⟨A2, c2, _, d, _, _, _, _, rfl, hI9, hU9, .inl (Nat.le_refl _), ⟨by omega, by omega, by omega, hsf⟩, hbf⟩
end Go.Proofs.Ytcmampicgdobcaa
