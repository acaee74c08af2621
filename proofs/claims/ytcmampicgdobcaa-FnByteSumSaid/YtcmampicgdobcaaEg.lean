/- The reference's ClusterNew: what it returns is its own. No condition but on sizes. -/
import Derived.Test.YtcmampicgdobcaaEf
namespace Go.Proofs.Ytcmampicgdobcaa
open Go.RowKit
/-- an own cluster without tasks is returned -/
def RetN (w : World) (e : Ending) (w' : World) : Prop := ∃ v, ∃ b : Bool, e = .returned (.tuple #[v, .bool b]) ∧ Clu w' w.heap.size 0 v ∧ Below w.heap.size w w'
set_option maxHeartbeats 2000000 in
theorem clusterNewO_any (A : Option Addr) (c lo hi : Nat) (room : List Int) (nodes : Int) (w : World) (hI : Ints w lo hi A c room) (hl : room.length ≤ 1048576) (h1 : hi ≤ w.heap.size) :
    Calls Try.prog 7 #[.slice A room.length c, .int .i64 nodes] w (RetN w) := by
  obtain ⟨vr, hvr⟩ : ∃ v, roomB room = v := ⟨_, rfl⟩
  obtain ⟨vn, hvn⟩ : ∃ v, inB nodes 1 10 = v := ⟨_, rfl⟩
  have HVR := Lib.hid hvr
  have HVN := Lib.hid hvn
  have HZ : Hid (Blk (w.alloc (.cells #[.slice none 0 0, .slice none 0 0] 28)) w.heap.size 28 [.slice none 0 0, .slice none 0 0]) := Lib.hid (Blk.new w _ [.slice none 0 0, .slice none 0 0])
  have HB := Lib.hid (alloc_belowC w (.cells #[.slice none 0 0, .slice none 0 0] 28))
  have HI := Lib.hid (hI.below HB.out h1)
  clear hI hvr hvn
  cases vr
  · go_enter Try.func7, Try.ntmps7
    go_wp2_with fail
    refine (l2Room_any A c _ _ room _ HI.out hl).mono ?_; rintro e w' ⟨rfl, rfl⟩
    rw [HVR.out]
    go_wp2_with fail
    have r0 := HZ.out.cell (i := 0) rfl
    have r1 := HZ.out.cell (i := 1) rfl
    refine bodyPost_ret (v := .tuple #[.agg #[.slice none 0 0, .slice none 0 0], .bool false]) (by simp [results, Try.results7, go_sem, r0, r1]) rfl ?_
    exact ⟨_, false, rfl, Clu.zero _ _ _, HB.out⟩
  cases vn
  · go_enter Try.func7, Try.ntmps7
    go_wp2_with fail
    refine (l2Room_any A c _ _ room _ HI.out hl).mono ?_; rintro e w' ⟨rfl, rfl⟩
    rw [HVR.out]
    go_wp2_with fail
    refine (l6In_any nodes 1 10 _).mono ?_; rintro e w' ⟨rfl, rfl⟩
    rw [HVN.out]
    go_wp2_with fail
    have r0 := HZ.out.cell (i := 0) rfl
    have r1 := HZ.out.cell (i := 1) rfl
    refine bodyPost_ret (v := .tuple #[.agg #[.slice none 0 0, .slice none 0 0], .bool false]) (by simp [results, Try.results7, go_sem, r0, r1]) rfl ?_
    exact ⟨_, false, rfl, Clu.zero _ _ _, HB.out⟩
  have hnb := inB_of HVN.out
  obtain ⟨n, rfl⟩ : ∃ n : Nat, nodes = n := ⟨nodes.toNat, by omega⟩
  have hn10 : n ≤ 10 := by omega
  have hr3 := roomB_len HVR.out
  have hr3' : room.length ≤ 3 := Nat.le_of_eq hr3
  have hr0 : 0 < room.length := by omega
  have HR3 := Lib.hid hr3
  clear hr3
  obtain ⟨b0, off0, rfl, _⟩ := HI.out.form hr0
  obtain ⟨w0, hw0⟩ : ∃ W, W = w.alloc (.cells #[.slice none 0 0, .slice none 0 0] 28) := ⟨_, rfl⟩
  have HW0 := Lib.hid hw0
  rw [← hw0] at HZ HB HI
  have hs0 : w.heap.size + 1 ≤ w0.heap.size := by rw [hw0]; simp
  clear hw0
  have HE1 : Hid ((w0.alloc (.cells #[] 3)).ownsRow w0.heap.size 3 1 (.slice (some ⟨w0.heap.size, 0, none⟩) 0 0) 0 []) := Lib.hid (ownsRow_empty w0 3 1)
  have HBE := Lib.hid (alloc_belowC w0 (.cells #[] 3))
  have HIr := Lib.hid ((HI.out.below HBE.out (by omega)).r)
  have hs9 : w0.heap.size ≤ (w0.alloc (.cells #[] 3)).heap.size := by simp
  go_enter Try.func7, Try.ntmps7
  go_wp2_with fail
  rw [← HW0.out]
  refine (l2Room_any _ c _ _ room _ HI.out hl).mono ?_; rintro e w' ⟨rfl, rfl⟩
  rw [HVR.out]
  go_wp2_with fail
  refine (l6In_any (n : Int) 1 10 _).mono ?_; rintro e w' ⟨rfl, rfl⟩
  rw [HVN.out]
  go_wp2_with (at_builtin; refine wpList_appI elI rfl (.tmp 17) (.tmp 18) rfl _ HE1.out (some ⟨b0, off0, none⟩) room.length c room rfl rfl rfl HIr.out hs9 (by omega) ?_; intro A2 c2 w2 hown hb2 _; have HO := Lib.hid hown; have HB2 := Lib.hid (HBE.out.trans hb2); clear hown hb2)
  have hn : 0 + room.length = room.length := by omega
  obtain ⟨A3, c3, he, _, hI3⟩ := IntsE.of_own (e := 3) (ys := room) (by have := HO.out; rw [hn, List.nil_append] at this; exact this)
  simp only [Value.slice.injEq, true_and] at he
  obtain ⟨rfl, rfl⟩ := he
  have hs2 := HB2.out.size
  obtain ⟨w3, hw3⟩ : ∃ W, W = (w2.alloc (.cells #[] 48)).alloc (.cells #[.slice A2 room.length c2, .slice (some ⟨w2.heap.size, 0, none⟩) 0 0] 28) := ⟨_, rfl⟩
  rw [← hw3]
  have hb3 : Below w2.heap.size w2 w3 := by rw [hw3]; exact ((Below.refl _ _).alloc (Nat.le_refl _) _).alloc (by simp) _
  have hQ3 : Blk w3 (w2.heap.size + 1) 28 [.slice A2 room.length c2, .slice (some ⟨w2.heap.size, 0, none⟩) 0 0] := by
    rw [hw3]
    have := Blk.new (w2.alloc (.cells #[] 48)) 28 [.slice A2 room.length c2, .slice (some ⟨w2.heap.size, 0, none⟩) 0 0]
    simpa using this
  have hU3 : w3.ownsRow w2.heap.size 48 2 (.slice (some ⟨w2.heap.size, 0, none⟩) 0 0) 0 [] := by
    rw [hw3]; exact ownsRow_below (ownsRow_empty w2 48 2) (alloc_belowC _ _)
  have hs3 : w2.heap.size + 2 ≤ w3.heap.size := by rw [hw3]; simp
  have HI3 := Lib.hid (hI3.below hb3 (Nat.le_refl _))
  have HZ3 := Lib.hid ((HZ.out.below HB2.out (by omega)).below hb3 (by omega))
  have HB3 := Lib.hid ((HB.out.trans (HB2.out.mono (by omega))).trans (hb3.mono (by omega)))
  have HQ3 := Lib.hid hQ3
  have HU3 := Lib.hid hU3
  clear hI3 hb3 hw3 hQ3 hU3 HO HB2 HIr HBE HE1 hs9 hn
  go_loopw [7] (fun i wr => ∃ k q d : Nat, ∃ us : List UniV, k ≤ n ∧ i = .int .i64 k ∧ us.length ≤ k ∧ k ≤ us.length ∧ Blk wr (w2.heap.size + 1) 28 [.slice A2 room.length c2, .slice (some ⟨q, 0, none⟩) us.length d] ∧
      OwnU wr w2.heap.size (some ⟨q, 0, none⟩) d us ∧ (∀ u, u ∈ us → u.ts = []) ∧ Below w2.heap.size w3 wr) (fun i _ => n - (intOf i).toNat)
  case atStart => exact ⟨0, w2.heap.size, 0, [], by omega, rfl, by simp, by simp, HQ3.out, ⟨HU3.out, by simp, fun i j x y _ hx => by simp at hx⟩, by simp, Below.refl _ _⟩
  case round =>
    obtain ⟨k, q, d, us, hk, rfl, hu1, hu2, hQ, hU, hum, hb⟩ := hrel
    have HUM := Lib.hid hum; clear hum
    have HQ := Lib.hid hQ
    have HU := Lib.hid hU
    have HBr := Lib.hid hb
    have hsr := hb.size
    clear hQ hU hb
    by_cases hlt : k < n
    · have hklt : (k : Int) < n := by omega
      obtain ⟨w4, hw4⟩ : ∃ W, W = wr.alloc (.cells #[] 62) := ⟨_, rfl⟩
      have HW4 := Lib.hid hw4
      have hb4 : Below wr.heap.size wr w4 := by rw [hw4]; exact alloc_belowC wr _
      have hs4 : wr.heap.size + 1 ≤ w4.heap.size := by rw [hw4]; simp
      have HQ4 := Lib.hid (HQ.out.step hb4)
      have HU4 := Lib.hid (HU.out.below hb4)
      have HT4 : Hid (OwnT w4 w2.heap.size (some ⟨wr.heap.size, 0, none⟩) 0 []) := Lib.hid ⟨by rw [hw4]; exact ownsRow_base (ownsRow_empty wr 62 2) (by omega), by simp⟩
      have HUR := HU
      have HB4 := Lib.hid (HBr.out.trans (hb4.mono (by omega)))
      have hq1 := HQ.out.cell (i := 1) rfl
      have hmx : us.length + 1 ≤ maxLen := by simp only [maxLen]; omega
      have hmy : (us.length + 1) * 32 ≤ 140737488355328 := by omega
      have hsz4 : w2.heap.size ≤ w4.heap.size := by omega
      have HX4 : Hid (Value.slice (some ⟨wr.heap.size + 1, 0, none⟩) 1 1 = Value.slice (some ⟨w4.heap.size, 0, none⟩) 1 1) := Lib.hid (by rw [hw4]; simp)
      clear hw4 hb4
      go_wp2_with (at_builtin; rw [← HW4.out]; refine wpList_app1 elUn rfl (.tmp 28) (.tmp 31) rfl w4 _ HU4.out.row [.bool false, .slice (some ⟨wr.heap.size, 0, none⟩) 0 0] rfl HX4.out ⟨rfl, rfl, rfl, rfl⟩ rfl (urowT_one [⟨false, some ⟨wr.heap.size, 0, none⟩, 0, []⟩]) hsz4 hmx hmy ?_; intro q2 d2 w7 hown2 hb2 hg2 hsz2 hq2; have HU7 := Lib.hid hown2; have HG7 := Lib.hid hg2; have hs7 := hsz2; have HB7 := Lib.hid hb2; have HQ7 := Lib.hid (HQ4.out.grown hg2 (own_ne HU4.out.row HQ4.out (by decide))); have hd7 := HQ7.out.cell (i := 1) rfl; have hf7 := HQ7.out.frozen 1; clear hown2 hb2 hg2 hsz2 hq2 hq1)
      obtain ⟨w8, hw8⟩ : ∃ W, W = w7.setCell ⟨w2.heap.size + 1, 1, none⟩ (.slice (some ⟨q2, 0, none⟩) (us.length + 1) d2) := ⟨_, rfl⟩
      have hQ8 : Blk w8 (w2.heap.size + 1) 28 [.slice A2 room.length c2, .slice (some ⟨q2, 0, none⟩) (us.length + 1) d2] := by rw [hw8]; exact HQ7.out.set_ 1 _
      have hsn := HU4.out.snoc (u := ⟨false, some ⟨wr.heap.size, 0, none⟩, 0, []⟩) HT4.out (fun x hx g hg h2 => by
        simp only [bcell, ubin, Value.ownBlock, Option.some.injEq] at h2
        subst h2
        have h3 := ((HUR.out.each x hx).1.lt _ hg).2
        omega) HU7.out HG7.out (by omega)
      have hU8 : OwnU w8 w2.heap.size (some ⟨q2, 0, none⟩) d2 (us ++ [⟨false, some ⟨wr.heap.size, 0, none⟩, 0, []⟩]) := by
        rw [hw8]; exact hsn.far HQ7.out (by decide) (by decide) (by decide) _
      have hb8 : Below w2.heap.size w7 w8 := by rw [hw8]; exact (Below.refl _ _).setCell (p := ⟨w2.heap.size + 1, 1, none⟩) (by simp) _
      rw [← hw8]
      clear hw8
      go_roundw
      case rel =>
        refine ⟨k + 1, q2, d2, us ++ [⟨false, some ⟨wr.heap.size, 0, none⟩, 0, []⟩], by omega, by go_num, by simp; omega, by simp; omega, ?_, hU8, fun u hu => ?_, HB4.out.trans (HB7.out.trans hb8)⟩
        · rw [List.length_append]; exact hQ8
        · rcases List.mem_append.1 hu with h | h
          · exact HUM.out u h
          · simp only [List.mem_singleton] at h; subst h; rfl
      case measure => simp [intOf]; omega
    · have hkn : ¬ ((k : Int) < n) := by omega
      have hIn := HI3.out.below HBr.out (Nat.le_refl _)
      have hZn := HZ3.out.below HBr.out (show w.heap.size < w2.heap.size by omega)
      have hBn := HB3.out.trans (HBr.out.mono (by omega))
      have q0 := HQ.out.cell (i := 0) rfl
      have q1 := HQ.out.cell (i := 1) rfl
      have z0 := hZn.cell (i := 0) rfl
      have z1 := hZn.cell (i := 1) rfl
      have y0 := hZn.frozen 0
      have y1 := hZn.frozen 1
      have hcl0 : Clu wr w.heap.size 0 (.agg #[.slice A2 room.length c2, .slice (some ⟨q, 0, none⟩) us.length d]) :=
        ⟨A2, c2, _, d, room, us, rfl, hIn.mono (by omega) (by omega), HU.out.mono (by omega), ⟨fun _ => HR3.out, by have := HR3.out; omega, by omega, by
          have h0 : ∀ (l : List UniV), (∀ u, u ∈ l → u.ts = []) → bflat (l.map ubin) = [] := by
            intro l
            induction l with
            | nil => intro _; rfl
            | cons a r ih =>
              intro h
              have h1 := ih (fun u hu => h u (by simp [hu]))
              simp only [bflat, List.map_cons, List.flatMap_cons] at h1 ⊢
              rw [h1]
              show a.ts ++ [] = []
              rw [h a (by simp)]; rfl
          rw [h0 us HUM.out]; exact Nat.le_refl _, fun u hu t ht => by rw [HUM.out u hu] at ht; simp at ht⟩⟩
      have HCL0 := Lib.hid hcl0
      have HZn := Lib.hid hZn
      have HBn := Lib.hid hBn
      clear hIn hZn hBn hcl0
      go_wp2_with fail
      obtain ⟨wf, hwf, r0, r1, hcl, hbf⟩ := clu_ret (w := w) (base := w.heap.size) (N := 0) HZn.out rfl HCL0.out HBn.out (Nat.le_refl _)
      rw [← hwf]
      refine bodyPost_ret (v := .tuple #[.agg #[.slice A2 room.length c2, .slice (some ⟨q, 0, none⟩) us.length d], .bool true]) (by simp [results, Try.results7, go_sem, r0, r1]) rfl ?_
      exact ⟨_, true, rfl, hcl, hbf⟩
end Go.Proofs.Ytcmampicgdobcaa
