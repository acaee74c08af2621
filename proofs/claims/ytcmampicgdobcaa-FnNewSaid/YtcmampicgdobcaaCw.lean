/- ClusterValid and ClusterCounts at a new cluster; DrawClusterNew. No condition but on sizes. -/
import Derived.Test.YtcmampicgdobcaaCv
namespace Go.Proofs.Ytcmampicgdobcaa
open Go.RowKit
theorem one_sliceC (a : Option Addr) (n c : Nat) : ∀ u ∈ [Value.slice a n c], u.oneCell' = true := by
  intro u hu; simp at hu; subst hu; rfl
theorem tasks_nil (w : World) (lo hi : Nat) (A : Option Addr) (c : Nat) (h : c ≤ maxLen) : Tasks w lo hi A c [] := ⟨⟨Nat.zero_le _, h, rfl, .inl rfl⟩, by simp⟩
theorem bins_nil {w : World} {base e d q : Nat} {bs : List BinV} (h : w.ownsRow base e 1 (.slice (some ⟨q, 0, none⟩) bs.length d) bs.length (bs.map bcell)) (hb : ∀ b, b ∈ bs → b.ts = [] ∧ b.c ≤ maxLen) : Bins w base w.heap.size (some ⟨q, 0, none⟩) d bs := by
  obtain ⟨A9, c9, he, hC⟩ := Cells.of_own h
  simp only [Value.slice.injEq, true_and] at he
  obtain ⟨rfl, rfl⟩ := he
  refine ⟨hC, fun b hm => ?_⟩
  obtain ⟨h1, h2⟩ := hb b hm
  rw [h1]; exact tasks_nil _ _ _ _ _ h2
theorem bvs_pv {bs : List BinV} (hb : ∀ b, b ∈ bs → b.ts = [] ∧ b.c ≤ maxLen) : bs.map bpv = List.replicate bs.length [] ∧ bflat bs = [] := by
  constructor
  · apply List.ext_getElem?
    intro j
    rw [List.getElem?_map, List.getElem?_replicate]
    by_cases hj : j < bs.length
    · rw [List.getElem?_eq_getElem hj, if_pos hj]
      simp only [Option.map_some, bpv, (hb _ (List.getElem_mem hj)).1, List.map_nil]
    · rw [List.getElem?_eq_none (by omega), if_neg hj]; rfl
  · unfold bflat
    rw [List.flatMap_eq_nil_iff]
    exact fun b hm => (hb b hm).1
set_option maxHeartbeats 1000000 in
theorem cbins_any (A B : Option Addr) (l c n d lo hi : Nat) (w : World) (hU : Units w lo hi B n (fun _ => false)) (hn : n ≤ 100) (h1 : hi ≤ w.heap.size) :
    Calls Try.prog 25 #[.agg #[.slice A l c, .slice B n d]] w fun e w' => ∃ q d', ∃ bs : List BinV, e = .returned (.slice (some ⟨q, 0, none⟩) bs.length d') ∧ bs.length = n ∧ (∀ b, b ∈ bs → b.ts = [] ∧ b.c ≤ maxLen) ∧ Bins w' w.heap.size w'.heap.size (some ⟨q, 0, none⟩) d' bs ∧ Below w.heap.size w w' := by
  have hmk : ∀ W : World, (Instr.makeSlice 51 (.int .i64 0) (.int .i64 (n : Int))).run Try.prog W = .ok (.slice (some ⟨W.heap.size, 0, none⟩) 0 n) (W.alloc (.cells (madeCells #[Value.slice none 0 0] n) 46)) := by
    intro W
    obtain ⟨i1, j1, j2, j3, j4⟩ := info_parts (P := Try.prog) (e := 46) (z := .slice none 0 0) (size := 1) (bytes := 24) (by kernel_rfl)
    have := run_make (P := Try.prog) W 51 46 i1 (.slice none 0 0) Try.underlying51 j1 j2 .i64 .i64 0 (n : Int) (by omega) (by omega) (by rw [j4]; omega) (by omega)
    rw [j3] at this
    have e : (Value.slice none 0 0).cells = #[Value.slice none 0 0] := rfl
    rw [e] at this
    simpa using this
  obtain ⟨w0, hw0⟩ : ∃ W, W = w.alloc (.cells #[.slice A l c, .slice B n d] 28) := ⟨_, rfl⟩
  have HW0 := Lib.hid hw0
  have hb0 : Below w.heap.size w w0 := by rw [hw0]; exact alloc_belowC w _
  have hs0 : w.heap.size + 1 ≤ w0.heap.size := by rw [hw0]; simp
  have HS0 : Hid (w0.heap.size = w.heap.size + 1) := Lib.hid (by rw [hw0]; simp)
  have hX0 : Blk w0 w.heap.size 28 [.slice A l c, .slice B n d] := by rw [hw0]; exact Blk.new w _ [.slice A l c, .slice B n d]
  have hsz : (madeCells #[Value.slice none 0 0] n).size = n := by simp [madeCells]
  have hO : (w0.alloc (.cells (madeCells #[Value.slice none 0 0] n) 46)).ownsRow w0.heap.size 46 1 (.slice (some ⟨w0.heap.size, 0, none⟩) 0 n) 0 [] :=
    World.ownsRow_made w0 _ n (Nat.le_refl _) (by simp only [maxLen]; omega) (by rw [hsz]; omega)
  obtain ⟨w1, hw1⟩ : ∃ W, W = w0.alloc (.cells (madeCells #[Value.slice none 0 0] n) 46) := ⟨_, rfl⟩
  have HW1 := Lib.hid hw1
  rw [← hw1] at hO
  have hb1 : Below w0.heap.size w0 w1 := by rw [hw1]; exact alloc_belowC w0 _
  have hs1 : w0.heap.size + 1 ≤ w1.heap.size := by rw [hw1]; simp
  have HX := Lib.hid (hX0.step hb1)
  have HO := Lib.hid hO
  have HU := Lib.hid ((hU.below hb0 h1).below hb1 (by omega))
  have HB := Lib.hid (hb0.trans (hb1.mono (by omega)))
  have hx1 := HX.out.cell (i := 1) rfl
  clear hw0 hb0 hX0 hO hw1 hb1 hsz hU
  go_enter Try.func25, Try.ntmps25
  go_wp2_with fail
  rw [← HW0.out, ← HW1.out]
  clear hmk
  go_wp2_with fail
  go_loopw [3, 13] (fun o i wr => ∃ k q d' : Nat, ∃ bs : List BinV, k ≤ n ∧ i = .int .i64 k ∧ o = .slice (some ⟨q, 0, none⟩) bs.length d' ∧ bs.length ≤ k ∧ k ≤ bs.length ∧ wr.ownsRow w0.heap.size 46 1 (.slice (some ⟨q, 0, none⟩) bs.length d') bs.length (bs.map bcell) ∧
      (∀ b, b ∈ bs → b.ts = [] ∧ b.c ≤ maxLen) ∧ Below w0.heap.size w1 wr) (fun _ i _ => n - (intOf i).toNat)
  case atStart => exact ⟨0, w0.heap.size, n, [], by omega, rfl, by rw [HS0.out]; rfl, by simp, by simp, HO.out, by simp, Below.refl _ _⟩
  case round =>
    obtain ⟨k, q, d', bs, hk, rfl, rfl, hu1, hu2, hown, hbs, hb⟩ := hrel
    replace HO := Lib.hid hown
    have HBS := Lib.hid hbs
    have HBr := Lib.hid hb
    have hsr := hb.size
    clear hown hbs hb
    by_cases hlt : k < n
    · have hklt : (k : Int) < n := by omega
      obtain ⟨b1, off1, A1, c1, rfl, _, hbh1, hcm1, hc1, hc2⟩ := (HU.out.below HBr.out (by omega)).at2_ hlt
      obtain ⟨w5, hw5⟩ : ∃ W, W = wr.alloc (.cells #[.bool false, .slice A1 0 c1] 48) := ⟨_, rfl⟩
      have HW5 := Lib.hid hw5
      have hb5 : Below wr.heap.size wr w5 := by rw [hw5]; exact alloc_belowC wr _
      have hs5 : wr.heap.size + 1 ≤ w5.heap.size := by rw [hw5]; simp
      have HO5 := Lib.hid (ownsRow_below HO.out hb5)
      have HB5 := Lib.hid (HBr.out.trans (hb5.mono (by omega)))
      have HX5 : Hid (Value.slice (some ⟨wr.heap.size + 1, 0, none⟩) 1 1 = Value.slice (some ⟨w5.heap.size, 0, none⟩) 1 1) := Lib.hid (by rw [hw5]; simp)
      have hmx : bs.length + 1 ≤ maxLen := by simp only [maxLen]; omega
      have hmy : (bs.length + 1) * 24 ≤ 140737488355328 := by omega
      have hsz5 : w0.heap.size ≤ w5.heap.size := by omega
      clear hw5 hb5
      go_wp2_with (at_builtin; rw [← HW5.out]; refine wpList_app1 elBs rfl (.tmp 17) (.tmp 20) rfl w5 _ HO5.out [.slice A1 0 c1] rfl HX5.out ⟨rfl, rfl, rfl, rfl⟩ rfl (one_sliceC _ _ _) hsz5 hmx hmy ?_; intro q2 d2 w7 hown2 hb2 hg2 hsz2 hq2; have HO7 := Lib.hid hown2; have HB7 := Lib.hid hb2; clear hown2 hb2 hg2 hsz2 hq2)
      go_roundw
      case rel =>
        refine ⟨k + 1, q2, d2, bs ++ [⟨A1, c1, []⟩], by omega, by go_num, by simp, by simp; omega, by simp; omega, ?_, fun b hb => ?_, HB5.out.trans HB7.out⟩
        · rw [List.length_append, List.map_append]; exact HO7.out
        · rcases List.mem_append.1 hb with h | h
          · exact HBS.out b h
          · simp only [List.mem_singleton] at h; subst h; exact ⟨rfl, hcm1⟩
      case measure => simp [intOf]; omega
    · have hkn : ¬ ((k : Int) < n) := by omega
      have hbl : bs.length = n := by omega
      have HBL := Lib.hid hbl
      have HF := Lib.hid ((bins_nil HO.out HBS.out).mono (show w.heap.size ≤ w0.heap.size by omega) (Nat.le_refl _))
      have HBF := Lib.hid (HB.out.trans (HBr.out.mono (by omega)))
      clear hbl
      go_wp2_with fail
      go_ret
      exact ⟨q, d', bs, by simp, HBL.out, HBS.out, HF.out, HBF.out⟩
set_option maxHeartbeats 1000000 in
theorem clusterValid_any (A B : Option Addr) (c d n l1 h1 l2 h2 : Nat) (room : List Int) (w : World) (hA : Ints w l1 h1 A c room) (hU : Units w l2 h2 B n (fun _ => false)) (hr : roomB room = true) (hn : 1 ≤ n ∧ n ≤ 10) (g1 : h1 ≤ w.heap.size) (g2 : h2 ≤ w.heap.size) :
    Calls Try.prog 9 #[.agg #[.slice A room.length c, .slice B n d]] w fun e w' => e = .returned (.bool true) ∧ Below w.heap.size w w' := by
  have hr3 := roomB_len hr
  have hrl : room.length ≤ 3 := Nat.le_of_eq hr3
  have HRB := Lib.hid hr
  clear hr3 hr
  obtain ⟨w0, hw0⟩ : ∃ W, W = w.alloc (.cells #[.slice A room.length c, .slice B n d] 28) := ⟨_, rfl⟩
  have HW0 := Lib.hid hw0
  have hb0 : Below w.heap.size w w0 := by rw [hw0]; exact alloc_belowC w _
  have hs0 : w.heap.size + 1 ≤ w0.heap.size := by rw [hw0]; simp
  have HX : Hid (Blk w0.drew w.heap.size 28 [.slice A room.length c, .slice B n d]) := Lib.hid (by rw [hw0]; exact Blk.new w _ [.slice A room.length c, .slice B n d])
  have HA : Hid (Ints w0.drew l1 h1 A c room) := Lib.hid (hA.below hb0.drew g1)
  have HU : Hid (Units w0.drew l2 h2 B n (fun _ => false)) := Lib.hid (hU.below hb0.drew g2)
  have HB : Hid (Below w.heap.size w w0.drew) := Lib.hid hb0.drew
  have hx0 := HX.out.cell (i := 0) rfl
  have hx1 := HX.out.cell (i := 1) rfl
  have hsd : w.heap.size + 1 ≤ w0.drew.heap.size := hs0
  have HC := Lib.hid (cbins_any A B room.length c n d _ _ w0.drew HU.out (by omega) (by omega))
  have hni1 : (1 : Int) ≤ (n : Int) := by omega
  have hni2 : (n : Int) ≤ 10 := by omega
  have HIN : Hid (inB (n : Int) 1 10 = true) := Lib.hid (inB_true hni1 hni2)
  have HV : Hid (∀ (W : World) (q d' : Nat) (bs : List BinV) (lo hi : Nat), Ints W l1 h1 A c room → Bins W lo hi (some ⟨q, 0, none⟩) d' bs → bs.length = n → (∀ b, b ∈ bs → b.ts = [] ∧ b.c ≤ maxLen) → h1 ≤ W.heap.size → hi ≤ W.heap.size →
      Calls Try.prog 24 #[.slice A room.length c, .slice (some ⟨q, 0, none⟩) bs.length d'] W fun e w' => e = .returned (.bool true) ∧ Below W.heap.size W w') := Lib.hid (fun W q d' bs lo hi hI hT hl hbs g3 g4 => by
    obtain ⟨e1, e2⟩ := bvs_pv hbs
    have h := binsValid_any A c _ _ room (some ⟨q, 0, none⟩) d' _ _ bs W hI (by omega) hT (by omega) (by rw [e2]; simp) (by rw [e2]; simp) (by rw [e2]; simp) g3 g4
    rwa [e1, binsB_empty HRB.out (by omega)] at h)
  clear hw0 hb0 hA hU
  go_enter Try.func9, Try.ntmps9
  go_wp2_with fail
  rw [← HW0.out]
  go_region_held3 (fun w' => w'.cell? ⟨w.heap.size, 0, none⟩ = some (.slice A room.length c) ∧ w'.cell? ⟨w.heap.size, 1, none⟩ = some (.slice B n d))
    (go_keep)
    (first
      | (go_at_call 19; (with_reducible refine (within_any (n : Int) 1 10 _).mono ?_); rintro e w' ⟨rfl, rfl⟩; rw [HIN.out])
      | (go_at_call 25; (with_reducible refine HC.out.mono ?_); rintro e w5 ⟨q5, d5, bs5, rfl, hl5, hbs5, hB5, hb5⟩; have HL5 := Lib.hid hl5; have HBS5 := Lib.hid hbs5; have HB5 := Lib.hid hB5; have HBB := Lib.hid (HB.out.trans (hb5.mono (by omega))); have HA5 := Lib.hid (HA.out.below hb5 (show h1 ≤ w0.drew.heap.size by omega)); have HU5 := Lib.hid (HU.out.below hb5 (show h2 ≤ w0.drew.heap.size by omega)); have HX5 := Lib.hid (HX.out.below hb5 (show w.heap.size < w0.drew.heap.size by omega)); have y0 := HX5.out.cell (i := 0) rfl; have y1 := HX5.out.cell (i := 1) rfl; have hs5 := hb5.size; clear hl5 hbs5 hB5 hb5)
      | (go_at_call 24; (with_reducible refine (HV.out w5 q5 d5 bs5 _ _ HA5.out HB5.out HL5.out HBS5.out (show h1 ≤ w5.heap.size by omega) (Nat.le_refl _)).mono ?_); rintro e w6 ⟨rfl, hb6⟩; have HBF := Lib.hid (HBB.out.trans (hb6.mono (by omega))); have HU6 := Lib.hid (HU5.out.below hb6 (show h2 ≤ w5.heap.size by omega)); have HX6 := Lib.hid (HX5.out.below hb6 (show w.heap.size < w5.heap.size by omega)); have z0 := HX6.out.cell (i := 0) rfl; have z1 := HX6.out.cell (i := 1) rfl; have hs6 := hb6.size; clear hb6))
  go_wp2_with fail
  refine (containsUnits_any B d n _ _ w6 HU6.out (by omega) (by omega)).mono ?_; rintro e w7 ⟨rfl, hb⟩
  have HFF := Lib.hid (HBF.out.trans (hb.mono (by omega)))
  clear hb
  go_wp2_with fail
  go_ret
  exact ⟨by simp, HFF.out⟩
set_option maxHeartbeats 1000000 in
theorem clusterCounts_any (A B : Option Addr) (c d n l1 h1 l2 h2 : Nat) (room : List Int) (w : World) (hA : Ints w l1 h1 A c room) (hU : Units w l2 h2 B n (fun _ => false)) (hr : roomB room = true) (hn : 1 ≤ n ∧ n ≤ 10) (g1 : h1 ≤ w.heap.size) (g2 : h2 ≤ w.heap.size) :
    Calls Try.prog 11 #[.agg #[.slice A room.length c, .slice B n d]] w fun e w' => ∃ A' c', e = .returned (.slice A' 3 c') ∧ Ints w' w.heap.size w'.heap.size A' c' [0, 0, 0] ∧ Below w.heap.size w w' := by
  obtain ⟨w0, hw0⟩ : ∃ W, W = w.alloc (.cells #[.slice A room.length c, .slice B n d] 28) := ⟨_, rfl⟩
  have HW0 := Lib.hid hw0
  have hb0 : Below w.heap.size w w0 := by rw [hw0]; exact alloc_belowC w _
  have hs0 : w.heap.size + 1 ≤ w0.heap.size := by rw [hw0]; simp
  have HX : Hid (Blk w0 w.heap.size 28 [.slice A room.length c, .slice B n d]) := Lib.hid (by rw [hw0]; exact Blk.new w _ [.slice A room.length c, .slice B n d])
  have HV := Lib.hid (clusterValid_any A B c d n _ _ _ _ room w0 (hA.below hb0 g1) (hU.below hb0 g2) hr hn (by omega) (by omega))
  have HU := Lib.hid (hU.below hb0 g2)
  have HB := Lib.hid hb0
  clear hw0 hb0 hA hU hr
  have hmk : ∀ W : World, (Instr.makeSlice 23 (.int .i64 3) (.int .i64 3)).run Try.prog W = .ok (.slice (some ⟨W.heap.size, 0, none⟩) 3 3) (W.alloc (.cells (madeCells (Value.int .i64 0).cells 3) 3)) := by
    intro W
    obtain ⟨i0, z0, hi0, hz0, hz1, hz2, _⟩ := elI.info
    obtain ⟨i1, j1, j2, j3, j4⟩ := info_parts (P := Try.prog) (e := 3) (z := .int .i64 0) (size := 1) (bytes := 8) (by kernel_rfl)
    have := run_make (P := Try.prog) W 23 3 i1 (.int .i64 0) Try.underlying23 j1 j2 .i64 .i64 3 3 (by omega) (by omega) (by rw [j4]; omega) (by omega)
    rw [j3] at this
    simpa using this
  have hmc : madeCells (Value.int .i64 0).cells 3 = #[.int .i64 0, .int .i64 0, .int .i64 0] := by
    apply Array.ext'
    rw [madeCells_ints]; rfl
  rw [hmc] at hmk
  clear hmc
  go_enter Try.func11, Try.ntmps11
  go_wp2_with fail
  rw [← HW0.out]
  refine HV.out.mono ?_; rintro e w2 ⟨rfl, hb⟩
  clear HV
  have hs2 := hb.size
  replace HX := Lib.hid (HX.out.step hb)
  replace HU := Lib.hid (HU.out.below hb (by omega))
  replace HB := Lib.hid (HB.out.trans (hb.mono (by omega)))
  clear hb
  obtain ⟨w3, hw3⟩ : ∃ W, W = w2.alloc (.cells #[.int .i64 0, .int .i64 0, .int .i64 0] 3) := ⟨_, rfl⟩
  have HW3 := Lib.hid hw3
  have hb3 : Below w2.heap.size w2 w3 := by rw [hw3]; exact alloc_belowC w2 _
  have hs3 : w2.heap.size + 1 ≤ w3.heap.size := by rw [hw3]; simp
  have HT : Hid (Blk w3 w2.heap.size 3 [.int .i64 0, .int .i64 0, .int .i64 0]) := Lib.hid (by rw [hw3]; exact Blk.new w2 _ [.int .i64 0, .int .i64 0, .int .i64 0])
  have hx1' := HX.out.cell (i := 1) rfl
  replace HX := Lib.hid (HX.out.step hb3)
  replace HU := Lib.hid (HU.out.below hb3 (by omega))
  replace HB := Lib.hid (HB.out.trans (hb3.mono (by omega)))
  have hx1 := HX.out.cell (i := 1) rfl
  have hlt2 : w.heap.size < w2.heap.size := by omega
  clear hw3 hb3
  go_wp2_with fail
  rw [← HW3.out]
  go_loopw [13] (fun i wr => ∃ k : Nat, k ≤ n ∧ i = .int .i64 k ∧ Blk wr w2.heap.size 3 [.int .i64 0, .int .i64 0, .int .i64 0] ∧ Below w2.heap.size w3 wr) (fun i _ => n - (intOf i).toNat)
  case atStart => exact ⟨0, by omega, rfl, HT.out, Below.refl _ _⟩
  case round =>
    obtain ⟨k, hk, rfl, hT, hb⟩ := hrel
    replace HT := Lib.hid hT
    have HBr := Lib.hid hb
    have hsr := hb.size
    clear hT hb
    by_cases hlt : k < n
    · have hklt : (k : Int) < n := by omega
      obtain ⟨b1, off1, A1, c1, rfl, _, hbh1, _, hc1, hc2⟩ := (HU.out.below HBr.out (by omega)).at2_ hlt
      obtain ⟨w5, hw5⟩ : ∃ W, W = wr.alloc (.cells #[.bool false, .slice A1 0 c1] 48) := ⟨_, rfl⟩
      have HW5 := Lib.hid hw5
      have hb5 : Below wr.heap.size wr w5 := by rw [hw5]; exact alloc_belowC wr _
      have hs5 : wr.heap.size + 1 ≤ w5.heap.size := by rw [hw5]; simp
      have HY : Hid (Blk w5 wr.heap.size 48 [.bool false, .slice A1 0 c1]) := Lib.hid (by rw [hw5]; exact Blk.new wr _ [.bool false, .slice A1 0 c1])
      have HT5 := Lib.hid (HT.out.step hb5)
      have HB5 := Lib.hid (HBr.out.trans (hb5.mono (by omega)))
      have ht2 := HT5.out.cell (i := 2) rfl
      have hf2 := HT5.out.frozen 2
      have hy1 := HY.out.cell (i := 1) rfl
      have hlt5 : w2.heap.size < wr.heap.size := by omega
      clear hw5 hb5
      go_wp2_with fail
      rw [← HW5.out]
      have hbT : Below w2.heap.size w5 (w5.drew.setCell ⟨w2.heap.size, 2, none⟩ (.int .i64 0)) := (Below.refl _ _).drew.setCell (p := ⟨w2.heap.size, 2, none⟩) (Nat.le_refl _) _
      have hTT : Blk (w5.drew.setCell ⟨w2.heap.size, 2, none⟩ (.int .i64 0)) w2.heap.size 3 [.int .i64 0, .int .i64 0, .int .i64 0] := HT5.out.drew.set_ 2 (.int .i64 0)
      have HBT := Lib.hid (HB5.out.trans hbT)
      have HTT := Lib.hid hTT
      clear hbT hTT
      go_region_held3 (fun w' => w'.cell? ⟨w2.heap.size, 2, none⟩ = some (.int .i64 0) ∧ w'.cell? ⟨wr.heap.size, 1, none⟩ = some (.slice A1 0 c1))
        (first | exact ⟨ht2, hy1⟩ | exact ⟨World.cell?_setCell_same _ _ _ ht2, (World.cell?_setCell_other _ _ _ _ (by intro h; simp only [Addr.mk.injEq] at h; omega)).trans hy1⟩ | go_keep)
        (first | (go_at_call 19; fail))
      go_wp2_with fail
      go_roundw
      case rel => exact ⟨k + 1, by omega, by go_num, HTT.out, HBT.out⟩
      case measure => simp [intOf]; omega
    · have hkn : ¬ ((k : Int) < n) := by omega
      have HF : Hid (Ints wr w.heap.size wr.heap.size (some ⟨w2.heap.size, 0, none⟩) 3 [0, 0, 0]) := Lib.hid ((Ints.of_blk (zs := [0, 0, 0]) HT.out (by simp [maxLen])).mono (by omega) (by have := HT.out.lt; omega))
      have HBF := Lib.hid (HB.out.trans (HBr.out.mono (by omega)))
      go_wp2_with fail
      go_ret
      exact ⟨_, 3, by simp, HF.out, HBF.out⟩
theorem DrawClusterNew_any (A : Option Addr) (n c : Nat) (w : World) (hA : BytesR w w.heap.size A n) (hc : n ≤ c) (hm : c ≤ maxLen) :
    Calls Try.prog 5 #[.slice A n c] w fun e w' => ∃ b, ∃ x y z nodes : Int, e = .returned (.tuple #[.slice (some ⟨b, 0, none⟩) 3 3, .int .i64 nodes]) ∧ Ints w' w.heap.size w'.heap.size (some ⟨b, 0, none⟩) 3 [x, y, z] ∧ (0 ≤ nodes ∧ nodes < 12) ∧ Below w.heap.size w w' := by
  have HA := Lib.hid hA; clear hA
  go_enter Try.func5, Try.ntmps5
  go_wp2_with fail
  refine (l6Open_any A n c w HA.out hc hm).mono ?_; rintro e w1 ⟨g, rfl, hg, hR, hb⟩
  have HR := Lib.hid hR; clear hR
  have hs1 := hb.size
  have HB := Lib.hid hb; clear hb
  go_wp2_with fail
  refine (l91Room_any g 0 w1 HR.out (by omega)).mono ?_; rintro e w2 ⟨b, x, y, z, p1, rfl, hI, _, _, _, hR, hp0, hp1, hO⟩
  have hs2 := hO.size
  have hgl := HR.out.lt
  replace HR := Lib.hid hR
  have HI := Lib.hid hI
  replace HB := Lib.hid (HB.out.trans (hO.below hg hs1))
  clear hR hI hO
  go_wp2_with fail
  refine (pick_any g p1 12 w2 HR.out (by omega) (by omega)).mono ?_; rintro e w3 ⟨v, rfl, hv0, hv1, hR, hO, hs⟩
  have hs3 := hO.size
  have HF := Lib.hid ((HI.out.only hO (.inr (by omega)) (Nat.le_refl _)).mono (show w.heap.size ≤ w1.heap.size by omega) hs3)
  replace HB := Lib.hid (HB.out.trans (hO.below hg (by omega)))
  clear hR hO hs
  go_wp2_with fail
  go_ret2
  exact ⟨b, x, y, z, v, by simp, HF.out, ⟨hv0, hv1⟩, HB.out⟩
end Go.Proofs.Ytcmampicgdobcaa
