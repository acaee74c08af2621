/- l31Unit, ClusterBytes, l92Damage; zeros appended to an own row of ints. No condition but on sizes. -/
import Derived.Test.YtcmampicgdobcaaEa
import Derived.Test.YtcmampicgdobcaaCs
import Derived.Lib.AppendZerosOnto
namespace Go.Proofs.Ytcmampicgdobcaa
open Go.RowKit
theorem zeros_list (k : Nat) : (Builtin.zeroCells (Value.int .i64 0).cells k).toList = (List.replicate k (0 : Int)).map (Value.int .i64) := by
  apply List.ext_getElem?
  intro j
  simp only [Builtin.zeroCells, Value.cells]
  by_cases h : j < k
  · simp [h, Nat.mod_one]
  · simp [h]
set_option maxRecDepth 100000 in
/-- zeros appended to an own row of ints -/
theorem run_appZ {base n : Nat} {v : Value} {xs : List Value} (w : World) (hown : w.ownsRow base 3 1 v n xs) (k : Nat) (h0 : 0 < k) (hn : n + k ≤ 1000000) (hbase : base ≤ w.heap.size) :
    ∃ A' c' w', (Builtin.append_ #[23, 3] 23 #[v, .int .i64 k]).run Try.prog w = .ok (.slice A' (n + k) c') w' ∧
      w'.ownsRow base 3 1 (.slice A' (n + k) c') (n + k) (xs ++ (List.replicate k (0 : Int)).map (Value.int .i64)) ∧ Below base w w' := by
  obtain ⟨i, hi, hz, hsz, hby⟩ := info_parts (P := Try.prog) (e := 3) (z := .int .i64 0) (size := 1) (bytes := 8) (by kernel_rfl)
  have hlen : (xs ++ (List.replicate k (0 : Int)).map (Value.int .i64)).length = (n + k) * 1 := by rw [List.length_append, hown.1]; simp
  have hmx : n + k ≤ maxLen := by simp only [maxLen]; omega
  have grown : ∀ (old : Nat),
      (w.drew.alloc (.cells (xs.toArray ++ Builtin.zeroCells (Value.int .i64 0).cells k ++ Builtin.zeroCells (Value.int .i64 0).cells (grownCap w (n + k) old 3 - (n + k))) 3)).ownsRow base 3 1
        (.slice (some ⟨w.heap.size, 0, none⟩) (n + k) (grownCap w (n + k) old 3)) (n + k) (xs ++ (List.replicate k (0 : Int)).map (Value.int .i64)) ∧
      Below base w (w.drew.alloc (.cells (xs.toArray ++ Builtin.zeroCells (Value.int .i64 0).cells k ++ Builtin.zeroCells (Value.int .i64 0).cells (grownCap w (n + k) old 3 - (n + k))) 3)) := by
    intro old
    have hge := grownCap_ge w (n + k) old 3
    have hcm := grownCap_le_maxLen w (n + k) old 3 hmx
    refine ⟨⟨hlen, .inr ⟨w.heap.size, _, _, rfl, hbase, heap_alloc_new w.drew _, hge, hcm, ?_, ?_⟩⟩, (Below.refl base w).drew.alloc hbase _⟩
    · have h1 := hown.1
      simp only [Array.size_append, List.size_toArray, size_zeroCells, Value.cells, h1]
      simp
      omega
    · simp only [Array.toList_append, List.append_assoc]
      rw [← List.append_assoc, ← hlen, zeros_list]
      exact List.take_left
  rcases hown.2 with ⟨rfl, rfl⟩ | ⟨g, cap, cur, rfl, hbg, hg, hnc, hcm, hcs, htake⟩
  · have hx : xs = [] := List.eq_nil_of_length_eq_zero (by simpa using hown.1)
    subst hx
    have hr := Lib.run_append_nil_zeros (P := Try.prog) w 23 3 23 3 i (.int .i64 0) .i64 .i64 Try.underlying23 Try.underlying3 hi hz k h0 (by rw [hsz]; omega) (by omega) (by rw [hby]; omega)
    have hgr := grown 0
    simp only [Nat.zero_add, List.nil_append, Array.empty_append] at hgr ⊢
    exact ⟨_, _, _, hr, hgr.1, hgr.2⟩
  · by_cases hroom : n + k ≤ cap
    · have hw : IntKind.i64.wrap (k : Int) = k := wrap_small (by omega)
      have hneg : ¬ ((k : Int) < 0) := by omega
      have h48 : ¬ (281474976710656 < (k : Int) * 8) := by omega
      have hk0 : ¬ (k = 0) := by omega
      have hst := run_storeCells_at Try.prog g n 3 ((List.replicate k (0 : Int)).map (Value.int .i64)) 0 cur w hg (by simp; omega) (ints_oneCell _ _)
      simp only [Nat.add_zero] at hst
      have hr : (Builtin.append_ #[23, 3] 23 #[.slice (some ⟨g, 0, none⟩) n cap, .int .i64 k]).run Try.prog w = .ok (.slice (some ⟨g, 0, none⟩) (n + k) cap) (w.setRow g (cur.toList.take n ++ (List.replicate k (0 : Int)).map (Value.int .i64) ++ cur.toList.drop (n + ((List.replicate k (0 : Int)).map (Value.int .i64)).length)).toArray) := by
        simp only [Builtin.append_]
        simp [run_underlying Try.underlying23, run_underlying Try.underlying3, sizeOf, typeInfo, zeroValue, hi, hz, hsz, hby, asInt, asIntOf, hw, hneg, h48, hk0, hroom, Addr.add_lit, zeros_list]
        have hst2 := hst
        simp at hst2
        rw [hst2]
        rfl
      refine ⟨_, _, _, hr, ⟨hlen, .inr ⟨g, cap, _, rfl, hbg, setRow_heap w g cur _ _ _ hg, hroom, hcm, ?_, ?_⟩⟩, ?_⟩
      · simp only [List.size_toArray, List.length_append, List.length_take, List.length_drop, Array.length_toList, List.length_map, List.length_replicate]
        omega
      · have h1 : cur.toList.take n = xs := by rw [← htake]; simp
        rw [h1, ← hlen]
        exact List.take_left
      · refine ⟨rfl, rfl, rfl, by simp, fun k' hk' => setRow_other w g k' _ (fun e => by omega)⟩
    · have holds : ∀ j u, xs[j]? = some u → w.drew.cell? ((⟨g, 0, none⟩ : Addr).add j) = some u := hown.cells (g := g) rfl
      have hf := run_firstCells_some (P := Try.prog) w.drew i.size n ⟨g, 0, none⟩ n cap xs (by rw [hown.1, hsz]) holds
      have hnext : Builtin.nextslicecap (n + k) cap * i.bytes ≤ 281474976710656 := by rw [hby]; exact growslice_fits (by omega) (by omega)
      have hr := Lib.run_append_grow_zeros (P := Try.prog) w 23 3 23 3 i (.int .i64 0) .i64 .i64 Try.underlying23 Try.underlying3 hi hz (some ⟨g, 0, none⟩) n cap xs hf k h0 (by rw [hsz]; omega) (by omega) (by omega) (by rw [hby]; omega) hnext
      exact ⟨_, _, _, hr, (grown cap).1, (grown cap).2⟩
/-- ints in new memory, no more than m -/
def RetIn (m : Nat) (w : World) (e : Ending) (w' : World) : Prop := ∃ A c, ∃ zs : List Int, e = .returned (.slice A zs.length c) ∧ Ints w' w.heap.size w'.heap.size A c zs ∧ zs.length ≤ m ∧ Below w.heap.size w w'
set_option linter.unusedSimpArgs false in
set_option maxHeartbeats 1000000 in
theorem l31Unit_any (op : Bool) (a : Option Addr) (c lo hi : Nat) (ts : List TaskV) (w : World) (hT : Tasks w lo hi a c ts) (hl : ts.length ≤ 100) (hn : ∀ t, t ∈ ts → t.need.length ≤ 3) (h1 : hi ≤ w.heap.size) :
    Calls Try.prog 40 #[.agg #[.bool op, .slice a ts.length c]] w (RetIn (2 + 4 * ts.length) w) := by
  obtain ⟨w0, hw0⟩ : ∃ W, W = w.alloc (.cells #[.bool op, .slice a ts.length c] 48) := ⟨_, rfl⟩
  have HW0 := Lib.hid hw0
  have hb0 : Below w.heap.size w w0 := by rw [hw0]; exact alloc_belowC w _
  have hs0 : w0.heap.size = w.heap.size + 1 := by rw [hw0]; simp
  have hX0 : Blk w0 w.heap.size 48 [.bool op, .slice a ts.length c] := by rw [hw0]; exact Blk.new w _ [.bool op, .slice a ts.length c]
  have hx0 := hX0.cell (i := 0) rfl
  have hx1 := hX0.cell (i := 1) rfl
  have HIZ : Hid (∀ z : Int, ∃ zs : List Int, zs.length = 2 ∧ (w0.alloc (.cells #[.int .i64 z, .int .i64 ts.length] 3)).ownsRow (w.heap.size + 1) 3 1 (.slice (some ⟨w.heap.size + 1, 0, none⟩) 2 2) 2 (zs.map (Value.int .i64)) ∧ Below w.heap.size w (w0.alloc (.cells #[.int .i64 z, .int .i64 ts.length] 3)) ∧ Blk (w0.alloc (.cells #[.int .i64 z, .int .i64 ts.length] 3)) w.heap.size 48 [.bool op, .slice a ts.length c]) := Lib.hid (fun z => by
    have hb1 := alloc_belowC w0 (.cells #[.int .i64 z, .int .i64 ts.length] 3)
    have hO1 := World.ownsRow_lit (e := 3) (size := 1) w0 #[.int .i64 z, .int .i64 ts.length] 2 (Nat.le_refl _) (by simp [maxLen]) rfl
    rw [hs0] at hO1
    exact ⟨[z, (ts.length : Int)], rfl, hO1, hb0.trans (hb1.mono (by omega)), hX0.step hb1⟩)
  have HN := Lib.hid hn
  have HT := Lib.hid hT
  have n1 : w.heap.size < w0.heap.size := by omega
  have HS0 := Lib.hid hs0
  clear hw0 hb0 hX0 hn hT hs0
  go_enter Try.func40, Try.ntmps40
  cases op
  all_goals
    go_wp2_with fail
    rw [← HW0.out]
    first
      | (have hinit := HIZ.out 1; obtain ⟨w2, hw2⟩ : ∃ W, W = w0.alloc (.cells #[.int .i64 1, .int .i64 ts.length] 3) := ⟨_, rfl⟩; rw [← hw2]; rw [← hw2] at hinit; clear hw2)
      | (have hinit := HIZ.out 0; obtain ⟨w2, hw2⟩ : ∃ W, W = w0.alloc (.cells #[.int .i64 0, .int .i64 ts.length] 3) := ⟨_, rfl⟩; rw [← hw2]; rw [← hw2] at hinit; clear hw2)
    obtain ⟨zs0, hz0, ho0, hb0, hX0⟩ := hinit
    have HO0 := Lib.hid ho0
    have HB0 := Lib.hid hb0
    have HX0 := Lib.hid hX0
    have HZ0 := Lib.hid hz0
    have hsz0 := ho0.lt (w.heap.size + 1) rfl
    have hz00 : zs0.length ≤ 2 := by omega
    clear ho0 hb0 hX0 hz0 HIZ HW0 hx0 hx1
    go_loopw [3, 4] (fun o i wr => ∃ k d : Nat, ∃ g : Option Addr, ∃ zs : List Int, k ≤ ts.length ∧ i = .int .i64 k ∧ o = .slice g zs.length d ∧ wr.ownsRow (w.heap.size + 1) 3 1 (.slice g zs.length d) zs.length (zs.map (Value.int .i64)) ∧ zs.length ≤ 2 + 4 * k ∧ Below (w.heap.size + 1) w2 wr) (fun _ i _ => ts.length - (intOf i).toNat)
    case atStart => exact ⟨0, 2, _, zs0, by omega, rfl, by rw [HZ0.out], by rw [HZ0.out]; exact HO0.out, by omega, Below.refl _ _⟩
    case round =>
      obtain ⟨k, d, g, zs, hk, rfl, rfl, hown, hzl, hb⟩ := hrel
      have HO := Lib.hid hown
      have HBr := Lib.hid hb
      have HBW : Hid (Below w.heap.size w wr) := Lib.hid (HB0.out.trans (hb.mono (by omega)))
      have hsr := hb.size
      have hxr := (HX0.out.below hb (by omega)).cell (i := 1) rfl
      clear hown hb
      by_cases hlt : k < ts.length
      · have hklt : (k : Int) < ts.length := by omega
        obtain ⟨b, off, t, rfl, ht, hc1, hc2, _, hbh, hI⟩ := (HT.out.below HBW.out h1).at_ hlt
        have hnl := HN.out t (List.mem_of_getElem? ht)
        have HI := Lib.hid hI
        clear ht hI
        have hmx : zs.length + 1 ≤ maxLen := by simp only [maxLen]; omega
        have hmy : (zs.length + 1) * 8 ≤ 140737488355328 := by omega
        have hs1w : w.heap.size + 1 ≤ wr.heap.size := by omega
        go_wp2_with (first | (at_builtin; refine wpList_app1 elI rfl (.tmp 20) (.tmp 27) rfl wr _ HO.out [.int .i64 t.id] rfl rfl ⟨rfl, rfl, rfl, rfl⟩ rfl (one_int _) hs1w hmx hmy ?_; intro q2 d2 w7 hown2 hb2 hg2 hsz2 hq2; have HO7 := Lib.hid hown2; have HB7 := Lib.hid hb2; have HX7 := Lib.hid ((HX0.out.below HBr.out (show w.heap.size < w.heap.size + 1 by omega)).below hb2 (show w.heap.size < w.heap.size + 1 by omega)); have hx7 := HX7.out.cell (i := 1) rfl; have hd2 := cell_belowT hb2 (show b < w.heap.size + 1 by omega) hc2; have HI7 := Lib.hid (HI.out.below hb2 (show hi ≤ w.heap.size + 1 by omega)); have hs7 : w.heap.size + 1 ≤ w7.heap.size := (by omega); have hn7 : zs.length + 1 + t.need.length ≤ 1099511627776 := (by omega); clear hown2 hb2 hg2 hsz2 hq2) | (at_builtin; refine wpList_appI elI rfl (.tmp 29) (.tmp 35) rfl w7 HO7.out t.a t.need.length t.c t.need rfl rfl rfl HI7.out.r hs7 hn7 ?_; intro A3 c3 w9 hown3 hb3 _; have HO9 := Lib.hid hown3; have HB9 := Lib.hid hb3; clear hown3 hb3))
        have hl9 : zs.length + 1 + t.need.length = (zs ++ [t.id] ++ t.need).length := by simp; omega
        have hO9 := HO9.out
        rw [hl9] at hO9
        refine ⟨⟨k + 1, c3, A3, zs ++ [t.id] ++ t.need, by omega, by go_num, by rw [hl9], ?_, by rw [← hl9]; omega, HBr.out.trans (HB7.out.trans HB9.out)⟩, by simp [intOf]; omega⟩
        rw [List.map_append, List.map_append]; exact hO9
      · have hkn : ¬ ((k : Int) < ts.length) := by omega
        go_wp2_with fail
        go_ret
        obtain ⟨A9, c9, he, _, hI9⟩ := Ints.of_own HO.out
        simp only [Value.slice.injEq, true_and] at he
        obtain ⟨rfl, rfl⟩ := he
        exact ⟨g, d, zs, rfl, hI9.mono (by omega) (Nat.le_refl _), by omega, HBW.out⟩
/-- an own row of ints and a bool -/
def RetY (w : World) (e : Ending) (w' : World) : Prop :=
  ∃ A c, ∃ zs : List Int, ∃ b : Bool, e = .returned (.tuple #[.slice A zs.length c, .bool b]) ∧ w'.ownsRow w.heap.size 3 1 (.slice A zs.length c) zs.length (zs.map (Value.int .i64)) ∧ zs.length ≤ 200 ∧ Below w.heap.size w w'
set_option linter.unusedSimpArgs false in
set_option maxHeartbeats 1000000 in
theorem clusterBytesS_any (A B : Option Addr) (c d l1 h1 lo hi : Nat) (room : List Int) (us : List UniV) (w : World) (hA : Ints w l1 h1 A c room) (hr : room.length ≤ 3) (hU : UniT w lo hi B d us) (hn : us.length ≤ 10) (hf : (bflat (us.map ubin)).length ≤ 17)
    (hg : ∀ u, u ∈ us → ∀ t, t ∈ u.ts → GoodN t.need) (g1 : h1 ≤ w.heap.size) (g2 : hi ≤ w.heap.size) :
    Calls Try.prog 28 #[.agg #[.slice A room.length c, .slice B us.length d]] w (RetY w) := by
  obtain ⟨w0, hw0⟩ : ∃ W, W = w.alloc (.cells #[.slice A room.length c, .slice B us.length d] 28) := ⟨_, rfl⟩
  have HW0 := Lib.hid hw0
  have hb0 : Below w.heap.size w w0 := by rw [hw0]; exact alloc_belowC w _
  have hs0 : w.heap.size + 1 ≤ w0.heap.size := by rw [hw0]; simp
  have HX : Hid (Blk w0 w.heap.size 28 [.slice A room.length c, .slice B us.length d]) := Lib.hid (by rw [hw0]; exact Blk.new w _ [.slice A room.length c, .slice B us.length d])
  have HA := Lib.hid (hA.below hb0 g1)
  have HU := Lib.hid (hU.below hb0 g2)
  have HB := Lib.hid hb0
  have HG := Lib.hid hg
  have hx0 := HX.out.cell (i := 0) rfl
  have hx1 := HX.out.cell (i := 1) rfl
  clear hw0 hb0 hA hU hg
  go_enter Try.func28, Try.ntmps28
  go_wp2_with fail
  rw [← HW0.out]
  refine (clusterValidS_some A B c d l1 h1 lo hi room us w0 HA.out (by omega) HU.out (by omega) (by omega) (fun t ht => by
    obtain ⟨u, hu, h9⟩ := bflat_ubin_mem ht
    have := (HG.out u hu t h9).1
    omega) (by omega) (by omega)).mono ?_
  rintro e wa ⟨v, rfl, hba⟩
  have HBA := Lib.hid (HB.out.trans (hba.mono (by omega)))
  have hsa := hba.size
  have HXA := Lib.hid (HX.out.below hba (by omega))
  have HAA := Lib.hid (HA.out.below hba (by omega))
  have HUA := Lib.hid (HU.out.below hba (by omega))
  clear hba
  cases v
  · have HE := Lib.hid (ownsRow_empty wa 3 1)
    have HBE := Lib.hid (HBA.out.trans ((alloc_belowC wa (.cells #[] 3)).mono (by omega)))
    go_wp2_with fail
    go_ret2
    exact ⟨_, 0, [], false, by simp, ownsRow_base HE.out (by omega), by simp, HBE.out⟩
  have xa0 := HXA.out.cell (i := 0) rfl
  have xa1 := HXA.out.cell (i := 1) rfl
  have HE := Lib.hid (ownsRow_empty wa 3 1)
  have HBE := Lib.hid (alloc_belowC wa (.cells #[] 3))
  have HIr := Lib.hid ((HAA.out.below HBE.out (by omega)).r)
  have hs9 : wa.heap.size ≤ (wa.alloc (.cells #[] 3)).heap.size := by simp
  have n1 : w.heap.size < wa.heap.size := by omega
  have n2 : w.heap.size ≠ wa.heap.size := by omega
  go_wp2_with (at_builtin; refine wpList_appI elI rfl (.tmp 10) (.tmp 12) rfl _ HE.out A room.length c room rfl rfl rfl HIr.out hs9 (by omega) ?_; intro A2 c2 w2 hown hb2 _; have HO2 := Lib.hid hown; have HB2 := Lib.hid (HBE.out.trans hb2); clear hown hb2)
  have hs2 := HB2.out.size
  have hO2 := HO2.out
  simp only [Nat.zero_add, List.nil_append] at hO2 ⊢
  have HO3 := Lib.hid hO2
  clear hO2 HO2 HIr HBE HE hs9 xa0 xa1
  go_loopw [4, 5] (fun o i wr => ∃ k d' : Nat, ∃ g : Option Addr, ∃ zs : List Int, k ≤ us.length ∧ i = .int .i64 k ∧ o = .slice g zs.length d' ∧ wr.ownsRow wa.heap.size 3 1 (.slice g zs.length d') zs.length (zs.map (Value.int .i64)) ∧ zs.length ≤ 3 + 2 * k + 4 * (bflat ((us.map ubin).take k)).length ∧ Below wa.heap.size wa wr) (fun _ i _ => us.length - (intOf i).toNat)
  case atStart => exact ⟨0, c2, A2, room, by omega, rfl, rfl, HO3.out, by omega, HB2.out⟩
  case round =>
    clear HO3 HB2 hs2
    obtain ⟨k, d', g, zs, hk, rfl, rfl, hown, hzl, hb⟩ := hrel
    have HO := Lib.hid hown
    have HBr := Lib.hid hb
    have HZL := Lib.hid hzl
    have hsr := hb.size
    have hbl := bflat_len (bs := us.map ubin) k
    have hz100 : zs.length ≤ 100 := by omega
    have xr1 := (HXA.out.below hb (by omega)).cell (i := 1) rfl
    clear hown hb hzl hbl
    by_cases hlt : k < us.length
    · have hklt : (k : Int) < us.length := by omega
      obtain ⟨b, off, u, rfl, hu, hc1, hc2, _, hbh, hT⟩ := (HUA.out.below HBr.out (by omega)).at_ hlt
      have hum := List.mem_of_getElem? hu
      have hsn := bflat_snoc (bs := us.map ubin) (k := k) (b := ubin u) (by rw [List.getElem?_map, hu]; rfl)
      have hbl := bflat_len (bs := us.map ubin) (k + 1)
      have hll : (bflat ((us.map ubin).take (k + 1))).length = (bflat ((us.map ubin).take k)).length + u.ts.length := by rw [hsn, List.length_append]; rfl
      have HLL := Lib.hid hll
      have hul : u.ts.length ≤ 17 := by omega
      have HGU := Lib.hid (HG.out u hum)
      have HT := Lib.hid hT
      clear hu hum hsn hbl hll hT
      go_wp2_with fail
      refine (l31Unit_any u.op u.a u.c lo hi u.ts wr HT.out (by omega) (fun t ht => by have := (HGU.out t ht).1; omega) (by omega)).mono ?_
      rintro e w7 ⟨A7, c7, ys, rfl, hI7, hl7, hb7⟩
      have HO7 := Lib.hid (ownsRow_below HO.out hb7)
      have HI7 := Lib.hid hI7
      have HB7 := Lib.hid (HBr.out.trans (hb7.mono hsr))
      have hs7 := hb7.size
      have hs7' : wa.heap.size ≤ w7.heap.size := by omega
      have hn7 : zs.length + ys.length ≤ 1099511627776 := by omega
      clear hI7 hb7
      go_wp2_with (at_builtin; refine wpList_appI elI rfl (.tmp 21) (.tmp 27) rfl w7 HO7.out A7 ys.length c7 ys rfl rfl rfl HI7.out.r hs7' hn7 ?_; intro A8 c8 w8 hown8 hb8 _; have HO8 := Lib.hid hown8; have HB8 := Lib.hid hb8; clear hown8 hb8)
      have hl9 : zs.length + ys.length = (zs ++ ys).length := by simp
      have hO9 := HO8.out
      rw [hl9] at hO9
      refine ⟨⟨k + 1, c8, A8, zs ++ ys, by omega, by go_num, by rw [hl9], by rw [List.map_append]; exact hO9, ?_, HB7.out.trans HB8.out⟩, by simp [intOf]; omega⟩
      rw [← hl9]
      have := HZL.out
      have := HLL.out
      omega
    · have hkn : ¬ ((k : Int) < us.length) := by omega
      obtain ⟨A9, c9, he, _, hI9⟩ := Ints.of_own HO.out
      simp only [Value.slice.injEq, true_and] at he
      obtain ⟨rfl, rfl⟩ := he
      have HI9 := Lib.hid hI9
      have hmx : zs.length + 1 ≤ maxLen := by simp only [maxLen]; omega
      have hmy : (zs.length + 1) * 8 ≤ 140737488355328 := by omega
      clear hI9
      go_wp2_with fail
      refine (clusterSumS_any g d' _ _ zs wr HI9.out (by omega)).mono ?_
      rintro e w' ⟨rfl, rfl⟩
      go_wp2_with (at_builtin; refine wpList_app1 elI rfl (.tmp 29) (.tmp 32) rfl _ _ HO.out [.int .i64 (csum zs)] rfl rfl ⟨rfl, rfl, rfl, rfl⟩ rfl (one_int _) hsr hmx hmy ?_; intro q2 d2 w8 hown8 hb8 hg8 hsz8 hq8; have HO8 := Lib.hid hown8; have HB8 := Lib.hid hb8; clear hown8 hb8 hg8 hsz8 hq8)
      go_ret2
      have hO9 := HO8.out
      have hl9 : zs.length + 1 = (zs ++ [csum zs]).length := by simp
      rw [hl9] at hO9
      exact ⟨some ⟨q2, 0, none⟩, d2, zs ++ [csum zs], true, by simp, by rw [List.map_append]; exact ownsRow_base hO9 (by omega), by rw [← hl9]; omega, HBA.out.trans ((HBr.out.trans HB8.out).mono (by omega))⟩
/-- ints of its own, nothing below bb changed -/
def RetD (base bb : Nat) (w : World) (e : Ending) (w' : World) : Prop := ∃ A c, ∃ zs : List Int, e = .returned (.slice A zs.length c) ∧ Ints w' base w'.heap.size A c zs ∧ zs.length ≤ 1000 ∧ Below bb w w'
set_option linter.unusedSimpArgs false in
set_option maxHeartbeats 1000000 in
theorem l92Damage_any (g p base bb : Nat) (A : Option Addr) (c : Nat) (zs : List Int) (w : World) (hR : Rd w g p) (hp : p ≤ 900000) (hO : w.ownsRow base 3 1 (.slice A zs.length c) zs.length (zs.map (Value.int .i64))) (hl : zs.length ≤ 900) (h1 : g < base) (h2 : bb ≤ g) (h3 : base ≤ w.heap.size) :
    Calls Try.prog 30 #[.pointer (some ⟨g, 0, none⟩), .slice A zs.length c] w (RetD base bb w) := by
  have HR := Lib.hid hR
  have HO := Lib.hid hO
  clear hR hO
  obtain ⟨A9, c9, he, _, hI⟩ := Ints.of_own HO.out
  simp only [Value.slice.injEq, true_and] at he
  obtain ⟨rfl, rfl⟩ := he
  have HI := Lib.hid hI
  clear hI
  by_cases h0 : zs.length = 0
  · have h0i : (zs.length : Int) = 0 := by omega
    clear h0
    go_enter Try.func30, Try.ntmps30
    go_wp2_with fail
    go_ret
    exact ⟨A, c, zs, by simp, HI.out, by omega, Below.refl _ _⟩
  have h0b : ((zs.length : Int) == 0) = false := by simp; intro e; rw [e] at h0; exact h0 rfl
  have h0p : 0 < zs.length := by omega
  clear h0
  go_enter Try.func30, Try.ntmps30
  go_wp2_with fail
  refine (pick_any g p (zs.length : Int) w HR.out (by omega) (by omega)).mono ?_
  rintro e w6 ⟨kk, rfl, h60, h61, hR6, hO6, hs6⟩
  have HR6 := Lib.hid hR6
  have HO6 := Lib.hid (ownsRow_only HO.out hO6 (by omega))
  have HB6 : Hid (Below bb w w6) := Lib.hid (hO6.below h2 (by omega))
  obtain ⟨k, rfl⟩ : ∃ n : Nat, kk = n := ⟨kk.toNat, by omega⟩
  have hkl : k < zs.length := by omega
  clear hR6 hO6 HR HO HI
  go_wp2_with fail
  refine (pick_any g (p + 1) 8 w6 HR6.out (by omega) (by omega)).mono ?_
  rintro e w7 ⟨v7, rfl, h70, h71, hR7, hO7, hs7⟩
  have HR7 := Lib.hid hR7
  have HO7 := Lib.hid (ownsRow_only HO6.out hO7 (by omega))
  have HB7 : Hid (Below bb w w7) := Lib.hid (HB6.out.trans (hO7.below h2 (by omega)))
  clear hR7 hO7 HR6 HO6 HB6
  obtain ⟨A9, c9, he, _, hI⟩ := Ints.of_own HO7.out
  simp only [Value.slice.injEq, true_and] at he
  obtain ⟨rfl, rfl⟩ := he
  have HI7 := Lib.hid hI
  have hcc : zs.length ≤ c := hI.1
  obtain ⟨gb, off, y, rfl, hy, hc1, hf1, hb0, hb1⟩ := hI.at_ hkl
  clear hI hy
  by_cases hz : v7 = 0
  · subst hz
    have hkc : k ≤ c := by omega
    go_wp2_with fail
    go_ret
    exact ⟨_, c, zs.take k, by simp [List.length_take]; omega, HI7.out.take k, by rw [List.length_take]; omega, HB7.out⟩
  have hzb : (v7 == 0) = false := by simpa using hz
  by_cases ho : v7 = 1
  · subst ho
    go_wp2_with fail
    refine (pick_any g (p + 1 + 1) 258 w7 HR7.out (by omega) (by omega)).mono ?_
    rintro e w8 ⟨v8, rfl, h80, h81, hR8, hO8, hs8⟩
    have HO8 := Lib.hid (ownsRow_only HO7.out hO8 (by omega))
    have HB8 : Hid (Below bb w w8) := Lib.hid (HB7.out.trans (hO8.below h2 (by omega)))
    have hw8 : IntKind.i64.wrap (v8 - 1) = v8 - 1 := wrap_small (by omega)
    clear hR8 hO8
    obtain ⟨g9, cap, he, hg, hgl⟩ := HO8.out.form (by omega)
    simp only [Value.slice.injEq, Option.some.injEq, Addr.mk.injEq, and_true, true_and] at he
    obtain ⟨⟨rfl, rfl⟩, rfl⟩ := he
    obtain ⟨y9, hy9, hc9, hf9⟩ := own_at (cs := zs) (k := k) HO8.out hkl
    clear hy9
    go_wp2_with fail
    refine bodyPost_ret (v := .slice (some ⟨gb, 0, none⟩) zs.length c) (by simp [results, Try.results30, go_sem]) rfl ?_
    obtain ⟨A9, c9, he, _, hI9⟩ := Ints.of_own (own_set HO8.out k (v8 - 1))
    simp only [Value.slice.injEq, true_and] at he
    obtain ⟨rfl, _, rfl⟩ := he
    exact ⟨_, c, zs.set k (v8 - 1), by simp, hI9, by simp; omega, HB8.out.setCell (p := ⟨gb, k, none⟩) (by show bb ≤ gb; omega) _⟩
  have hob : (v7 == 1) = false := by simpa using ho
  by_cases htw : v7 = 2
  · subst htw
    go_wp2_with fail
    refine (pick_any g (p + 1 + 1) 9 w7 HR7.out (by omega) (by omega)).mono ?_
    rintro e w8 ⟨v8, rfl, h80, h81, hR8, hO8, hs8⟩
    have HO8 := Lib.hid (ownsRow_only HO7.out hO8 (by omega))
    have HB8 : Hid (Below bb w w8) := Lib.hid (HB7.out.trans (hO8.below h2 (by omega)))
    have hmx : zs.length + 1 ≤ maxLen := by simp only [maxLen]; omega
    have hmy : (zs.length + 1) * 8 ≤ 140737488355328 := by omega
    have hb8 : base ≤ w8.heap.size := by omega
    clear hR8 hO8 hs6 hs7 hs8
    go_wp2_with (at_builtin; refine wpList_app1 elI rfl (.tmp 31) (.tmp 34) rfl _ _ HO8.out [.int .i64 v8] rfl rfl ⟨rfl, rfl, rfl, rfl⟩ rfl (one_int _) hb8 hmx hmy ?_; intro q2 d2 w9 hown9 hb9 hg9 hsz9 hq9; have HO9 := Lib.hid hown9; have HB9 := Lib.hid hb9; clear hown9 hb9 hg9 hsz9 hq9)
    go_ret
    have hO9 := HO9.out
    have hl9 : zs.length + 1 = (zs ++ [v8]).length := by simp
    rw [hl9, show zs.map (Value.int .i64) ++ [Value.int .i64 v8] = (zs ++ [v8]).map (Value.int .i64) by simp] at hO9
    obtain ⟨A9, c9, he, _, hI9⟩ := Ints.of_own hO9
    simp only [Value.slice.injEq, true_and] at he
    obtain ⟨rfl, rfl⟩ := he
    exact ⟨_, d2, zs ++ [v8], by simp, hI9, by rw [← hl9]; omega, HB8.out.trans (HB9.out.mono (by omega))⟩
  · have htb : (v7 == 2) = false := by simpa using htw
    go_wp2_with fail
    go_ret
    exact ⟨_, c, zs, by simp, HI7.out, by omega, HB7.out⟩
end Go.Proofs.Ytcmampicgdobcaa
