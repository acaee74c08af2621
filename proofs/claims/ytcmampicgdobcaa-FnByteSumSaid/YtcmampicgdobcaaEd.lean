/- l15Take at one bin. No condition but on sizes. -/
import Derived.Test.YtcmampicgdobcaaEc
namespace Go.Proofs.Ytcmampicgdobcaa
open Go.RowKit
theorem ownsRow_same {w w' : World} {base e size n : Nat} {v : Value} {xs : List Value} (h : w.ownsRow base e size v n xs) (hs : ∀ g, v.ownBlock = some g → w'.heap[g]? = w.heap[g]?) : w'.ownsRow base e size v n xs := by
  refine ⟨h.1, ?_⟩
  rcases h.2 with h | ⟨g, cap, cur, rfl, h2, h3, h4⟩
  · exact .inl h
  · exact .inr ⟨g, cap, cur, rfl, h2, by rw [hs g rfl]; exact h3, h4⟩
/-- one bin of its own, of tasks that were there, and a task -/
def RetT (base : Nat) (ts : List TaskV) (w : World) (e : Ending) (w' : World) : Prop :=
  ∃ q d g c, ∃ nts : List TaskV, ∃ i : Int, ∃ X n m, e = .returned (.tuple #[.slice (some ⟨q, 0, none⟩) 1 d, .agg #[.int .i64 i, .slice X n m]]) ∧ w'.cell? ⟨q, 0, none⟩ = some (.slice (some ⟨g, 0, none⟩) nts.length c) ∧
    w.heap.size ≤ g ∧ w.heap.size ≤ q ∧ OwnT w' base (some ⟨g, 0, none⟩) c nts ∧ nts.length ≤ ts.length ∧ (∀ t, t ∈ nts → t ∈ ts) ∧ Below w.heap.size w w'
set_option linter.unusedSimpArgs false in
set_option maxHeartbeats 2000000 in
theorem l15Take_one (base g0 : Nat) (a : Option Addr) (c : Nat) (ts : List TaskV) (id : Int) (w : World) (hg : w.cell? ⟨g0, 0, none⟩ = some (.slice a ts.length c)) (hT : OwnT w base a c ts) (hb : base ≤ w.heap.size) (hl : ts.length ≤ 1000) :
    Calls Try.prog 55 #[.slice (some ⟨g0, 0, none⟩) 1 1, .int .i64 id] w (RetT base ts w) := by
  have hg0 : g0 < w.heap.size := World.block_lt_of_cell? w _ hg
  have HT := Lib.hid hT
  have HG := Lib.hid hg
  clear hT hg
  obtain ⟨w3, hw3⟩ : ∃ W, W = ((w.alloc (.cells #[.int .i64 0, .slice none 0 0] 62)).alloc (.cells #[] 46)).alloc (.cells #[.int .i64 0, .slice none 0 0] 62) := ⟨_, rfl⟩
  have HW3 := Lib.hid hw3
  have hb3 : Below w.heap.size w w3 := by rw [hw3]; exact (((Below.refl _ _).alloc (Nat.le_refl _) _).alloc (by simp) _).alloc (by simp; omega) _
  have hs3 : w3.heap.size = w.heap.size + 3 := by rw [hw3]; simp
  have hX3 : Blk w3 (w.heap.size + 1 + 1) 62 [.int .i64 0, .slice none 0 0] := by
    rw [hw3]
    have := Blk.new ((w.alloc (.cells #[.int .i64 0, .slice none 0 0] 62)).alloc (.cells #[] 46)) 62 [.int .i64 0, .slice none 0 0]
    simpa using this
  have hR3 : Blk w3 w.heap.size 62 [.int .i64 0, .slice none 0 0] := by
    rw [hw3]; exact ((Blk.new w 62 [.int .i64 0, .slice none 0 0]).alloc _).alloc _
  have hO3 : w3.ownsRow (w.heap.size + 1) 46 1 (.slice (some ⟨w.heap.size + 1, 0, none⟩) 0 0) 0 [] := by
    rw [hw3]
    have h1 := ownsRow_below (ownsRow_empty (w.alloc (.cells #[.int .i64 0, .slice none 0 0] 62)) 46 1) (alloc_belowC ((w.alloc (.cells #[.int .i64 0, .slice none 0 0] 62)).alloc (.cells #[] 46)) (.cells #[.int .i64 0, .slice none 0 0] 62))
    have h2 := ownsRow_base h1 (show w.heap.size + 1 ≤ (w.alloc (.cells #[.int .i64 0, .slice none 0 0] 62)).heap.size by simp)
    simpa using h2
  have HB3 := Lib.hid hb3
  have HX3 := Lib.hid hX3
  have HR3 := Lib.hid hR3
  have HO3 := Lib.hid hO3
  have HS3 := Lib.hid hs3
  have hs3' : w.heap.size + 3 ≤ w3.heap.size := by omega
  clear hw3 hb3 hs3 hX3 hR3 hO3
  go_enter Try.func55, Try.ntmps55
  go_wp2_with fail
  rw [← HW3.out]
  go_loopw [6, 8] (fun o i wr => (o = .slice (some ⟨w.heap.size + 1, 0, none⟩) 0 0 ∧ i = .int .i64 0 ∧ wr = w3) ∨ (∃ q d g c', ∃ nts : List TaskV, ∃ z : Int, ∃ X n m, o = .slice (some ⟨q, 0, none⟩) 1 d ∧ i = .int .i64 1 ∧ wr.cell? ⟨q, 0, none⟩ = some (.slice (some ⟨g, 0, none⟩) nts.length c') ∧ w.heap.size + 3 ≤ g ∧ w.heap.size + 1 ≤ q ∧
      OwnT wr base (some ⟨g, 0, none⟩) c' nts ∧ nts.length ≤ ts.length ∧ (∀ t, t ∈ nts → t ∈ ts) ∧ Below w.heap.size w wr ∧ Blk wr (w.heap.size + 1 + 1) 62 [.int .i64 z, .slice X n m] ∧ Blk wr w.heap.size 62 [.int .i64 0, .slice none 0 0])) (fun _ i _ => 1 - (intOf i).toNat)
  case atStart => exact .inl ⟨rfl, rfl, rfl⟩
  case round =>
    rcases hrel with ⟨rfl, rfl, hwr⟩ | ⟨q, d, g, c', nts, z, X, n, m, rfl, rfl, hq, hgw, hqw, hOT, hnl, hnm, hbw, hX, hR⟩
    · obtain rfl : w3 = wr := hwr.symm
      have HE0 := Lib.hid (ownsRow_empty w3 62 2)
      have hg3 := cell_belowT HB3.out hg0 HG.out
      have hbe0 := alloc_belowC w3 (.cells #[] 62)
      have HX4 := Lib.hid (HX3.out.step hbe0)
      have HON := Lib.hid (Only.of_below (lo := w.heap.size + 2) (hi := w.heap.size + 3) hbe0)
      clear hbe0 hwr
      go_wp2_with fail
      go_loopw [9, 10] (fun b i ww => ∃ k g d : Nat, ∃ us : List TaskV, ∃ z : Int, ∃ X n m, k ≤ ts.length ∧ i = .int .i64 k ∧ b = .slice (some ⟨g, 0, none⟩) us.length d ∧ ww.ownsRow w3.heap.size 62 2 (.slice (some ⟨g, 0, none⟩) us.length d) us.length (trow us) ∧ us.length ≤ k ∧ (∀ t, t ∈ us → t ∈ ts) ∧
        Blk ww (w.heap.size + 1 + 1) 62 [.int .i64 z, .slice X n m] ∧ Only (w.heap.size + 2) (w.heap.size + 3) w3 ww) (fun _ i _ => ts.length - (intOf i).toNat)
      case atStart => exact ⟨0, w3.heap.size, 0, [], 0, none, 0, 0, by omega, rfl, rfl, HE0.out, by simp, by simp, HX4.out, HON.out⟩
      case round =>
        obtain ⟨k, g, d, us, z, X, n, m, hk, rfl, rfl, hown, hul, hum, hX, hon⟩ := hrel
        have hsz := hon.size
        have HO := Lib.hid hown
        have HUM := Lib.hid hum
        have HXR := Lib.hid hX
        have HONR := Lib.hid hon
        have HBW : Hid (Below w.heap.size w wr) := Lib.hid (HB3.out.trans (hon.below (by omega) (by omega)))
        have hgr := cell_belowT HBW.out hg0 HG.out
        clear hown hum hX hon hg3
        by_cases hlt : k < ts.length
        · have hklt : (k : Int) < ts.length := by omega
          obtain ⟨b, off, t, hae, ht, hc1, hc2, _, hbh, _⟩ := (HT.out.tasks.below HBW.out (Nat.le_refl _)).at_ hlt
          subst hae
          have htm := List.mem_of_getElem? ht
          have hx0 := HXR.out.cell (i := 0) rfl
          have hx1 := HXR.out.cell (i := 1) rfl
          have hf0 := HXR.out.frozen 0
          have hf1 := HXR.out.frozen 1
          have HTK := Lib.hid ht
          have HTM := Lib.hid htm
          have hbn : b ≠ w.heap.size + 1 + 1 := by omega
          clear ht htm
          by_cases hid : t.id = id
          · go_wp2_with fail
            obtain ⟨wx, hwx⟩ : ∃ W, W = (wr.setCell ⟨w.heap.size + 1 + 1, 0, none⟩ (.int .i64 t.id)).setCell ⟨w.heap.size + 1 + 1, 1, none⟩ (.slice t.a t.need.length t.c) := ⟨_, rfl⟩
            have hXx : Blk wx (w.heap.size + 1 + 1) 62 [.int .i64 t.id, .slice t.a t.need.length t.c] := by rw [hwx]; exact (HXR.out.set_ 0 _).set_ 1 _
            have hox : Only (w.heap.size + 2) (w.heap.size + 3) wr wx := by rw [hwx]; exact ((Only.refl _ _ _).setCell (p := ⟨w.heap.size + 1 + 1, 0, none⟩) (Nat.le_refl _) (by simp) _).setCell (p := ⟨w.heap.size + 1 + 1, 1, none⟩) (Nat.le_refl _) (by simp) _
            have hrx := ownsRow_only HO.out hox (by omega)
            have e1 : (wr.setCell ⟨w.heap.size + 1 + 1, 0, none⟩ (.int .i64 id)).setCell ⟨w.heap.size + 1 + 1, 1, none⟩ (.slice t.a t.need.length t.c) = wx := by rw [hwx, hid]
            refine ⟨⟨k + 1, g, d, us, t.id, t.a, t.need.length, t.c, by omega, by go_num, rfl, ?_, by omega, HUM.out, ?_, ?_⟩, by simp [intOf]; omega⟩
            · first | (rw [← hwx]; exact hrx) | (rw [e1]; exact hrx)
            · first | (rw [← hwx]; exact hXx) | (rw [e1]; exact hXx)
            · first | (rw [← hwx]; exact HONR.out.trans hox) | (rw [e1]; exact HONR.out.trans hox)
          · have hmx : us.length + 1 ≤ maxLen := by simp only [maxLen]; omega
            have hmy : (us.length + 1) * 32 ≤ 140737488355328 := by omega
            go_wp2_with (at_builtin; refine wpList_app1 elT rfl (.tmp 46) (.tmp 54) rfl wr _ HO.out [.int .i64 t.id, .slice t.a t.need.length t.c] rfl rfl ⟨rfl, rfl, rfl, rfl⟩ rfl (two_cellsT _ _ _ _) hsz hmx hmy ?_; intro q2 d2 w7 hown2 hb2 hg2 hsz2 hq2; have HO7 := Lib.hid hown2; have HB7 := Lib.hid hb2; clear hown2 hb2 hg2 hsz2 hq2)
            refine ⟨⟨k + 1, q2, d2, us ++ [t], z, X, n, m, by omega, by go_num, by simp, ?_, by simp; omega, fun u hu => ?_, HXR.out.below HB7.out (by omega), HONR.out.then_below HB7.out⟩, by simp [intOf]; omega⟩
            · rw [List.length_append, trow_app]; simpa [trow, tcells] using HO7.out
            · rcases List.mem_append.1 hu with h1 | h1
              · exact HUM.out u h1
              · simp only [List.mem_singleton] at h1; subst h1; exact HTM.out
        · have hkn : ¬ ((k : Int) < ts.length) := by omega
          have HOO : Hid (wr.ownsRow (w.heap.size + 1) 46 1 (.slice (some ⟨w.heap.size + 1, 0, none⟩) 0 0) 0 []) := Lib.hid (ownsRow_same HO3.out (fun g9 h9 => by
            simp only [Value.ownBlock, Option.some.injEq] at h9
            subst h9
            exact HONR.out.block _ (by omega) (.inl (by omega))))
          have HRR := Lib.hid (HR3.out.only HONR.out (.inl (by omega)))
          have HNE := Lib.hid (own_ne2 HO.out HOO.out (by decide))
          have hwr1 : w.heap.size + 1 ≤ wr.heap.size := by omega
          have hwr2 : w.heap.size ≤ wr.heap.size := by omega
          have hmx : 0 + 1 ≤ maxLen := by simp only [maxLen]; omega
          go_wp2_with (at_builtin; refine wpList_app1 elBx rfl (.tmp 56) (.tmp 58) rfl wr _ HOO.out [.slice (some ⟨g, 0, none⟩) us.length d] rfl rfl ⟨rfl, rfl, rfl, rfl⟩ rfl (one_sliceT _ _ _) hwr1 hmx (by omega) ?_; intro q2 d2 w7 hown2 hb2 hg2 hsz2 hq2; have HO7 := Lib.hid hown2; have HB7 := Lib.hid hb2; have HG7 := Lib.hid hg2; clear hown2 hb2 hg2 hsz2 hq2)
          have hs7 := HB7.out.size
          have hO7 := HO7.out
          simp only [Nat.zero_add, List.nil_append] at hO7 ⊢
          refine ⟨.inr ⟨q2, d2, g, d, us, z, X, n, m, rfl, ?_, ?_, ?_, ?_, ⟨?_, fun t ht => ?_⟩, by omega, HUM.out, HBW.out.trans (HB7.out.mono (by omega)), ?_, ?_⟩, by simp [intOf]⟩
          · trivial
          · rw [hO7.cellAt 0 (by omega)]
            rfl
          · have := (HO.out.lt g rfl).1; omega
          · exact (hO7.lt q2 rfl).1
          · exact ownsRow_base (ownsRow_grown HO.out HG7.out HNE.out) (by omega)
          · have h9 := ((HT.out.2 t (HUM.out t ht)).below HBW.out (Nat.le_refl _)).mono (Nat.le_refl base) hwr2
            exact (h9.grown HG7.out HOO.out (by decide)).mono (Nat.le_refl _) (by omega)
          · exact HXR.out.grown HG7.out (own_ne HOO.out HXR.out (by decide))
          · exact HRR.out.grown HG7.out (own_ne HOO.out HRR.out (by decide))
    · have x0 := hX.cell (i := 0) rfl
      have x1 := hX.cell (i := 1) rfl
      have r0 := hR.cell (i := 0) rfl
      have r1 := hR.cell (i := 1) rfl
      have rf0 := hR.frozen 0
      have rf1 := hR.frozen 1
      have HR := Lib.hid hR
      have HQ := Lib.hid hq
      have HOT := Lib.hid hOT
      have HBW := Lib.hid hbw
      have HNM := Lib.hid hnm
      clear hR hX hq hOT hbw hnm
      go_wp2_with fail
      refine wp_region_U (fun w' => w'.cell? ⟨w.heap.size + 1 + 1, 0, none⟩ = some (.int .i64 z) ∧ w'.cell? ⟨w.heap.size + 1 + 1, 1, none⟩ = some (.slice X n m)) 3 (by kernel_rfl) ⟨x0, x1⟩ (fun hHeld => ?_)
      refine wpAnyU.take (i := 0) [3] (v := ?_) rfl (by kernel_rfl) (by kernel_rfl) (by kernel_rfl) (by kernel_rfl) (fun _ _ _ h => h) (Or.inl ⟨by rfl, ?_⟩) (by assumption) ?_
      rotate_left
      · (intro w hSw; (try dsimp only at hSw); go_simp <;> (with_reducible rfl))
      try simp only [Act.put, List.setIfInBounds_toArray, List.set_cons_zero, List.set_cons_succ]
      refine wpAnyU.take (i := 1) [3] (v := ?_) rfl (by kernel_rfl) (by kernel_rfl) (by kernel_rfl) (by kernel_rfl) (fun _ _ _ h => h) (Or.inl ⟨by rfl, ?_⟩) (by assumption) ?_
      rotate_left
      · (intro w hSw; (try dsimp only at hSw); go_simp <;> (with_reducible rfl))
      try simp only [Act.put, List.setIfInBounds_toArray, List.set_cons_zero, List.set_cons_succ]
      refine wpAnyU.one (i := 2) (by kernel_rfl) rfl (fun K hK => ?_)
      go_simp
      refine hK.out _ _ (fun _ => ?_) (fun hHeld => ?_)
      rotate_left
      replace hHeld := hHeld (by kernel_rfl)
      clear hK K
      try simp only [Act.put, List.setIfInBounds_toArray, List.set_cons_zero, List.set_cons_succ]
      rotate_right
      · exact ⟨x0, x1⟩
      refine wpAnyU.one (i := 3) (by kernel_rfl) rfl (fun K hK => ?_)
      go_simp
      refine hK.out _ _ (fun h => absurd (h.symm.trans (by kernel_rfl)) Bool.false_ne_true) (fun _ => ?_)
      clear hK K
      try simp only [Act.put, List.setIfInBounds_toArray, List.set_cons_zero, List.set_cons_succ]
      refine wpAnyU.done (by kernel_rfl) ?_ _
      obtain ⟨wf, hwf⟩ : ∃ W, W = ((wr.setCell ⟨w.heap.size, 0, none⟩ (.int .i64 z)).setCell ⟨w.heap.size, 1, none⟩ (.slice X n m)).drew := ⟨_, rfl⟩
      rw [← hwf]
      have hRf : Blk wf w.heap.size 62 [.int .i64 z, .slice X n m] := by rw [hwf]; exact ((HR.out.set_ 0 _).set_ 1 _).drew
      have hof : Only w.heap.size (w.heap.size + 1) wr wf := by rw [hwf]; exact (((Only.refl _ _ _).setCell (p := ⟨w.heap.size, 0, none⟩) (Nat.le_refl _) (by simp) _).setCell (p := ⟨w.heap.size, 1, none⟩) (Nat.le_refl _) (by simp) _).drew
      have hBf : Below w.heap.size w wf := HBW.out.trans (hof.below (Nat.le_refl _) HBW.out.size)
      have hqf : wf.cell? ⟨q, 0, none⟩ = some (.slice (some ⟨g, 0, none⟩) nts.length c') := (World.cell?_of_block (a := ⟨q, 0, none⟩) (hof.block q (World.block_lt_of_cell? wr _ HQ.out) (.inr (by omega)))).trans HQ.out
      have hTf : OwnT wf base (some ⟨g, 0, none⟩) c' nts := by
        rw [hwf]
        have h1 : ∀ t, t ∈ nts → IntsE 3 wf base wf.heap.size t.a t.c t.need := fun t ht => by
          rw [hwf]
          exact ((((HOT.out.2 t ht).far HR.out (by decide) _).far (HR.out.set_ 0 _) (by decide) _).below (B := wr.heap.size) (by exact (Below.refl _ _).drew) (Nat.le_refl _)).mono (Nat.le_refl _) (by show _ ≤ ((wr.setCell _ _).setCell _ _).heap.size; simp [World.setCell])
        refine ⟨?_, fun t ht => by rw [← hwf]; exact h1 t ht⟩
        rw [← hwf]
        exact ownsRow_same HOT.out.1 (fun g9 h9 => by
          simp only [Value.ownBlock, Option.some.injEq] at h9
          subst h9
          exact hof.block _ (HOT.out.1.lt _ rfl).2 (.inr (by omega)))
      have f0 := hRf.cell (i := 0) rfl
      have f1 := hRf.cell (i := 1) rfl
      have HTF := Lib.hid hTf
      have HBF := Lib.hid hBf
      have HQF := Lib.hid hqf
      clear hTf hBf hqf hwf hof hRf
      go_wp2_with fail
      refine bodyPost_ret (v := .tuple #[.slice (some ⟨q, 0, none⟩) 1 d, .agg #[.int .i64 z, .slice X n m]]) (by simp [results, Try.results55, go_sem, f0, f1]) rfl ?_
      exact ⟨q, d, g, c', nts, z, X, n, m, rfl, HQF.out, by omega, by omega, HTF.out, hnl, HNM.out, HBF.out⟩
end Go.Proofs.Ytcmampicgdobcaa
