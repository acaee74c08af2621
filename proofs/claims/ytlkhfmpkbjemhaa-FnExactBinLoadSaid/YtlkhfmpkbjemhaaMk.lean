/- toTaskS once more, saying where each need lies; markTaskS. No condition but on sizes. -/
import Derived.Test.YtlkhfmpkbjemhaaTs
namespace Go.Proofs.Ytlkhfmpkbjemhaa
open Go.RowKit
/-- two needs do not share a block -/
def Apart2 (u v : TaskV) : Prop := ∀ b1 o1 b2 o2, u.need ≠ [] → v.need ≠ [] → u.a = some ⟨b1, o1, none⟩ → v.a = some ⟨b2, o2, none⟩ → b1 ≠ b2
def SepAt (us : List TaskV) (k : Nat) : Prop := (∀ (i j : Nat) (u v : TaskV), i < j → j < k → us[i]? = some u → us[j]? = some v → Apart2 u v)
theorem SepAt.start (us : List TaskV) : SepAt us 0 := fun i j u v _ hj => by omega
theorem SepAt.all {us : List TaskV} {k : Nat} (h : SepAt us k) (hk : us.length ≤ k) : ∀ (i j : Nat) (u v : TaskV), i < j → us[i]? = some u → us[j]? = some v → Apart2 u v :=
  fun i j u v hij hu hv => h i j u v hij (by have := (List.getElem?_eq_some_iff.1 hv).1; omega) hu hv
theorem SepAt.next {us : List TaskV} {k : Nat} {w w2 : World} {lo : Nat} (h : SepAt us k) (hk : k < us.length) (t : TaskV) (h1 : ∀ u, u ∈ us → Ints w lo w.heap.size u.a u.c u.need) (h2 : Ints w2 w.heap.size w2.heap.size t.a t.c t.need) : SepAt (us.set k t) (k + 1) := by
  intro i j u v hij hj hu hv
  by_cases hjk : j = k
  · subst hjk
    rw [List.getElem?_set_self hk] at hv
    obtain rfl := Option.some.inj hv
    rw [List.getElem?_set_ne (by omega)] at hu
    intro b1 o1 b2 o2 n1 n2 e1 e2
    obtain ⟨c1, p1, f1, _, g1, _⟩ := (h1 u (List.mem_of_getElem? hu)).form (List.length_pos_iff.2 n1)
    obtain ⟨c2, p2, f2, g2, _, _⟩ := h2.form (List.length_pos_iff.2 n2)
    rw [e1] at f1
    rw [e2] at f2
    simp only [Option.some.injEq, Addr.mk.injEq, and_true] at f1 f2
    omega
  · rw [List.getElem?_set_ne (by omega)] at hu hv
    exact h i j u v hij (by omega) hu hv
/-- tasks in new memory: the row in one block, each need in a block of its own above -/
def RetTo (w : World) (ps : List (Int × List Int)) (n : Nat) (e : TypeId) (en : Ending) (w' : World) : Prop :=
  ∃ us : List TaskV, en = .returned (.slice (some ⟨w.heap.size, 0, none⟩) n n) ∧ us.length = n ∧ us.map pv = ps ∧ w'.ownsRow w.heap.size e 2 (.slice (some ⟨w.heap.size, 0, none⟩) n n) n (trow us) ∧
    (∀ u, u ∈ us → Ints w' (w.heap.size + 1) w'.heap.size u.a u.c u.need) ∧ (∀ (i j : Nat) (u v : TaskV), i < j → us[i]? = some u → us[j]? = some v → Apart2 u v) ∧ Below w.heap.size w w' ∧ w.heap.size + 1 ≤ w'.heap.size
theorem toTaskO_any (A : Option Addr) (c hi : Nat) (ts : List TaskV) (w : World) (hA : TasksR w hi A ts) (hl : ts.length ≤ 1048576) (hn : ∀ t, t ∈ ts → t.need.length ≤ 1048576) (h1 : hi ≤ w.heap.size) :
    Calls Try.prog 23 #[.slice A ts.length c] w (RetTo w (ts.map pv) ts.length 31) := by
  have HA := Lib.hid hA; clear hA
  have HN := Lib.hid hn; clear hn
  have hmk : ∀ W : World, (Instr.makeSlice 24 (.int .i64 (ts.length : Int)) (.int .i64 (ts.length : Int))).run Try.prog W = .ok (.slice (some ⟨W.heap.size, 0, none⟩) ts.length ts.length) (W.alloc (.cells (madeCells (Value.agg #[.int .i64 0, .slice none 0 0]).cells (ts.length * 2)) 31)) := by
    intro W
    obtain ⟨i1, j1, j2, j3, j4⟩ := info_parts (P := Try.prog) (e := 31) (z := .agg #[.int .i64 0, .slice none 0 0]) (size := 2) (bytes := 32) (by kernel_rfl)
    have := run_make (P := Try.prog) W 24 31 i1 (.agg #[.int .i64 0, .slice none 0 0]) Try.underlying24 j1 j2 .i64 .i64 (ts.length : Int) (ts.length : Int) (by omega) (Int.le_refl _) (by rw [j4]; omega) (by omega)
    rw [j3] at this
    simpa using this
  go_enter Try.func23, Try.ntmps23
  go_wp2_with fail
  clear hmk
  go_loopw [4] (fun i wr => ∃ k : Nat, ∃ us : List TaskV, k ≤ ts.length ∧ i = .int .i64 k ∧ us.length = ts.length ∧ wr.ownsRow w.heap.size 31 2 (.slice (some ⟨w.heap.size, 0, none⟩) ts.length ts.length) ts.length (trow us) ∧
      (∀ j, j < k → us[j]?.map pv = ts[j]?.map pv) ∧ (∀ u, u ∈ us → Ints wr (w.heap.size + 1) wr.heap.size u.a u.c u.need) ∧ SepAt us k ∧ Below w.heap.size w wr ∧ w.heap.size + 1 ≤ wr.heap.size) (fun i _ => ts.length - (intOf i).toNat)
  case atStart =>
    refine ⟨0, List.replicate ts.length zeroT0, by omega, rfl, by simp, ?_, fun j hj => by omega, fun u hu => ?_, SepAt.start _, (Below.refl _ _).alloc (Nat.le_refl _) _, by simp⟩
    · rw [← madeCells_tasks]
      exact World.ownsRow_lit w _ _ (Nat.le_refl _) (by simp only [maxLen]; omega) (by simp [size_madeCells])
    · obtain rfl := (List.mem_replicate.1 hu).2
      exact ⟨by simp [zeroT0], by simp [zeroT0, maxLen], .inl rfl⟩
  case round =>
    obtain ⟨k, us, hk, rfl, hul, hown, hfill, hints, hsep, hbl, hs0⟩ := hrel
    have HSEP := Lib.hid hsep; clear hsep
    have HO := Lib.hid hown; clear hown
    have HBl := Lib.hid hbl; clear hbl
    have HF := Lib.hid hfill; clear hfill
    have HI := Lib.hid hints; clear hints
    have HUL := Lib.hid hul; clear hul
    have hsz := HBl.out.size
    by_cases hlt : k < ts.length
    · obtain ⟨b, off, t, rfl, ht, hc1, hc2, hbh, hN⟩ := (HA.out.below HBl.out h1).at_ hlt
      have hnt := HN.out t (List.mem_of_getElem? ht)
      have HT := Lib.hid ht
      have HNt := Lib.hid hN
      clear ht hN
      have hklt : (k : Int) < ts.length := by omega
      obtain ⟨w1, hw1⟩ : ∃ W, W = wr := ⟨_, rfl⟩
      rw [← hw1] at HO HBl HI HNt hc1 hc2 hs0 hsz ⊢
      clear hw1
      go_wp2_with fail
      refine (toTask_any t.id t.a t.c _ t.need w1 HNt.out hnt (by omega)).mono ?_; rintro e w2 ⟨A2, c2, rfl, hI2, hb⟩
      have HI2 := Lib.hid hI2; clear hI2
      have hs2 := hb.size
      replace HBl := Lib.hid (HBl.out.trans (hb.mono hsz))
      replace HO := Lib.hid (ownsRow_below HO.out hb)
      have HI1 := HI
      have HI2b := HI2
      replace HI : Hid (∀ u, u ∈ us → Ints w2 (w.heap.size + 1) w2.heap.size u.a u.c u.need) := Lib.hid (fun u hu => ((HI.out u hu).below hb (Nat.le_refl _)).mono (Nat.le_refl _) hs2)
      clear hb hc1 hc2
      have hku : k < us.length := by rw [HUL.out]; exact hlt
      obtain ⟨u0, hu0⟩ : ∃ u0, us[k]? = some u0 := ⟨_, List.getElem?_eq_getElem hku⟩
      have hd0 := HO.out.cellAt (k * 2) (by omega)
      rw [(trow_at hu0).1] at hd0
      have hd1 := HO.out.cellAt (k * 2 + 1) (by omega)
      rw [(trow_at hu0).2] at hd1
      have hf0 := HO.out.frozenAt (k * 2)
      have hf1 := HO.out.frozenAt (k * 2 + 1)
      clear hu0
      have hst := (HO.out.stored (k * 2) (.int .i64 t.id)).1
      have hst2 := (hst.stored (k * 2 + 1) (.slice A2 t.need.length c2)).1
      rw [trow_set2 hku ⟨t.id, A2, c2, t.need⟩] at hst2
      have HST := Lib.hid hst2
      clear hst hst2
      go_wp2_with fail
      obtain ⟨w3, hw3⟩ : ∃ W, W = (w2.setCell ⟨w.heap.size, k * 2, none⟩ (.int .i64 t.id)).setCell ⟨w.heap.size, k * 2 + 1, none⟩ (.slice A2 t.need.length c2) := ⟨_, rfl⟩
      have hO : Only w.heap.size (w.heap.size + 1) w2 w3 := by rw [hw3]; exact ((Only.refl _ _ _).setCell (p := ⟨w.heap.size, k * 2, none⟩) (Nat.le_refl _) (by simp) _).setCell (p := ⟨w.heap.size, k * 2 + 1, none⟩) (Nat.le_refl _) (by simp) _
      have hb3 : Below w.heap.size w2 w3 := by rw [hw3]; exact ((Below.refl _ _).setCell (p := ⟨w.heap.size, k * 2, none⟩) (Nat.le_refl _) _).setCell (p := ⟨w.heap.size, k * 2 + 1, none⟩) (Nat.le_refl _) _
      replace HST := HST.out
      rw [← hw3] at HST ⊢
      clear hw3
      have hs3 := hO.size
      refine ⟨⟨k + 1, us.set k ⟨t.id, A2, c2, t.need⟩, by omega, by go_num, by simp [HUL.out], HST, fun j hj => ?_, fun u hu => ?_, SepAt.next HSEP.out hku ⟨t.id, A2, c2, t.need⟩ (fun u hu => HI1.out u hu) HI2b.out, HBl.out.trans hb3, by omega⟩, by simp [intOf]; omega⟩
      · by_cases hjk : j = k
        · subst hjk
          rw [List.getElem?_set_self hku, HT.out]; rfl
        · rw [List.getElem?_set_ne (by omega)]; exact HF.out j (by omega)
      · rcases List.mem_or_eq_of_mem_set hu with h | rfl
        · exact ((HI.out u h).only hO (.inr (Nat.le_refl _)) (Nat.le_refl _)).mono (Nat.le_refl _) hs3
        · exact (HI2.out.only hO (.inr (by omega)) (Nat.le_refl _)).mono (by omega) hs3
    · have hm : us.map pv = ts.map pv := by
        apply List.ext_getElem?
        intro j
        rw [List.getElem?_map, List.getElem?_map]
        by_cases hj : j < k
        · exact HF.out j hj
        · rw [List.getElem?_eq_none (by rw [HUL.out]; omega), List.getElem?_eq_none (by omega)]
      have HM := Lib.hid hm; clear hm
      have hsp := SepAt.all HSEP.out (by rw [HUL.out]; omega)
      have HSP := Lib.hid hsp; clear hsp
      go_wp2_with fail
      go_ret
      exact ⟨us, by simp, HUL.out, HM.out, HO.out, HI.out, HSP.out, HBl.out, hs0⟩
theorem Ints.blk {w : World} {lo hi c : Nat} {A : Option Addr} {ys : List Int} (h : Ints w lo hi A c ys) : ∃ l r, lo ≤ l ∧ (ys = [] → r = l ∧ l = lo) ∧ (ys ≠ [] → r = l + 1 ∧ l < hi ∧ ∃ o, A = some ⟨l, o, none⟩) ∧ Ints w l r A c ys := by
  by_cases h0 : ys = []
  · exact ⟨lo, lo, Nat.le_refl _, fun _ => ⟨rfl, rfl⟩, fun h => absurd h0 h, h.1, h.2.1, .inl h0⟩
  · obtain ⟨b, off, h1, h2, h3, h4⟩ := h.form (List.length_pos_iff.2 h0)
    exact ⟨b, b + 1, h2, fun h => absurd h h0, fun _ => ⟨rfl, h3, off, h1⟩, h.1, h.2.1, .inr ⟨b, off, h1, Nat.le_refl _, by omega, h4⟩⟩
/-- a store into the row's block leaves a need -/
theorem Ints.blk_row {w w' : World} {g l r c : Nat} {A : Option Addr} {ys : List Int} (h : Ints w l r A c ys) (a : Only g (g + 1) w w') (hl : g + 1 ≤ l) (h2 : ys ≠ [] → r ≤ w.heap.size) : Ints w' l r A c ys := by
  by_cases h0 : ys = []
  · exact ⟨h.1, h.2.1, .inl h0⟩
  · exact h.only a (.inr hl) (h2 h0)
/-- marks in one need leave the others -/
theorem Ints.blk_other {w w' : World} {g hi l r c c' : Nat} {A B : Option Addr} {ys zs : List Int} {i j : Int} (h : Ints w (g + 1) hi B c' zs) (a : Only l r w w') (he : ys = [] → r = l) (hn : ys ≠ [] → r = l + 1 ∧ l < hi ∧ ∃ o, A = some ⟨l, o, none⟩)
    (hs : Apart2 ⟨i, A, c, ys⟩ ⟨j, B, c', zs⟩) (hh : hi ≤ w.heap.size) : Ints w' (g + 1) hi B c' zs := by
  by_cases h0 : zs = []
  · exact ⟨h.1, h.2.1, .inl h0⟩
  · obtain ⟨b, off, e1, e2, e3, e4⟩ := h.form (List.length_pos_iff.2 h0)
    have hb : w'.heap[b]? = w.heap[b]? := by
      refine a.block b (by omega) ?_
      by_cases h1 : ys = []
      · have := he h1; omega
      · obtain ⟨f1, f2, o, f3⟩ := hn h1
        have := hs l o b off h1 h0 f3 e1
        omega
    refine ⟨h.1, h.2.1, .inr ⟨b, off, e1, e2, e3, fun k y hk => ?_⟩⟩
    rw [World.cell?_of_block (a := ⟨b, off + k, none⟩) hb, World.frozen?_of_block (a := ⟨b, off + k, none⟩) hb]
    exact e4 k y hk
theorem ownsRow_blk {w w' : World} {g e n c l r : Nat} {xs : List Value} (h : w.ownsRow g e 2 (.slice (some ⟨g, 0, none⟩) n c) n xs) (a : Only l r w w') (hl : g < l) : w'.ownsRow g e 2 (.slice (some ⟨g, 0, none⟩) n c) n xs := by
  refine ⟨h.1, ?_⟩
  rcases h.2 with ⟨h, _⟩ | ⟨g', cap, cur, he, h2, h3, h4⟩
  · simp at h
  · simp only [Value.slice.injEq, Option.some.injEq, Addr.mk.injEq, and_true, true_and] at he
    obtain ⟨rfl, rfl⟩ := he
    exact .inr ⟨g, _, cur, rfl, h2, by rw [a.block g (Array.getElem?_eq_some_iff.1 h3).1 (.inl hl)]; exact h3, h4⟩
theorem markTaskS_any (g : Nat) (c hi : Nat) (us : List TaskV) (m : Int) (w : World) (hown : w.ownsRow g 31 2 (.slice (some ⟨g, 0, none⟩) us.length c) us.length (trow us)) (hn : ∀ u, u ∈ us → Ints w (g + 1) hi u.a u.c u.need)
    (hsep : ∀ (i j : Nat) (u v : TaskV), i < j → us[i]? = some u → us[j]? = some v → Apart2 u v) (hl : us.length ≤ 1048576) (hnl : ∀ u, u ∈ us → u.need.length ≤ 1048576) (hm : 0 ≤ m ∧ m ≤ 2097152) (hg : g + 1 ≤ hi) (hh : hi ≤ w.heap.size) :
    Calls Try.prog 33 #[.slice (some ⟨g, 0, none⟩) us.length c, .int .i64 m] w fun e w' => ∃ r : Int, e = .returned (.int .i64 r) ∧ 0 ≤ r ∧ Only g hi w w' ∧ w'.heap.size = w.heap.size := by
  have HW := Lib.hid hown; clear hown
  have HN := Lib.hid hn; clear hn
  have HS := Lib.hid hsep; clear hsep
  have HL := Lib.hid hnl; clear hnl
  go_enter Try.func33, Try.ntmps33
  go_wp2_with fail
  go_loopw [1, 5] (fun x i wr => ∃ k : Nat, ∃ v : Int, ∃ us' : List TaskV, k ≤ us.length ∧ i = .int .i64 k ∧ x = .int .i64 v ∧ (0 ≤ v ∧ v ≤ m + k * 1048577) ∧ us'.length = us.length ∧ (∀ j, k ≤ j → us'[j]? = us[j]?) ∧
      wr.ownsRow g 31 2 (.slice (some ⟨g, 0, none⟩) us.length c) us.length (trow us') ∧ (∀ j u, k ≤ j → us[j]? = some u → Ints wr (g + 1) hi u.a u.c u.need) ∧ Only g hi w wr ∧ wr.heap.size = w.heap.size) (fun _ i _ => us.length - (intOf i).toNat)
  case atStart => exact ⟨0, m, us, by omega, rfl, rfl, by omega, rfl, fun _ _ => rfl, HW.out, fun j u _ hu => HN.out u (List.mem_of_getElem? hu), Only.refl _ _ _, rfl⟩
  case round =>
    obtain ⟨k, v, us', hk, rfl, rfl, hv, hul, hus, hown, hints, hO, hsz⟩ := hrel
    have HUL := Lib.hid hul; clear hul
    have HUS := Lib.hid hus; clear hus
    replace HW := Lib.hid hown; clear hown
    have HI := Lib.hid hints; clear hints
    have HO := Lib.hid hO; clear hO
    have HSZ := Lib.hid hsz
    obtain ⟨hz1, hz2⟩ := le_le hsz
    clear hsz
    by_cases hlt : k < us.length
    · obtain ⟨t, ht⟩ : ∃ t, us[k]? = some t := ⟨_, List.getElem?_eq_getElem hlt⟩
      have ht' : us'[k]? = some t := by rw [HUS.out k (Nat.le_refl _)]; exact ht
      have hIt := HI.out k t (Nat.le_refl _) ht
      have hlt' := HL.out t (List.mem_of_getElem? ht)
      obtain ⟨l, r, hll, hlz, hlb, hIb⟩ := hIt.blk
      have HIB := Lib.hid hIb
      have HT := Lib.hid ht
      have HT' := Lib.hid ht'
      have hd0 := HW.out.cellAt (k * 2) (by omega)
      rw [(trow_at ht').1] at hd0
      have hd1 := HW.out.cellAt (k * 2 + 1) (by omega)
      rw [(trow_at ht').2] at hd1
      have hf0 := HW.out.frozenAt (k * 2)
      have hst := (HW.out.stored (k * 2) (.int .i64 v)).1
      rw [trow_set ht'] at hst
      have HST := Lib.hid hst
      have hklt : (k : Int) < us.length := by omega
      have hvw : IntKind.i64.wrap (v + 1) = v + 1 := wrap_small (by omega)
      have hvw0 : IntKind.i64.wrap v = v := wrap_small (by omega)
      clear ht ht' hIt hIb hst
      obtain ⟨w1, hw1⟩ : ∃ W, W = wr.setCell ⟨g, k * 2, none⟩ (.int .i64 v) := ⟨_, rfl⟩
      have hO1 : Only g (g + 1) wr w1 := by rw [hw1]; exact (Only.refl _ _ _).setCell (p := ⟨g, k * 2, none⟩) (Nat.le_refl _) (by simp) _
      have hs1 : w1.heap.size = wr.heap.size := by rw [hw1]; simp [World.setCell]
      obtain ⟨hy1, hy2⟩ := le_le hs1
      replace HST := HST.out
      rw [← hw1] at HST
      have HST := Lib.hid HST
      have HIB1 := Lib.hid (HIB.out.blk_row hO1 hll (fun h => by have := hlb h; omega))
      have HLZ := Lib.hid hlz
      have HLB := Lib.hid hlb
      have HO1 := Lib.hid hO1
      clear hlz hlb hO1
      go_wp2_with fail
      rw [← hw1]
      clear hw1 hd0 hd1 hf0
      refine (markIntS_any t.a t.c l r t.need (v + 1) w1 HIB1.out (by omega) (by omega)).mono ?_; rintro e w2 ⟨rfl, _, hO2, hs2⟩
      have HO2 := Lib.hid hO2
      obtain ⟨hy3, hy4⟩ := le_le hs2
      have HS2 := Lib.hid (show w2.heap.size = w.heap.size by rw [hs2, hs1]; exact HSZ.out)
      clear hO2 hs2 hs1
      have HW2 := Lib.hid (ownsRow_blk HST.out HO2.out (by omega))
      have hrl : r ≤ hi := by
        by_cases h0 : t.need = []
        · have h1 := HLZ.out h0; omega
        · have := HLB.out h0; omega
      go_wp2_with fail
      refine ⟨⟨k + 1, v + 1 + t.need.length, us'.set k { t with id := v }, by omega, by go_num, rfl, by omega, by simp [HUL.out], fun j hj => ?_, HW2.out, fun j u hj hu => ?_, ?_, HS2.out⟩, by simp [intOf]; omega⟩
      · rw [List.getElem?_set_ne (by omega)]; exact HUS.out j (by omega)
      · have h1 := (HI.out j u (by omega) hu).only HO1.out (.inr (Nat.le_refl _)) (by omega)
        exact Ints.blk_other (i := t.id) (j := u.id) h1 HO2.out (fun h => (HLZ.out h).1) HLB.out (HS.out k j t u (by omega) HT.out hu) (by omega)
      · exact HO.out.trans ((HO1.out.mono (Nat.le_refl _) (by omega)).trans (HO2.out.mono (by omega) hrl))
    · go_wp2_with fail
      go_ret
      exact ⟨v, by simp, hv.1, HO.out, HSZ.out⟩
end Go.Proofs.Ytlkhfmpkbjemhaa
