/- Helpers of the exact statements on lists of tasks: szTaskS, toTaskS, eqTaskS, markTaskS. No condition but on sizes. -/
import Derived.Test.YtlkhfmpkbjemhaaTe
import Derived.Test.YtlkhfmpkbjemhaaDu
import Derived.Test.YtlkhfmpkbjemhaaDz
namespace Go.Proofs.Ytlkhfmpkbjemhaa
open Go.RowKit
theorem same_needs {ts us : List TaskV} (h : us.map pv = ts.map pv) {Q : Int → List Int → Prop} (hq : ∀ t, t ∈ ts → Q t.id t.need) : ∀ u, u ∈ us → Q u.id u.need := by
  intro u hu
  have : pv u ∈ us.map pv := List.mem_map.2 ⟨u, hu, rfl⟩
  rw [h] at this
  obtain ⟨t, ht, he⟩ := List.mem_map.1 this
  have e1 : t.id = u.id := congrArg Prod.fst he
  have e2 : t.need = u.need := congrArg Prod.snd he
  rw [← e1, ← e2]
  exact hq t ht
theorem cell_belowT {B b o : Nat} {w w' : World} {v : Value} (h : Below B w w') (hq : b < B) (hc : w.cell? ⟨b, o, none⟩ = some v) : w'.cell? ⟨b, o, none⟩ = some v := (h.cell (p := ⟨b, o, none⟩) hq).trans hc
theorem szTaskS_any (A : Option Addr) (c hi : Nat) (ts : List TaskV) (left : Int) (w : World) (hA : TasksR w hi A ts) (hl : 0 ≤ left ∧ left ≤ 1048576) (hm : ts.length ≤ maxLen) (hn : ∀ t, t ∈ ts → t.need.length ≤ maxLen) (h1 : hi ≤ w.heap.size) :
    Calls Try.prog 21 #[.slice A ts.length c, .int .i64 left] w fun e w' => ∃ u : Int, e = .returned (.int .i64 u) ∧ (0 ≤ u → ts.length ≤ 1048576 ∧ ∀ t, t ∈ ts → t.need.length ≤ 1048576) ∧ Below w.heap.size w w' := by
  have HA := Lib.hid hA; clear hA
  have HN := Lib.hid hn; clear hn
  have hm' : ts.length ≤ 9223372036854775807 := by simpa [maxLen] using hm
  clear hm
  have hwr : IntKind.i64.wrap (left - (ts.length : Int)) = left - ts.length := by rw [IntKind.wrap_i64]; omega
  by_cases hlt0 : left - (ts.length : Int) < 0
  · go_enter Try.func21, Try.ntmps21
    go_wp2_with fail
    go_ret
    exact ⟨-1, by simp, by omega, Below.refl _ _⟩
  go_enter Try.func21, Try.ntmps21
  go_wp2_with fail
  go_loopw [1, 5] (fun l i wr => ∃ k : Nat, ∃ u : Int, k ≤ ts.length ∧ i = .int .i64 k ∧ l = .int .i64 u ∧ (0 ≤ u ∧ u ≤ 1048576) ∧ (∀ j t, j < k → ts[j]? = some t → t.need.length ≤ 1048576) ∧ Below w.heap.size w wr) (fun _ i _ => ts.length - (intOf i).toNat)
  case atStart => exact ⟨0, left - ts.length, by omega, rfl, rfl, by omega, fun j t hj => by omega, Below.refl _ _⟩
  case round =>
    obtain ⟨k, u, hk, rfl, rfl, hu, hall, hbl⟩ := hrel
    have HL := Lib.hid hall; clear hall
    have HB := Lib.hid hbl; clear hbl
    have hsz := HB.out.size
    by_cases hlt : k < ts.length
    · obtain ⟨b, off, t, rfl, ht, hc1, hc2, hbh, hI⟩ := (HA.out.below HB.out h1).at_ hlt
      have HT := Lib.hid ht
      have hnt := HN.out t (List.mem_of_getElem? ht)
      clear ht hI
      have hklt : (k : Int) < ts.length := by omega
      obtain ⟨v, hv⟩ : ∃ v, szv u t.need.length = v := ⟨_, rfl⟩
      have h2 := szTask_any t.id t.a t.need.length t.c u wr hu hnt
      rw [hv] at h2
      have hvb := szv_bd (n := t.need.length) hu
      rw [hv] at hvb
      have H2 := Lib.hid h2
      have HV := Lib.hid hv
      clear h2 hv
      go_wp2_with fail
      refine H2.out.mono ?_; rintro e w2 ⟨rfl, hb⟩
      replace HB := Lib.hid (HB.out.trans (hb.mono hsz))
      clear hb
      by_cases hv0 : v < 0
      · go_wp2_with fail
        go_ret
        exact ⟨-1, by simp, by omega, HB.out⟩
      · go_wp2_with fail
        refine ⟨⟨k + 1, v, by omega, by go_num, rfl, by omega, fun j t' hj ht' => ?_, HB.out⟩, by simp [intOf]; omega⟩
        by_cases hjk : j = k
        · subst hjk
          have e1 := HT.out
          rw [ht'] at e1
          obtain rfl := Option.some.inj e1
          have h := HV.out
          have := szv_hi (left := u) (n := t'.need.length) (by rw [h]; omega)
          omega
        · exact HL.out j t' (by omega) ht'
    · go_wp2_with fail
      go_ret
      refine ⟨u, by simp, fun _ => ⟨by omega, fun t ht => ?_⟩, HB.out⟩
      obtain ⟨j, hj⟩ := List.getElem?_of_mem ht
      exact HL.out j t (by have := (List.getElem?_eq_some_iff.1 hj).1; omega) hj
/-- tasks in new memory -/
def RetTs (w : World) (ps : List (Int × List Int)) (n : Nat) (e : Ending) (w' : World) : Prop :=
  ∃ A c, ∃ us : List TaskV, e = .returned (.slice A n c) ∧ us.length = n ∧ us.map pv = ps ∧ Tasks w' w.heap.size w'.heap.size A c us ∧ Below w.heap.size w w'
def zeroT0 : TaskV := ⟨0, none, 0, []⟩
theorem madeCells_tasks (n : Nat) : (madeCells (Value.agg #[.int .i64 0, .slice none 0 0]).cells (n * 2)).toList = trow (List.replicate n zeroT0) := by
  have h : ∀ m : Nat, (madeCells (Value.agg #[.int .i64 0, .slice none 0 0]).cells m).toList = (List.range m).map (fun x => [Value.int .i64 0, .slice none 0 0][x % 2]?.getD default) := by
    intro m; simp [madeCells, Value.cells]
  rw [h]
  induction n with
  | zero => rfl
  | succ n ih =>
    rw [show (n + 1) * 2 = n * 2 + 1 + 1 by omega, List.range_succ, List.range_succ, List.map_append, List.map_append, ih, List.replicate_succ', trow_app]
    have e1 : (n * 2) % 2 = 0 := by omega
    have e2 : (n * 2 + 1) % 2 = 1 := by omega
    simp [e1, e2, trow, tcells, zeroT0]
theorem trow_set2 {ts : List TaskV} {k : Nat} (hk : k < ts.length) (t : TaskV) : ((trow ts).set (k * 2) (.int .i64 t.id)).set (k * 2 + 1) (.slice t.a t.need.length t.c) = trow (ts.set k t) := by
  induction ts generalizing k with
  | nil => simp at hk
  | cons q r ih =>
    have e : trow (q :: r) = .int .i64 q.id :: .slice q.a q.need.length q.c :: trow r := rfl
    cases k with
    | zero => rfl
    | succ k =>
      have := ih (k := k) (by simpa using hk)
      rw [e, show (k + 1) * 2 = k * 2 + 1 + 1 by omega, List.set_cons_succ, List.set_cons_succ, List.set_cons_succ, List.set_cons_succ, this, List.set_cons_succ]
      rfl
theorem toTaskS_any (A : Option Addr) (c hi : Nat) (ts : List TaskV) (w : World) (hA : TasksR w hi A ts) (hl : ts.length ≤ 1048576) (hn : ∀ t, t ∈ ts → t.need.length ≤ 1048576) (h1 : hi ≤ w.heap.size) :
    Calls Try.prog 23 #[.slice A ts.length c] w (RetTs w (ts.map pv) ts.length) := by
  have HA := Lib.hid hA; clear hA
  have HN := Lib.hid hn; clear hn
  have hmk : ∀ W : World, (Instr.makeSlice 24 (.int .i64 (ts.length : Int)) (.int .i64 (ts.length : Int))).run Try.prog W = .ok (.slice (some ⟨W.heap.size, 0, none⟩) ts.length ts.length) (W.alloc (.cells (madeCells (Value.agg #[.int .i64 0, .slice none 0 0]).cells (ts.length * 2)) 31)) := by
    intro W
    obtain ⟨i1, j1, j2, j3, j4⟩ := info_parts (P := Try.prog) (e := 31) (z := .agg #[.int .i64 0, .slice none 0 0]) (size := 2) (bytes := 32) (by kernel_rfl)
    have := run_make (P := Try.prog) W 24 31 i1 (.agg #[.int .i64 0, .slice none 0 0]) Try.underlying24 j1 j2 .i64 .i64 (ts.length : Int) (ts.length : Int) (by omega) (Int.le_refl _) (by rw [j4]; omega) (by omega)
    rw [j3] at this
    simpa using this
  go_enter Try.func23, Try.ntmps23
  go_wp2_with fail
  clear hmk
  go_loopw [4] (fun i wr => ∃ k : Nat, ∃ us : List TaskV, k ≤ ts.length ∧ i = .int .i64 k ∧ us.length = ts.length ∧ wr.ownsRow w.heap.size 31 2 (.slice (some ⟨w.heap.size, 0, none⟩) ts.length ts.length) ts.length (trow us) ∧
      (∀ j, j < k → us[j]?.map pv = ts[j]?.map pv) ∧ (∀ u, u ∈ us → Ints wr (w.heap.size + 1) wr.heap.size u.a u.c u.need) ∧ Below w.heap.size w wr ∧ w.heap.size + 1 ≤ wr.heap.size) (fun i _ => ts.length - (intOf i).toNat)
  case atStart =>
    refine ⟨0, List.replicate ts.length zeroT0, by omega, rfl, by simp, ?_, fun j hj => by omega, fun u hu => ?_, (Below.refl _ _).alloc (Nat.le_refl _) _, by simp⟩
    · rw [← madeCells_tasks]
      exact World.ownsRow_lit w _ _ (Nat.le_refl _) (by simp only [maxLen]; omega) (by simp [size_madeCells])
    · obtain rfl := (List.mem_replicate.1 hu).2
      exact ⟨by simp [zeroT0], by simp [zeroT0, maxLen], .inl rfl⟩
  case round =>
    obtain ⟨k, us, hk, rfl, hul, hown, hfill, hints, hbl, hs0⟩ := hrel
    have HO := Lib.hid hown; clear hown
    have HBl := Lib.hid hbl; clear hbl
    have HF := Lib.hid hfill; clear hfill
    have HI := Lib.hid hints; clear hints
    have HUL := Lib.hid hul; clear hul
    have hsz := HBl.out.size
    by_cases hlt : k < ts.length
    · obtain ⟨b, off, t, rfl, ht, hc1, hc2, hbh, hN⟩ := (HA.out.below HBl.out h1).at_ hlt
      have hnt := HN.out t (List.mem_of_getElem? ht)
      have HT := Lib.hid ht
      have HNt := Lib.hid hN
      clear ht hN
      have hklt : (k : Int) < ts.length := by omega
      obtain ⟨w1, hw1⟩ : ∃ W, W = wr := ⟨_, rfl⟩
      rw [← hw1] at HO HBl HI HNt hc1 hc2 hs0 hsz ⊢
      clear hw1
      go_wp2_with fail
      refine (toTask_any t.id t.a t.c _ t.need w1 HNt.out hnt (by omega)).mono ?_; rintro e w2 ⟨A2, c2, rfl, hI2, hb⟩
      have HI2 := Lib.hid hI2; clear hI2
      have hs2 := hb.size
      replace HBl := Lib.hid (HBl.out.trans (hb.mono hsz))
      replace HO := Lib.hid (ownsRow_below HO.out hb)
      replace HI : Hid (∀ u, u ∈ us → Ints w2 (w.heap.size + 1) w2.heap.size u.a u.c u.need) := Lib.hid (fun u hu => ((HI.out u hu).below hb (Nat.le_refl _)).mono (Nat.le_refl _) hs2)
      clear hb hc1 hc2
      have hku : k < us.length := by rw [HUL.out]; exact hlt
      obtain ⟨u0, hu0⟩ : ∃ u0, us[k]? = some u0 := ⟨_, List.getElem?_eq_getElem hku⟩
      have hd0 := HO.out.cellAt (k * 2) (by omega)
      rw [(trow_at hu0).1] at hd0
      have hd1 := HO.out.cellAt (k * 2 + 1) (by omega)
      rw [(trow_at hu0).2] at hd1
      have hf0 := HO.out.frozenAt (k * 2)
      have hf1 := HO.out.frozenAt (k * 2 + 1)
      clear hu0
      have hst := (HO.out.stored (k * 2) (.int .i64 t.id)).1
      have hst2 := (hst.stored (k * 2 + 1) (.slice A2 t.need.length c2)).1
      rw [trow_set2 hku ⟨t.id, A2, c2, t.need⟩] at hst2
      have HST := Lib.hid hst2
      clear hst hst2
      go_wp2_with fail
      obtain ⟨w3, hw3⟩ : ∃ W, W = (w2.setCell ⟨w.heap.size, k * 2, none⟩ (.int .i64 t.id)).setCell ⟨w.heap.size, k * 2 + 1, none⟩ (.slice A2 t.need.length c2) := ⟨_, rfl⟩
      have hO : Only w.heap.size (w.heap.size + 1) w2 w3 := by rw [hw3]; exact ((Only.refl _ _ _).setCell (p := ⟨w.heap.size, k * 2, none⟩) (Nat.le_refl _) (by simp) _).setCell (p := ⟨w.heap.size, k * 2 + 1, none⟩) (Nat.le_refl _) (by simp) _
      have hb3 : Below w.heap.size w2 w3 := by rw [hw3]; exact ((Below.refl _ _).setCell (p := ⟨w.heap.size, k * 2, none⟩) (Nat.le_refl _) _).setCell (p := ⟨w.heap.size, k * 2 + 1, none⟩) (Nat.le_refl _) _
      replace HST := HST.out
      rw [← hw3] at HST ⊢
      clear hw3
      have hs3 := hO.size
      refine ⟨⟨k + 1, us.set k ⟨t.id, A2, c2, t.need⟩, by omega, by go_num, by simp [HUL.out], HST, fun j hj => ?_, fun u hu => ?_, HBl.out.trans hb3, by omega⟩, by simp [intOf]; omega⟩
      · by_cases hjk : j = k
        · subst hjk
          rw [List.getElem?_set_self hku, HT.out]; rfl
        · rw [List.getElem?_set_ne (by omega)]; exact HF.out j (by omega)
      · rcases List.mem_or_eq_of_mem_set hu with h | rfl
        · exact ((HI.out u h).only hO (.inr (Nat.le_refl _)) (Nat.le_refl _)).mono (Nat.le_refl _) hs3
        · exact (HI2.out.only hO (.inr (by omega)) (Nat.le_refl _)).mono (by omega) hs3
    · have hO := HO.out
      rw [← HUL.out] at hO
      obtain ⟨A9, c9, he9, hT9⟩ := Tasks.of_own hO (fun u hu => (HI.out u hu).mono (by omega) (Nat.le_refl _))
      rw [HUL.out] at he9
      have HE := Lib.hid he9
      have HT9 := Lib.hid hT9
      clear hO he9 hT9
      have hm : us.map pv = ts.map pv := by
        apply List.ext_getElem?
        intro j
        rw [List.getElem?_map, List.getElem?_map]
        by_cases hj : j < k
        · exact HF.out j hj
        · rw [List.getElem?_eq_none (by rw [HUL.out]; omega), List.getElem?_eq_none (by omega)]
      have HM := Lib.hid hm; clear hm
      go_wp2_with fail
      go_ret
      exact ⟨A9, c9, us, by simpa using HE.out, HUL.out, HM.out, HT9.out, HBl.out⟩
theorem eqTaskS_eq (A B : Option Addr) (c d lo hi lo' hi' : Nat) (ts us : List TaskV) (w : World) (hA : Tasks w lo hi A c ts) (hB : Tasks w lo' hi' B d us) (he : ts.map pv = us.map pv) (hl : ts.length ≤ 1048576) (hn : ∀ t, t ∈ ts → t.need.length ≤ 2097152) (h1 : hi ≤ w.heap.size) (h2 : hi' ≤ w.heap.size) :
    Calls Try.prog 25 #[.slice A ts.length c, .slice B us.length d] w fun e w' => e = .returned (.bool true) ∧ Below w.heap.size w w' := by
  have HA := Lib.hid hA; clear hA
  have HC := Lib.hid hB; clear hB
  have HN := Lib.hid hn; clear hn
  have hel : us.length = ts.length := by have := congrArg List.length he; simpa using this.symm
  have HE := Lib.hid he; clear he
  have HEL := Lib.hid hel
  rw [hel]; clear hel
  go_enter Try.func25, Try.ntmps25
  go_wp2_with fail
  go_loopw [5] (fun i wr => ∃ k : Nat, k ≤ ts.length ∧ i = .int .i64 k ∧ Below w.heap.size w wr) (fun i _ => ts.length - (intOf i).toNat)
  case atStart => exact ⟨0, by omega, rfl, Below.refl _ _⟩
  case round =>
    obtain ⟨k, hk, rfl, hb⟩ := hrel
    have hs := hb.size
    have HB := Lib.hid hb
    replace HA := Lib.hid (HA.out.below hb h1)
    replace HC := Lib.hid (HC.out.below hb h2)
    clear hb
    by_cases hlt : k < ts.length
    · obtain ⟨b1, off1, t, rfl, ht, hc1, hc2, _, hbh1, hN1⟩ := HA.out.at_ hlt
      obtain ⟨b2, off2, u, rfl, hu, hd1, hd2, _, hbh2, hN2⟩ := HC.out.at_ (k := k) (by rw [HEL.out]; exact hlt)
      have hpv : pv t = pv u := by
        have e1 : (ts.map pv)[k]? = some (pv t) := by rw [List.getElem?_map, ht]; rfl
        have e2 : (us.map pv)[k]? = some (pv u) := by rw [List.getElem?_map, hu]; rfl
        rw [HE.out, e2] at e1
        exact (Option.some.inj e1).symm
      have hid : u.id = t.id := (congrArg Prod.fst hpv).symm
      have hne : u.need = t.need := (congrArg Prod.snd hpv).symm
      rw [hid] at hd1
      rw [hne] at hd2 hN2
      have hnt := HN.out t (List.mem_of_getElem? ht)
      have HN1 := Lib.hid hN1
      have HN2 := Lib.hid hN2
      clear ht hu hpv hid hne hN1 hN2
      have hklt : (k : Int) < ts.length := by omega
      have hq1 : b1 < wr.drew.heap.size := by show b1 < wr.heap.size; omega
      have hq2 : b2 < wr.drew.heap.size := by show b2 < wr.heap.size; omega
      have H9 := Lib.hid (eqTask_eq t.id t.a u.a t.c u.c _ _ _ _ t.need wr.drew (HN1.out.drewN 1) (HN2.out.drewN 1) hnt (by show hi ≤ wr.heap.size; omega) (by show hi' ≤ wr.heap.size; omega))
      go_wp2_with fail
      go_region_held3 (fun w' => w'.cell? ⟨b1, off1 + k * 2, none⟩ = some (.int .i64 t.id) ∧ w'.cell? ⟨b1, off1 + k * 2 + 1, none⟩ = some (.slice t.a t.need.length t.c) ∧ w'.cell? ⟨b2, off2 + k * 2, none⟩ = some (.int .i64 t.id) ∧ w'.cell? ⟨b2, off2 + k * 2 + 1, none⟩ = some (.slice u.a t.need.length u.c))
        (go_keep)
        (first | (go_at_call 49; refine H9.out.mono ?_; rintro e w5 ⟨rfl, hb5⟩; have g1 := cell_belowT hb5 hq1 hc1; have g2 := cell_belowT hb5 hq1 hc2; have g3 := cell_belowT hb5 hq2 hd1; have g4 := cell_belowT hb5 hq2 hd2; replace HB := Lib.hid ((Below.drewN HB.out 1).trans (hb5.mono (show w.heap.size ≤ wr.drew.heap.size from hs))); clear hb5))
      go_wp2_with fail
      exact ⟨⟨k + 1, by omega, by go_num, HB.out⟩, by simp [intOf]; omega⟩
    · go_wp2_with fail
      go_ret
      exact ⟨by simp, HB.out⟩
end Go.Proofs.Ytlkhfmpkbjemhaa
