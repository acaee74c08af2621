/- Helpers of the statements on slices of rows: szIntSS, toIntSS, eqIntSS, sameTable, markIntSS, heldIntSS. No condition but on sizes. -/
import Derived.Test.YtpjipofkpikipaaTe
import Derived.Test.YtpjipofkpikipaaIc
namespace Go.Proofs.Ytpjipofkpikipaa
open Go.RowKit
theorem same_xs {ts us : List RowV} (h : us.map RowV.xs = ts.map RowV.xs) {Q : List Int → Prop} (hq : ∀ t, t ∈ ts → Q t.xs) : ∀ u, u ∈ us → Q u.xs := by
  intro u hu
  have : u.xs ∈ us.map RowV.xs := List.mem_map.2 ⟨u, hu, rfl⟩
  rw [h] at this
  obtain ⟨t, ht, he⟩ := List.mem_map.1 this
  rw [← he]
  exact hq t ht
theorem szIntSS_any (A : Option Addr) (c hi : Nat) (ts : List RowV) (left : Int) (w : World) (hA : RwsR w hi A ts) (hl : 0 ≤ left ∧ left ≤ 1048576) (hm : ts.length ≤ maxLen) (hn : ∀ t, t ∈ ts → t.xs.length ≤ maxLen) (h1 : hi ≤ w.heap.size) :
    Calls Try.prog 21 #[.slice A ts.length c, .int .i64 left] w fun e w' => ∃ u : Int, e = .returned (.int .i64 u) ∧ (0 ≤ u → ts.length ≤ 1048576 ∧ ∀ t, t ∈ ts → t.xs.length ≤ 1048576) ∧ Below w.heap.size w w' := by
  have HA := Lib.hid hA; clear hA
  have HN := Lib.hid hn; clear hn
  have hm' : ts.length ≤ 9223372036854775807 := by simpa [maxLen] using hm
  clear hm
  have hwr : IntKind.i64.wrap (left - (ts.length : Int)) = left - ts.length := by rw [IntKind.wrap_i64]; omega
  by_cases hlt0 : left - (ts.length : Int) < 0
  · go_enter Try.func21, Try.ntmps21
    go_wp2_with fail
    go_ret
    exact ⟨-1, by simp, by omega, Below.refl _ _⟩
  go_enter Try.func21, Try.ntmps21
  go_wp2_with fail
  go_loopw [1, 5] (fun l i wr => ∃ k : Nat, ∃ u : Int, k ≤ ts.length ∧ i = .int .i64 k ∧ l = .int .i64 u ∧ (0 ≤ u ∧ u ≤ 1048576) ∧ (∀ j t, j < k → ts[j]? = some t → t.xs.length ≤ 1048576) ∧ Below w.heap.size w wr) (fun _ i _ => ts.length - (intOf i).toNat)
  case atStart => exact ⟨0, left - ts.length, by omega, rfl, rfl, by omega, fun j t hj => by omega, Below.refl _ _⟩
  case round =>
    obtain ⟨k, u, hk, rfl, rfl, hu, hall, hbl⟩ := hrel
    have HL := Lib.hid hall; clear hall
    have HB := Lib.hid hbl; clear hbl
    have hsz := HB.out.size
    by_cases hlt : k < ts.length
    · obtain ⟨b, off, t, rfl, ht, hc1, hbh, hI⟩ := (HA.out.below HB.out h1).at_ hlt
      have HT := Lib.hid ht
      have hnt := HN.out t (List.mem_of_getElem? ht)
      clear ht hI
      have hklt : (k : Int) < ts.length := by omega
      obtain ⟨v, hv⟩ : ∃ v, szv u t.xs.length = v := ⟨_, rfl⟩
      have h2 := fun W => szIntS_any t.a t.xs.length t.c u W hu hnt
      rw [hv] at h2
      have hvb := szv_bd (n := t.xs.length) hu
      rw [hv] at hvb
      have H2 := Lib.hid h2
      have HV := Lib.hid hv
      clear h2 hv
      go_wp2_with fail
      refine (H2.out _).mono ?_; rintro e w2 ⟨rfl, rfl⟩
      by_cases hv0 : v < 0
      · go_wp2_with fail
        go_ret
        exact ⟨-1, by simp, by omega, HB.out⟩
      · go_wp2_with fail
        refine ⟨⟨k + 1, v, by omega, by go_num, rfl, by omega, fun j t' hj ht' => ?_, HB.out⟩, by simp [intOf]; omega⟩
        by_cases hjk : j = k
        · subst hjk
          have e1 := HT.out
          rw [ht'] at e1
          obtain rfl := Option.some.inj e1
          have h := HV.out
          have := szv_hi (left := u) (n := t'.xs.length) (by rw [h]; omega)
          omega
        · exact HL.out j t' (by omega) ht'
    · go_wp2_with fail
      go_ret
      refine ⟨u, by simp, fun _ => ⟨by omega, fun t ht => ?_⟩, HB.out⟩
      obtain ⟨j, hj⟩ := List.getElem?_of_mem ht
      exact HL.out j t (by have := (List.getElem?_eq_some_iff.1 hj).1; omega) hj
/-- a table in new memory, copied -/
def RetTb (w : World) (xss : List (List Int)) (n : Nat) (ty : TypeId) (e : Ending) (w' : World) : Prop :=
  ∃ us : List RowV, e = .returned (.slice (some ⟨w.heap.size, 0, none⟩) n n) ∧ us.length = n ∧ us.map RowV.xs = xss ∧ Tab w' w.heap.size n ty us ∧ Below w.heap.size w w'
theorem toIntSS_any (A : Option Addr) (c hi : Nat) (ts : List RowV) (w : World) (hA : RwsR w hi A ts) (hl : ts.length ≤ 1048576) (hn : ∀ t, t ∈ ts → t.xs.length ≤ 1048576) (h1 : hi ≤ w.heap.size) :
    Calls Try.prog 22 #[.slice A ts.length c] w (RetTb w (ts.map RowV.xs) ts.length 28) := by
  have HA := Lib.hid hA; clear hA
  have HN := Lib.hid hn; clear hn
  have hmk : ∀ W, (Instr.makeSlice 23 (.int .i64 (ts.length : Int)) (.int .i64 (ts.length : Int))).run Try.prog W = .ok (.slice (some ⟨W.heap.size, 0, none⟩) ts.length ts.length) (W.alloc (.cells (madeCells #[Value.slice none 0 0] ts.length) 28)) := make_rows ts.length hl
  go_enter Try.func22, Try.ntmps22
  go_wp2_with fail
  clear hmk
  go_loopw [4] (fun i wr => ∃ k : Nat, ∃ us : List RowV, k ≤ ts.length ∧ i = .int .i64 k ∧ Tab wr w.heap.size ts.length 28 us ∧ (∀ j, j < k → us[j]?.map RowV.xs = ts[j]?.map RowV.xs) ∧ Below w.heap.size w wr) (fun i _ => ts.length - (intOf i).toNat)
  case atStart => exact ⟨0, _, by omega, rfl, tab_made w ts.length hl, fun j hj => by omega, (Below.refl _ _).alloc (Nat.le_refl _) _⟩
  case round =>
    obtain ⟨k, us, hk, rfl, hT, hF, hB⟩ := hrel
    have HT := Lib.hid hT
    have HF := Lib.hid hF
    have HB := Lib.hid hB
    have hs := hB.size
    have hlt0 := hT.lt
    clear hT hF hB
    by_cases hlt : k < ts.length
    · obtain ⟨b, off, t, rfl, ht, hc, hbh, hI⟩ := (HA.out.below HB.out h1).at_ hlt
      have hnt := HN.out t (List.mem_of_getElem? ht)
      have HX := Lib.hid ht
      have HI := Lib.hid hI
      have hklt : (k : Int) < ts.length := by omega
      clear ht hI
      go_wp2_with fail
      refine (toIntS_any t.a t.c hi t.xs wr HI.out hnt (by omega)).mono ?_; rintro e w2 ⟨A2, c2, rfl, hI2, hb2⟩
      have hT2 := HT.out.below hb2
      obtain ⟨r0, hr0, hd0, hf0, _⟩ := hT2.at_ (k := k) hlt
      have hTS := Tab.set_ (k := k) (t := ⟨A2, c2, t.xs⟩) HT.out hb2 hI2
      have hku : k < us.length := by rw [HT.out.len]; exact hlt
      have HTS : Hid (Tab (w2.setCell ⟨w.heap.size, k, none⟩ (.slice A2 t.xs.length c2)) w.heap.size ts.length 28 (us.set k ⟨A2, c2, t.xs⟩)) := Lib.hid hTS
      have HBn : Hid (Below w.heap.size w (w2.setCell ⟨w.heap.size, k, none⟩ (.slice A2 t.xs.length c2))) := Lib.hid ((HB.out.trans (hb2.mono hs)).setCell (p := ⟨w.heap.size, k, none⟩) (Nat.le_refl _) _)
      clear hI2 hT2 hr0 hTS hb2 hc
      go_wp2_with fail
      refine ⟨⟨k + 1, _, by omega, by go_num, HTS.out, fun j hj => ?_, HBn.out⟩, by simp [intOf]; omega⟩
      by_cases hjk : j = k
      · subst hjk
        rw [List.getElem?_set_self hku, HX.out]; rfl
      · rw [List.getElem?_set_ne (by omega)]; exact HF.out j (by omega)
    · have hm : us.map RowV.xs = ts.map RowV.xs := by
        apply List.ext_getElem?
        intro j
        rw [List.getElem?_map, List.getElem?_map]
        by_cases hj : j < k
        · exact HF.out j hj
        · rw [List.getElem?_eq_none (by rw [HT.out.len]; omega), List.getElem?_eq_none (by omega)]
      have HM := Lib.hid hm; clear hm
      go_wp2_with fail
      go_ret
      exact ⟨us, by simp, HT.out.len, HM.out, HT.out, HB.out⟩
theorem eqIntSS_eq (A B : Option Addr) (c d lo hi lo' hi' : Nat) (us vs : List RowV) (w : World) (hA : Rws w lo hi A c us) (hB : Rws w lo' hi' B d vs) (he : us.map RowV.xs = vs.map RowV.xs) (hl : us.length ≤ 1048576) (hn : ∀ t, t ∈ us → t.xs.length ≤ 2097152) :
    Calls Try.prog 23 #[.slice A us.length c, .slice B vs.length d] w fun e w' => e = .returned (.bool true) ∧ ∃ n, w' = w.drewN n := by
  have HA := Lib.hid hA; clear hA
  have HB := Lib.hid hB; clear hB
  have HN := Lib.hid hn; clear hn
  have hel : vs.length = us.length := by have := congrArg List.length he; simpa using this.symm
  have HE := Lib.hid he; clear he
  have HEL := Lib.hid hel
  rw [hel]; clear hel
  go_enter Try.func23, Try.ntmps23
  go_wp2_with fail
  go_loopw [5] (fun i wr => ∃ k n : Nat, k ≤ us.length ∧ i = .int .i64 k ∧ wr = w.drewN n) (fun i _ => us.length - (intOf i).toNat)
  case atStart => exact ⟨0, 0, by omega, rfl, rfl⟩
  case round =>
    obtain ⟨k, n, hk, rfl, rfl⟩ := hrel
    by_cases hlt : k < us.length
    · obtain ⟨b1, off1, t, rfl, ht, hc1, _, _, hN1⟩ := HA.out.at_ hlt
      obtain ⟨b2, off2, u, rfl, hu, hc2, _, _, hN2⟩ := HB.out.at_ (k := k) (by rw [HEL.out]; exact hlt)
      have hx : u.xs = t.xs := by
        have e1 : (us.map RowV.xs)[k]? = some t.xs := by rw [List.getElem?_map, ht]; rfl
        have e2 : (vs.map RowV.xs)[k]? = some u.xs := by rw [List.getElem?_map, hu]; rfl
        rw [HE.out, e2] at e1
        exact Option.some.inj e1
      rw [hx] at hc2 hN2
      have hnt := HN.out t (List.mem_of_getElem? ht)
      have H9 := Lib.hid (fun m => eqIntS_eq t.a u.a t.c u.c _ _ _ _ t.xs (w.drewN m) (hN1.drewN m) (hN2.drewN m) hnt)
      clear ht hu hx hN1 hN2
      have hklt : (k : Int) < us.length := by omega
      go_wp2_with fail
      go_region_held3 (fun w' => w'.cell? ⟨b1, off1 + k, none⟩ = some (.slice t.a t.xs.length t.c) ∧ w'.cell? ⟨b2, off2 + k, none⟩ = some (.slice u.a t.xs.length u.c)) (exact ⟨hc1, hc2⟩)
        (first | (go_at_call 33; refine (H9.out (n + 1)).mono ?_; rintro e w5 ⟨rfl, n5, rfl⟩))
      go_wp2_with fail
      exact ⟨⟨k + 1, _, by omega, by go_num, rfl⟩, by simp [intOf]; omega⟩
    · go_wp2_with fail
      go_ret
      exact ⟨by simp, _, rfl⟩
theorem sameTable_eq (A B : Option Addr) (c d lo hi lo' hi' : Nat) (us vs : List RowV) (w : World) (hA : Rws w lo hi A c us) (hB : Rws w lo' hi' B d vs) (he : us.map RowV.xs = vs.map RowV.xs) (hl : us.length ≤ 1048576) (hn : ∀ t, t ∈ us → t.xs.length ≤ 2097152) :
    Calls Try.prog 19 #[.slice A us.length c, .slice B vs.length d] w fun e w' => e = .returned (.bool true) ∧ ∃ n, w' = w.drewN n := by
  have HA := Lib.hid hA; clear hA
  have HB := Lib.hid hB; clear hB
  have HN := Lib.hid hn; clear hn
  have hel : vs.length = us.length := by have := congrArg List.length he; simpa using this.symm
  have HE := Lib.hid he; clear he
  have HEL := Lib.hid hel
  rw [hel]; clear hel
  go_enter Try.func19, Try.ntmps19
  go_wp2_with fail
  go_loopw [5] (fun i wr => ∃ k n : Nat, k ≤ us.length ∧ i = .int .i64 k ∧ wr = w.drewN n) (fun i _ => us.length - (intOf i).toNat)
  case atStart => exact ⟨0, 0, by omega, rfl, rfl⟩
  case round =>
    obtain ⟨k, n, hk, rfl, rfl⟩ := hrel
    by_cases hlt : k < us.length
    · obtain ⟨b1, off1, t, rfl, ht, hc1, _, _, hN1⟩ := HA.out.at_ hlt
      obtain ⟨b2, off2, u, rfl, hu, hc2, _, _, hN2⟩ := HB.out.at_ (k := k) (by rw [HEL.out]; exact hlt)
      have hx : u.xs = t.xs := by
        have e1 : (us.map RowV.xs)[k]? = some t.xs := by rw [List.getElem?_map, ht]; rfl
        have e2 : (vs.map RowV.xs)[k]? = some u.xs := by rw [List.getElem?_map, hu]; rfl
        rw [HE.out, e2] at e1
        exact Option.some.inj e1
      rw [hx] at hc2 hN2
      have hnt := HN.out t (List.mem_of_getElem? ht)
      have H9 := Lib.hid (fun m => sameInts_eq t.a u.a t.c u.c _ _ _ _ t.xs (w.drewN m) (hN1.drewN m) (hN2.drewN m) hnt)
      clear ht hu hx hN1 hN2
      have hklt : (k : Int) < us.length := by omega
      go_wp2_with fail
      go_region_held3 (fun w' => w'.cell? ⟨b1, off1 + k, none⟩ = some (.slice t.a t.xs.length t.c) ∧ w'.cell? ⟨b2, off2 + k, none⟩ = some (.slice u.a t.xs.length u.c)) (exact ⟨hc1, hc2⟩)
        (first | (go_at_call 28; refine (H9.out (n + 1)).mono ?_; rintro e w5 ⟨rfl, n5, rfl⟩))
      go_wp2_with fail
      exact ⟨⟨k + 1, _, by omega, by go_num, rfl⟩, by simp [intOf]; omega⟩
    · go_wp2_with fail
      go_ret
      exact ⟨by simp, _, rfl⟩
end Go.Proofs.Ytpjipofkpikipaa
