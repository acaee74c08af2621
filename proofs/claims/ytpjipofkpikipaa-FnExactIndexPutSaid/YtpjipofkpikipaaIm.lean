/- Rows that lie apart: markIntSS, heldIntSS. No condition but on sizes. -/
import Derived.Test.YtpjipofkpikipaaIl
namespace Go.Proofs.Ytpjipofkpikipaa
open Go.RowKit
/-- how many numbers the first k rows have -/
def offR (us : List RowV) (k : Nat) : Nat := ((us.take k).map fun r => r.xs.length).sum
theorem offR_zero (us : List RowV) : offR us 0 = 0 := by simp [offR]
theorem offR_succ {us : List RowV} {k : Nat} {r : RowV} (h : us[k]? = some r) : offR us (k + 1) = offR us k + r.xs.length := by
  simp only [offR]
  rw [List.take_add_one, h, List.map_append, List.sum_append]; simp
theorem offR_le {us : List RowV} (hn : ∀ r, r ∈ us → r.xs.length ≤ 1048576) : ∀ k, offR us k ≤ k * 1048576 := by
  intro k
  induction k with
  | zero => rw [offR_zero]; omega
  | succ k ih =>
    rcases Nat.lt_or_ge k us.length with h | h
    · have hu : us[k]? = some us[k] := List.getElem?_eq_getElem h
      rw [offR_succ hu]
      have := hn _ (List.getElem_mem h)
      omega
    · have : offR us (k + 1) = offR us k := by simp only [offR]; rw [List.take_of_length_le (by omega), List.take_of_length_le (by omega)]
      omega
/-- rows in blocks of their own, from T on, below H; the row of rows is block T -/
structure TabH (w : World) (A : Option Addr) (T H : Nat) (us : List RowV) : Prop where
  addr : us = [] ∨ A = some ⟨T, 0, none⟩
  cell : ∀ (j : Nat) r, us[j]? = some r → w.cell? ⟨T, j, none⟩ = some (rcell r)
  ints : ∀ r, r ∈ us → Ints w (T + 1) H r.a r.c r.xs
  sep : SepR us
  lt : us = [] ∨ T < H
/-- the same rows with marks in them -/
structure MarkH (w : World) (A : Option Addr) (T H : Nat) (us : List RowV) (m : Int) : Prop where
  addr : us = [] ∨ A = some ⟨T, 0, none⟩
  cell : ∀ (j : Nat) r, us[j]? = some r → w.cell? ⟨T, j, none⟩ = some (rcell r)
  ints : ∀ (j : Nat) r, us[j]? = some r → Ints w (T + 1) H r.a r.c (marks (m + offR us j) r.xs.length)
  lt : us = [] ∨ T < H
section
variable {w w' : World} {A : Option Addr} {T H B lo hi : Nat} {us : List RowV} {m : Int}
theorem TabH.below (h : TabH w A T H us) (hb : Below B w w') (hB : H ≤ B) : TabH w' A T H us := by
  refine ⟨h.addr, fun j r hj => ?_, fun r hr => (h.ints r hr).below hb hB, h.sep, h.lt⟩
  have h0 : T < H := h.lt.resolve_left (by rintro rfl; simp at hj)
  exact cell_belowR hb (by omega) (h.cell j r hj)
theorem TabH.only (h : TabH w A T H us) (a : Only lo hi w w') (hd : H ≤ lo ∨ hi ≤ T) (hs : H ≤ w.heap.size) : TabH w' A T H us := by
  refine ⟨h.addr, fun j r hj => ?_, fun r hr => (h.ints r hr).only a (by omega) hs, h.sep, h.lt⟩
  have h0 : T < H := h.lt.resolve_left (by rintro rfl; simp at hj)
  exact (World.cell?_of_block (a := ⟨T, j, none⟩) (a.block T (by omega) (by omega))).trans (h.cell j r hj)
theorem MarkH.below (h : MarkH w A T H us m) (hb : Below B w w') (hB : H ≤ B) : MarkH w' A T H us m := by
  refine ⟨h.addr, fun j r hj => ?_, fun j r hr => (h.ints j r hr).below hb hB, h.lt⟩
  have h0 : T < H := h.lt.resolve_left (by rintro rfl; simp at hj)
  exact cell_belowR hb (by omega) (h.cell j r hj)
theorem Tab.h {n : Nat} {e : TypeId} (h : Tab w T n e us) : TabH w (some ⟨T, 0, none⟩) T w.heap.size us :=
  ⟨.inr rfl, fun j r hj => by
    obtain ⟨r', hr', hc, _⟩ := h.at_ (k := j) (by have := (List.getElem?_eq_some_iff.1 hj).1; rw [h.len] at this; exact this)
    rw [hj] at hr'
    obtain rfl := Option.some.inj hr'
    exact hc, h.ints, h.sep, .inr h.lt⟩
theorem TabH.nil (w : World) (A : Option Addr) (T H : Nat) : TabH w A T H [] := ⟨.inl rfl, by simp, by simp, fun i j u v _ hu => by simp at hu, .inl rfl⟩
end
/-- where a table of a call lies -/
def Span (w w' : World) (T H : Nat) : Prop := w.heap.size ≤ T ∧ T ≤ H ∧ H ≤ w'.heap.size
theorem RetO.tab {w w' : World} {xs : List (List Int)} {e : Ending} (h : RetO w xs e w') : ∃ A c T H, ∃ rs : List RowV, rs.map RowV.xs = xs ∧ e = .returned (.slice A rs.length c) ∧ Rws w' w.heap.size H A c rs ∧ TabH w' A T H rs ∧ Span w w' T H ∧ Below w.heap.size w w' := by
  rcases h with ⟨rfl, A, c, rfl, hc, hb⟩ | ⟨T, P, rfl, rfl, hT, ⟨us, hus, ht⟩, hb⟩
  · exact ⟨A, c, w.heap.size, w'.heap.size, [], rfl, rfl, Rws.zero _ _ _ _ _ hc, TabH.nil _ _ _ _, ⟨Nat.le_refl _, hb.size, Nat.le_refl _⟩, hb⟩
  · exact ⟨some ⟨T, 0, none⟩, 32, T, w'.heap.size, us, hus, by rw [ht.len], ht.rws.mono hT (Nat.le_refl _), ht.h, ⟨hT, Nat.le_of_lt ht.lt, Nat.le_refl _⟩, hb⟩
theorem RetP.tab {w w' : World} {xs : List (List Int)} {b : Bool} {e : Ending} (h : RetP w (xs, b) e w') : ∃ A c T H, ∃ rs : List RowV, rs.map RowV.xs = xs ∧ e = .returned (.tuple #[.slice A rs.length c, .bool b]) ∧ Rws w' w.heap.size H A c rs ∧ TabH w' A T H rs ∧ Span w w' T H ∧ Below w.heap.size w w' := by
  rcases h with ⟨he, A, c, rfl, hc, hb⟩ | ⟨T, us, he, hl, rfl, hT, ht, hb⟩
  · simp only [Prod.mk.injEq] at he
    obtain ⟨rfl, rfl⟩ := he
    exact ⟨A, c, w.heap.size, w'.heap.size, [], rfl, rfl, Rws.zero _ _ _ _ _ hc, TabH.nil _ _ _ _, ⟨Nat.le_refl _, hb.size, Nat.le_refl _⟩, hb⟩
  · simp only [Prod.mk.injEq] at he
    obtain ⟨rfl, rfl⟩ := he
    exact ⟨some ⟨T, 0, none⟩, 32, T, w'.heap.size, us, rfl, by rw [hl], ht.rws.mono hT (Nat.le_refl _), ht.h, ⟨hT, Nat.le_of_lt ht.lt, Nat.le_refl _⟩, hb⟩
theorem toIntSST_any (A : Option Addr) (c hi : Nat) (ts : List RowV) (w : World) (hA : RwsR w hi A ts) (hl : ts.length ≤ 1048576) (hn : ∀ t, t ∈ ts → t.xs.length ≤ 1048576) (h1 : hi ≤ w.heap.size) :
    Calls Try.prog 22 #[.slice A ts.length c] w fun e w' => ∃ T H, ∃ us : List RowV, us.map RowV.xs = ts.map RowV.xs ∧ us.length = ts.length ∧ e = .returned (.slice (some ⟨T, 0, none⟩) ts.length ts.length) ∧
      Rws w' T H (some ⟨T, 0, none⟩) ts.length us ∧ TabH w' (some ⟨T, 0, none⟩) T H us ∧ Span w w' T H ∧ Below w.heap.size w w' :=
  (toIntSS_any A c hi ts w hA hl hn h1).mono fun e w' h => by
    obtain ⟨us, rfl, hl, hm, ht, hb⟩ := h
    exact ⟨_, _, us, hm, hl, rfl, ht.rws, ht.h, ⟨Nat.le_refl _, hb.size, Nat.le_refl _⟩, hb⟩
/-- a row that is not empty lies in one block -/
theorem Ints.one {w : World} {lo hi c : Nat} {A : Option Addr} {ys : List Int} (h : Ints w lo hi A c ys) (h0 : 0 < ys.length) : ∃ b, lo ≤ b ∧ b < hi ∧ (∃ o, A = some ⟨b, o, none⟩) ∧ Ints w b (b + 1) A c ys := by
  obtain ⟨b, off, h1, h2, h3, h4⟩ := h.form h0
  exact ⟨b, h2, h3, ⟨off, h1⟩, h.1, h.2.1, .inr ⟨b, off, h1, Nat.le_refl _, by omega, h4⟩⟩
theorem Ints.apart {w w' : World} {lo hi b c c' : Nat} {A B : Option Addr} {xs ys : List Int} (h : Ints w lo hi B c' ys) (a : Only b (b + 1) w w') (hn : xs ≠ []) (hA : ∃ o, A = some ⟨b, o, none⟩) (zs : List Int) (hz : zs.length = ys.length) (hs : ApartR ⟨A, c, xs⟩ ⟨B, c', zs⟩) (hh : hi ≤ w.heap.size) : Ints w' lo hi B c' ys := by
  by_cases h0 : ys = []
  · exact ⟨h.1, h.2.1, .inl h0⟩
  · obtain ⟨b2, off, e1, e2, e3, e4⟩ := h.form (List.length_pos_iff.2 h0)
    obtain ⟨o, hA⟩ := hA
    have hne : b ≠ b2 := hs b o b2 off hn (by intro h; subst h; exact h0 (List.eq_nil_of_length_eq_zero hz.symm)) hA e1
    have hb : w'.heap[b2]? = w.heap[b2]? := a.block b2 (by omega) (by omega)
    refine ⟨h.1, h.2.1, .inr ⟨b2, off, e1, e2, e3, fun k y hk => ?_⟩⟩
    rw [World.cell?_of_block (a := ⟨b2, off + k, none⟩) hb, World.frozen?_of_block (a := ⟨b2, off + k, none⟩) hb]
    exact e4 k y hk
theorem SepR.of {us : List RowV} (h : SepR us) {i j : Nat} {u v : RowV} (hij : i ≠ j) (hu : us[i]? = some u) (hv : us[j]? = some v) : ApartR u v := by
  rcases Nat.lt_or_gt_of_ne hij with h1 | h1
  · exact h i j u v h1 hu hv
  · exact (h j i v u h1 hv hu).symm
/-- state while the rows are marked: k of them are -/
structure MarkK (w : World) (A : Option Addr) (T H : Nat) (us : List RowV) (m : Int) (k : Nat) : Prop where
  cell : ∀ (j : Nat) r, us[j]? = some r → w.cell? ⟨T, j, none⟩ = some (rcell r)
  done : ∀ (j : Nat) r, j < k → us[j]? = some r → Ints w (T + 1) H r.a r.c (marks (m + offR us j) r.xs.length)
  left : ∀ (j : Nat) r, k ≤ j → us[j]? = some r → Ints w (T + 1) H r.a r.c r.xs
theorem markIntSS_any (A : Option Addr) (T H c : Nat) (us : List RowV) (m : Int) (w : World) (h : TabH w A T H us) (hH : H ≤ w.heap.size) (hl : us.length ≤ 1048576) (hn : ∀ r, r ∈ us → r.xs.length ≤ 1048576) (hm : 0 ≤ m ∧ m ≤ 2) :
    Calls Try.prog 24 #[.slice A us.length c, .int .i64 m] w fun e w' => e = .returned (.int .i64 (m + offR us us.length)) ∧ MarkH w' A T H us m ∧ Only T H w w' ∧ w'.heap.size = w.heap.size := by
  have HT := Lib.hid h; clear h
  have HN := Lib.hid hn; clear hn
  go_enter Try.func24, Try.ntmps24
  go_wp2_with fail
  go_loopw [1, 5] (fun x i wr => ∃ k : Nat, ∃ v : Int, k ≤ us.length ∧ i = .int .i64 k ∧ x = .int .i64 v ∧ v = m + offR us k ∧ MarkK wr A T H us m k ∧ Only T H w wr ∧ wr.heap.size = w.heap.size) (fun _ i _ => us.length - (intOf i).toNat)
  case atStart => exact ⟨0, m, by omega, rfl, rfl, by rw [offR_zero]; simp, ⟨HT.out.cell, fun j r hj => by omega, fun j r _ hj => HT.out.ints r (List.mem_of_getElem? hj)⟩, Only.refl _ _ _, rfl⟩
  case round =>
    obtain ⟨k, v, hk, rfl, rfl, hv, hM, hO, hsz⟩ := hrel
    have HM := Lib.hid hM; clear hM
    have HO := Lib.hid hO; clear hO
    have HSZ := Lib.hid hsz
    have HV := Lib.hid hv
    have hok := offR_le HN.out k
    have hvb : 0 ≤ v ∧ v ≤ 1099511627780 := by omega
    obtain ⟨hz1, hz2⟩ := le_le hsz
    clear hsz hv hok
    by_cases hlt : k < us.length
    · obtain ⟨t, ht⟩ : ∃ t, us[k]? = some t := ⟨_, List.getElem?_eq_getElem hlt⟩
      have hA : A = some ⟨T, 0, none⟩ := HT.out.addr.resolve_left (by rintro rfl; simp at hlt)
      subst hA
      have hTH : T < H := HT.out.lt.resolve_left (by rintro rfl; simp at hlt)
      have hIt := HM.out.left k t (Nat.le_refl _) ht
      have hnt := HN.out t (List.mem_of_getElem? ht)
      have hc := HM.out.cell k t ht
      simp only [rcell] at hc
      have HX := Lib.hid ht
      have HOF := Lib.hid (offR_succ ht)
      have hklt : (k : Int) < us.length := by omega
      clear ht
      obtain ⟨b, r, hbr, hr, hIb⟩ : ∃ b r, T + 1 ≤ b ∧ r ≤ H ∧ Ints wr b r t.a t.c t.xs ∧ (0 < t.xs.length → r = b + 1 ∧ ∃ o, t.a = some ⟨b, o, none⟩) ∧ (t.xs = [] → r = b) := by
        by_cases h0 : 0 < t.xs.length
        · obtain ⟨b, h1, h2, h3, h4⟩ := hIt.one h0
          exact ⟨b, b + 1, h1, by omega, h4, fun _ => ⟨rfl, h3⟩, fun h => by rw [h] at h0; simp at h0⟩
        · exact ⟨T + 1, T + 1, Nat.le_refl _, by omega, ⟨hIt.1, hIt.2.1, .inl (List.eq_nil_of_length_eq_zero (by omega))⟩, fun h => absurd h h0, fun _ => rfl⟩
      have HIB := Lib.hid hIb.1
      have HBB := Lib.hid hIb.2
      clear hIb hIt
      go_wp2_with fail
      refine (markIntS_any t.a t.c b r t.xs v wr HIB.out (by omega) (by omega)).mono ?_; rintro e w2 ⟨rfl, hI2, hO2, hs2⟩
      have HI2 := Lib.hid hI2
      have HO2 := Lib.hid hO2
      have HS2 := Lib.hid (show w2.heap.size = w.heap.size by rw [hs2]; exact HSZ.out)
      clear hI2 hO2 hs2
      have hbk : ∀ p, p < b ∨ r ≤ p → p < wr.heap.size → w2.heap[p]? = wr.heap[p]? := fun p h1 h2 => HO2.out.block p h2 h1
      have hM2 : MarkK w2 (some ⟨T, 0, none⟩) T H us m (k + 1) := by
        refine ⟨fun j r' hj => ?_, fun j r' hj hr' => ?_, fun j r' hj hr' => ?_⟩
        · exact (World.cell?_of_block (a := ⟨T, j, none⟩) (hbk T (.inl (by omega)) (by omega))).trans (HM.out.cell j r' hj)
        · by_cases hjk : j = k
          · subst hjk
            have := HX.out
            rw [hr'] at this
            obtain rfl := Option.some.inj this
            rw [← HV.out]
            exact HI2.out.mono hbr hr
          · have hq := HM.out.done j r' (by omega) hr'
            by_cases h0 : 0 < t.xs.length
            · obtain ⟨rfl, ho⟩ := HBB.out.1 h0
              exact Ints.apart (c := t.c) (xs := t.xs) hq HO2.out (List.length_pos_iff.1 h0) ho r'.xs (by rw [marks_len]) (HT.out.sep.of (fun h => hjk h.symm) HX.out hr') (by omega)
            · have hrb := HBB.out.2 (List.eq_nil_of_length_eq_zero (by omega))
              exact hq.keep fun p h1 h2 => ⟨World.cell?_of_block (hbk p.block (by omega) (by omega)), World.frozen?_of_block (hbk p.block (by omega) (by omega))⟩
        · have hq := HM.out.left j r' (by omega) hr'
          by_cases h0 : 0 < t.xs.length
          · obtain ⟨rfl, ho⟩ := HBB.out.1 h0
            exact Ints.apart (c := t.c) (xs := t.xs) hq HO2.out (List.length_pos_iff.1 h0) ho r'.xs rfl (HT.out.sep.of (by omega) HX.out hr') (by omega)
          · have hrb := HBB.out.2 (List.eq_nil_of_length_eq_zero (by omega))
            exact hq.keep fun p h1 h2 => ⟨World.cell?_of_block (hbk p.block (by omega) (by omega)), World.frozen?_of_block (hbk p.block (by omega) (by omega))⟩
      have HM2 := Lib.hid hM2
      have HOn := Lib.hid (HO.out.trans (HO2.out.mono (show T ≤ b by omega) hr))
      clear hM2 hbk hc
      go_wp2_with fail
      exact ⟨⟨k + 1, v + t.xs.length, by omega, by go_num, rfl, by rw [HOF.out, HV.out]; omega, HM2.out, HOn.out, HS2.out⟩, by simp [intOf]; omega⟩
    · have hke : k = us.length := by omega
      have HF : Hid (MarkH wr A T H us m) := Lib.hid ⟨HT.out.addr, HM.out.cell, fun j r hj => HM.out.done j r (by have := (List.getElem?_eq_some_iff.1 hj).1; omega) hj, HT.out.lt⟩
      have HV2 : Hid (v = m + offR us us.length) := Lib.hid (by rw [← hke]; exact HV.out)
      clear hke
      go_wp2_with fail
      go_ret
      exact ⟨by simp [HV2.out], HF.out, HO.out, HSZ.out⟩
theorem heldIntSS_any (A : Option Addr) (T H c : Nat) (us : List RowV) (m : Int) (w : World) (h : MarkH w A T H us m) (hl : us.length ≤ 1048576) (hn : ∀ r, r ∈ us → r.xs.length ≤ 1048576) (hm : 0 ≤ m ∧ m ≤ 2) :
    Calls Try.prog 25 #[.slice A us.length c, .int .i64 m] w fun e w' => e = .returned (.int .i64 (m + offR us us.length)) ∧ w = w' := by
  have HT := Lib.hid h; clear h
  have HN := Lib.hid hn; clear hn
  go_enter Try.func25, Try.ntmps25
  go_wp2_with fail
  go_loopw [1, 5] (fun x i wr => ∃ k : Nat, ∃ v : Int, k ≤ us.length ∧ i = .int .i64 k ∧ x = .int .i64 v ∧ v = m + offR us k ∧ w = wr) (fun _ i _ => us.length - (intOf i).toNat)
  case atStart => exact ⟨0, m, by omega, rfl, rfl, by rw [offR_zero]; simp, rfl⟩
  case round =>
    obtain ⟨k, v, hk, rfl, rfl, hv, rfl⟩ := hrel
    have HV := Lib.hid hv
    have hok := offR_le HN.out k
    have hvb : 0 ≤ v ∧ v ≤ 1099511627780 := by omega
    clear hv hok
    by_cases hlt : k < us.length
    · obtain ⟨t, ht⟩ : ∃ t, us[k]? = some t := ⟨_, List.getElem?_eq_getElem hlt⟩
      have hA : A = some ⟨T, 0, none⟩ := HT.out.addr.resolve_left (by rintro rfl; simp at hlt)
      subst hA
      have hIt := HT.out.ints k t ht
      rw [← HV.out] at hIt
      have hnt := HN.out t (List.mem_of_getElem? ht)
      have hc := HT.out.cell k t ht
      simp only [rcell] at hc
      have HI := Lib.hid hIt
      have HOF := Lib.hid (offR_succ ht)
      have hklt : (k : Int) < us.length := by omega
      have hv0 : ¬ (v + (t.xs.length : Int) < 0) := by omega
      clear ht hIt
      go_wp2_with fail
      refine (heldIntS_any t.a t.c _ _ t.xs.length v w HI.out (by omega) (by omega)).mono ?_; rintro e w2 ⟨rfl, rfl⟩
      go_wp2_with fail
      exact ⟨⟨k + 1, v + t.xs.length, by omega, by go_num, rfl, by rw [HOF.out, HV.out]; omega, trivial⟩, by simp [intOf]; omega⟩
    · have hke : k = us.length := by omega
      have HV2 : Hid (v = m + offR us us.length) := Lib.hid (by rw [← hke]; exact HV.out)
      clear hke
      go_wp2_with fail
      go_ret
      exact ⟨by simp [HV2.out], rfl⟩
end Go.Proofs.Ytpjipofkpikipaa
