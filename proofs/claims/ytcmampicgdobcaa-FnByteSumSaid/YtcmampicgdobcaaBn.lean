/- Nodes: slices of slices of tasks; l2All, slices.Grow, slices.Concat. No condition but on sizes. -/
import Derived.Test.YtcmampicgdobcaaLo
import Derived.Test.YtcmampicgdobcaaDu
import Derived.Lib.AppendZeros
namespace Go.Proofs.Ytcmampicgdobcaa
open Go.RowKit
/-- a node as it lies -/
structure BinV where
  a : Option Addr
  c : Nat
  ts : List TaskV
def bcell (b : BinV) : Value := .slice b.a b.ts.length b.c
def bpv (b : BinV) : List (Int × List Int) := b.ts.map pv
def bflat (bs : List BinV) : List TaskV := bs.flatMap (·.ts)
theorem bflat_pv (bs : List BinV) : (bflat bs).map pv = (bs.map bpv).flatten := by
  induction bs with
  | nil => rfl
  | cons b r ih => simp only [bflat, List.flatMap_cons, List.map_append, List.map_cons, List.flatten_cons] at *; rw [ih]; rfl
theorem bflat_snoc {bs : List BinV} {k : Nat} {b : BinV} (h : bs[k]? = some b) : bflat (bs.take (k + 1)) = bflat (bs.take k) ++ b.ts := by
  rw [take_succ_some h]; simp [bflat]
theorem bflat_len {bs : List BinV} (k : Nat) : (bflat (bs.take k)).length ≤ (bflat bs).length := by
  have h : bs = bs.take k ++ bs.drop k := (List.take_append_drop k bs).symm
  conv => rhs; rw [h]
  simp only [bflat, List.flatMap_append, List.length_append]; omega
theorem mem_bflat {bs : List BinV} {b : BinV} (h : b ∈ bs) : ∀ t, t ∈ b.ts → t ∈ bflat bs := fun _ ht => List.mem_flatMap.2 ⟨b, h, ht⟩
/-- a slice of nodes -/
def Bins (w : World) (lo hi : Nat) (A : Option Addr) (c : Nat) (bs : List BinV) : Prop :=
  Cells w lo hi A c bs.length 1 (bs.map bcell) ∧ ∀ b, b ∈ bs → Tasks w lo hi b.a b.c b.ts
section
variable {w w' : World} {lo hi lo' hi' l h B c : Nat} {A : Option Addr} {bs : List BinV}
theorem Bins.at_ (h : Bins w lo hi A c bs) {k : Nat} (hk : k < bs.length) :
    ∃ b off x, A = some ⟨b, off, none⟩ ∧ bs[k]? = some x ∧ w.cell? ⟨b, off + k, none⟩ = some (.slice x.a x.ts.length x.c) ∧ lo ≤ b ∧ b < hi ∧ Tasks w lo hi x.a x.c x.ts := by
  obtain ⟨b, off, h1, h2, h3, h4⟩ := h.1.form (by omega)
  have hp : bs[k]? = some bs[k] := List.getElem?_eq_getElem hk
  exact ⟨b, off, _, h1, hp, h4 k _ (by rw [List.getElem?_map, hp]; rfl), h2, h3, h.2 _ (List.getElem_mem hk)⟩
theorem Bins.below (h : Bins w lo hi A c bs) (hb : Below B w w') (hB : hi ≤ B) : Bins w' lo hi A c bs :=
  ⟨h.1.below hb hB, fun t ht => (h.2 t ht).below hb hB⟩
theorem Bins.mono (h : Bins w lo hi A c bs) (h1 : lo' ≤ lo) (h2 : hi ≤ hi') : Bins w lo' hi' A c bs :=
  ⟨h.1.mono h1 h2, fun t ht => (h.2 t ht).mono h1 h2⟩
theorem Bins.only (k : Bins w l h A c bs) (a : Only lo hi w w') (hd : h ≤ lo ∨ hi ≤ l) (hs : h ≤ w.heap.size) : Bins w' l h A c bs :=
  ⟨k.1.only a hd hs, fun t ht => (k.2 t ht).only a hd hs⟩
theorem Bins.drewN (h : Bins w lo hi A c bs) (n : Nat) : Bins (w.drewN n) lo hi A c bs := h
theorem Bins.len (h : Bins w lo hi A c bs) : bs.length ≤ c ∧ c ≤ maxLen := ⟨h.1.1, h.1.2.1⟩
end
/-- all tasks in a slice of the call's own -/
theorem own_all {w : World} {base e hi : Nat} {A : Option Addr} {c : Nat} {bs : List BinV} {us : List TaskV} (h : w.ownsRow base e 2 (.slice A us.length c) us.length (trow us)) (hb : ∀ b, b ∈ bs → Tasks w 0 hi b.a b.c b.ts) (hh : hi ≤ w.heap.size) (hu : us = bflat bs) :
    Tasks w 0 w.heap.size A c us := by
  obtain ⟨A9, c9, he9, hT9⟩ := Tasks.of_own (ownsRow_base h (Nat.zero_le _)) (fun t ht => by
    rw [hu] at ht
    obtain ⟨b, hb1, hb2⟩ := List.mem_flatMap.1 ht
    exact ((hb b hb1).2 t hb2).mono (Nat.le_refl _) hh)
  simp only [Value.slice.injEq] at he9
  obtain ⟨rfl, -, rfl⟩ := he9
  exact hT9
theorem mul32 {a b : Nat} (h : a + b ≤ 1000) : (a + b) * 32 ≤ 140737488355328 := by omega
theorem l2All_any (A : Option Addr) (c lo hi : Nat) (bs : List BinV) (w : World) (hT : Bins w lo hi A c bs) (hl : bs.length ≤ 1000) (hf : (bflat bs).length ≤ 1000) (h1 : hi ≤ w.heap.size) :
    Calls Try.prog 61 #[.slice A bs.length c] w fun e w' => ∃ A' c', e = .returned (.slice A' (bflat bs).length c') ∧ Tasks w' 0 w'.heap.size A' c' (bflat bs) ∧ Below w.heap.size w w' := by
  have HT := Lib.hid hT; clear hT
  go_enter Try.func61, Try.ntmps61
  go_wp2_with fail
  go_loopw [3, 4] (fun o i wr => ∃ k : Nat, ∃ A' c', ∃ us : List TaskV, k ≤ bs.length ∧ i = .int .i64 k ∧ o = .slice A' us.length c' ∧ us = bflat (bs.take k) ∧ wr.ownsRow w.heap.size 62 2 (.slice A' us.length c') us.length (trow us) ∧ Below w.heap.size w wr) (fun _ i _ => bs.length - (intOf i).toNat)
  case atStart => exact ⟨0, _, 0, [], by omega, rfl, rfl, rfl, ownsRow_empty w _ 2, (Below.refl _ _).alloc (Nat.le_refl _) _⟩
  case round =>
    obtain ⟨k, A', c', us, hk, rfl, rfl, hus, hown, hb⟩ := hrel
    have HU := Lib.hid hus; clear hus
    have HW := Lib.hid hown; clear hown
    have HB := Lib.hid hb
    have hs := hb.size
    replace HT := Lib.hid (HT.out.below hb h1)
    clear hb
    have hul : us.length ≤ (bflat bs).length := by rw [HU.out]; exact bflat_len k
    by_cases hlt : k < bs.length
    · obtain ⟨b, off, x, rfl, hx, hc1, _, hbh, hX⟩ := HT.out.at_ hlt
      have hul2 : us.length + x.ts.length ≤ (bflat bs).length := by
        have := bflat_len (bs := bs) (k + 1)
        rw [bflat_snoc hx, ← HU.out, List.length_append] at this; exact this
      have HS := Lib.hid (bflat_snoc hx)
      have HX := Lib.hid hX
      have hklt : (k : Int) < bs.length := by omega
      clear hx hX
      go_wp2_with (at_builtin; refine wpList_appC elT rfl (.tmp 12) (.tmp 16) rfl wr HW.out x.a x.ts.length x.c (trow x.ts) rfl rfl HX.out.1 (trow_one _) hs (by simp only [maxLen]; omega) (by omega) ?_; intro A2 c2 w9 hown2 hb2 hg2; have HW2 := Lib.hid hown2; have HB2 := Lib.hid hb2; clear hown2 hb2 hg2)
      have hel : us.length + x.ts.length = (us ++ x.ts).length := by simp
      have hown9 := HW2.out
      rw [← trow_app, hel] at hown9
      exact ⟨⟨k + 1, A2, c2, us ++ x.ts, by omega, by go_num, by rw [← hel], by rw [HS.out, HU.out], hown9, HB.out.trans HB2.out⟩, by simp [intOf]; omega⟩
    · have hE : us = bflat bs := by rw [HU.out, List.take_of_length_le (by omega)]
      have hT9 := own_all HW.out (bs := bs) (hi := hi) (fun b hb => (HT.out.2 b hb).mono (Nat.zero_le _) (Nat.le_refl _)) (by omega) hE
      rw [hE] at hT9 ⊢
      have HT9 := Lib.hid hT9
      clear hE hT9 hul
      go_wp2_with fail
      go_ret
      exact ⟨A', c', by simp, HT9.out, HB.out⟩
set_option maxRecDepth 100000 in
theorem grow_any (n : Nat) (w : World) (hn : n ≤ 1000) :
    Calls Try.prog 48 #[.slice none 0 0, .int .i64 n] w fun e w' => ∃ A' c', e = .returned (.slice A' 0 c') ∧ w'.ownsRow w.heap.size 62 2 (.slice A' 0 c') 0 [] ∧ Below w.heap.size w w' := by
  by_cases h0 : n = 0
  · subst h0
    go_enter Try.func48, Try.ntmps48
    go_wp2_with fail
    go_ret
    exact ⟨none, 0, by simp, ⟨rfl, .inl ⟨rfl, rfl⟩⟩, Below.refl _ _⟩
  · have hn0 : (0 : Int) < n := by omega
    have hn1 : ¬ ((n : Int) < 0) := by omega
    obtain ⟨i1, j1, j2, j3, j4⟩ := info_parts (P := Try.prog) (e := 62) (z := .agg #[.int .i64 0, .slice none 0 0]) (size := 2) (bytes := 32) (by kernel_rfl)
    have hr := Lib.run_append_nil_zeros (P := Try.prog) w 46 3 46 62 i1 (.agg #[.int .i64 0, .slice none 0 0]) .i64 .i64 Try.underlying46 Try.underlying3 j1 j2 n (by omega) (by rw [j3]; omega) (by omega) (by rw [j4]; omega)
    have hcap := grownCap_ge w n 0 62
    have hcm := grownCap_le_maxLen w n 0 62 (by simp only [maxLen]; omega)
    obtain ⟨cap, hc⟩ : ∃ c, grownCap w n 0 62 = c := ⟨_, rfl⟩
    rw [hc] at hr hcap hcm
    obtain ⟨w1, hw1⟩ : ∃ W, W = w.drew.alloc (.cells (Builtin.zeroCells (Value.agg #[.int .i64 0, .slice none 0 0]).cells n ++ Builtin.zeroCells (Value.agg #[.int .i64 0, .slice none 0 0]).cells (cap - n)) 62) := ⟨_, rfl⟩
    rw [← hw1] at hr
    have hz : ∀ m, (Builtin.zeroCells (Value.agg #[.int .i64 0, .slice none 0 0]).cells m).size = m * 2 := by
      intro m; simp [Builtin.zeroCells, Value.cells]
    have hown : w1.ownsRow w.heap.size 62 2 (.slice (some ⟨w.heap.size, 0, none⟩) 0 cap) 0 [] := by
      rw [hw1]
      exact World.ownsRow_made w.drew _ cap (Nat.le_refl _) hcm (by rw [Array.size_append, hz, hz]; omega)
    have hb : Below w.heap.size w w1 := by rw [hw1]; exact (Below.refl _ _).drew.alloc (Nat.le_refl _) _
    have HR := Lib.hid hr
    have HW := Lib.hid hown
    have HB := Lib.hid hb
    clear hr hown hb hw1 hc hz j1 j2 j3 j4
    go_enter Try.func48, Try.ntmps48
    go_wp2_with (at_builtin; refine Lib.wpList_append_run w rfl _ _ _ _ rfl (.slice none 0 0) (.int .i64 n) rfl rfl _ _ HR.out ?_)
    go_ret
    exact ⟨_, cap, by simp, HW.out, HB.out⟩
theorem concat_any (A : Option Addr) (c lo hi : Nat) (bs : List BinV) (w : World) (hT : Bins w lo hi A c bs) (hl : bs.length ≤ 1000) (hf : (bflat bs).length ≤ 1000) (h1 : hi ≤ w.heap.size) :
    Calls Try.prog 35 #[.slice A bs.length c] w fun e w' => ∃ A' c', e = .returned (.slice A' (bflat bs).length c') ∧ Tasks w' 0 w'.heap.size A' c' (bflat bs) ∧ Below w.heap.size w w' := by
  have HT := Lib.hid hT; clear hT
  go_enter Try.func35, Try.ntmps35
  go_wp2_with fail
  go_loopw [3, 11] (fun z i wr => ∃ k n : Nat, k ≤ bs.length ∧ i = .int .i64 k ∧ z = .int .i64 n ∧ n = (bflat (bs.take k)).length ∧ w = wr) (fun _ i _ => bs.length - (intOf i).toNat)
  case atStart => exact ⟨0, 0, by omega, rfl, rfl, rfl, rfl⟩
  case round =>
    obtain ⟨k, n, hk, rfl, rfl, hn, rfl⟩ := hrel
    have HN := Lib.hid hn; clear hn
    have hnl : n ≤ (bflat bs).length := by rw [HN.out]; exact bflat_len k
    by_cases hlt : k < bs.length
    · obtain ⟨b, off, x, rfl, hx, hc1, _, hbh, hX⟩ := HT.out.at_ hlt
      have HS := Lib.hid (bflat_snoc hx)
      have hnx : n + x.ts.length = (bflat (bs.take (k + 1))).length := by rw [HS.out, List.length_append, HN.out]
      have hnx2 := bflat_len (bs := bs) (k + 1)
      rw [← hnx] at hnx2
      have HX := Lib.hid hnx
      have hklt : (k : Int) < bs.length := by omega
      have hsw : IntKind.i64.wrap ((n : Int) + (x.ts.length : Int)) = ((n + x.ts.length : Nat) : Int) := by rw [wrap_small (by omega)]; omega
      have hs0 : ¬ (((n + x.ts.length : Nat) : Int) < 0) := by omega
      obtain ⟨q, hq⟩ : ∃ q, n + x.ts.length = q := ⟨_, rfl⟩
      rw [hq] at hsw hs0 HX
      clear hx hX hnx hnx2 hq
      go_wp2_with fail
      exact ⟨⟨k + 1, q, by omega, by go_num, rfl, HX.out, by simp⟩, by simp [intOf]; omega⟩
    · have hn9 : n = (bflat bs).length := by rw [HN.out, List.take_of_length_le (by omega)]
      have HN9 := Lib.hid hn9
      clear hn9
      go_wp2_with fail
      refine (grow_any n w (by omega)).mono ?_; rintro e w2 ⟨A2, c2, rfl, hown, hb⟩
      have HW0 := Lib.hid hown
      have HB := Lib.hid hb
      have hs2 := hb.size
      have HT2 := Lib.hid (HT.out.below hb (by omega))
      clear hown hb
      go_wp2_with fail
      go_loopw [6, 27] (fun o i w3 => ∃ k : Nat, ∃ A' c', ∃ us : List TaskV, k ≤ bs.length ∧ i = .int .i64 k ∧ o = .slice A' us.length c' ∧ us = bflat (bs.take k) ∧ w3.ownsRow w.heap.size 62 2 (.slice A' us.length c') us.length (trow us) ∧ Below w.heap.size w w3) (fun _ i _ => bs.length - (intOf i).toNat)
      case atStart => exact ⟨0, A2, c2, [], by omega, rfl, rfl, rfl, HW0.out, HB.out⟩
      case round =>
        obtain ⟨k, A', c', us, hk, rfl, rfl, hus, hown, hb⟩ := hrel
        have HU := Lib.hid hus; clear hus
        have HW := Lib.hid hown; clear hown
        replace HB := Lib.hid hb
        have hs := hb.size
        replace HT := Lib.hid (HT.out.below hb h1)
        clear hb
        have hul : us.length ≤ (bflat bs).length := by rw [HU.out]; exact bflat_len k
        by_cases hlt2 : k < bs.length
        · obtain ⟨b, off, x, rfl, hx, hc1, _, hbh, hX⟩ := HT.out.at_ hlt2
          have hul2 : us.length + x.ts.length ≤ (bflat bs).length := by
            have := bflat_len (bs := bs) (k + 1)
            rw [bflat_snoc hx, ← HU.out, List.length_append] at this; exact this
          have HS := Lib.hid (bflat_snoc hx)
          have HX := Lib.hid hX
          have hklt : (k : Int) < bs.length := by omega
          clear hx hX
          go_wp2_with (at_builtin; refine wpList_appC elT rfl (.tmp 31) (.tmp 32) rfl wr HW.out x.a x.ts.length x.c (trow x.ts) rfl rfl HX.out.1 (trow_one _) hs (by simp only [maxLen]; omega) (by omega) ?_; intro A2 c2 w9 hown2 hb2 hg2; have HW2 := Lib.hid hown2; have HB2 := Lib.hid hb2; clear hown2 hb2 hg2)
          have hel : us.length + x.ts.length = (us ++ x.ts).length := by simp
          have hown9 := HW2.out
          rw [← trow_app, hel] at hown9
          exact ⟨⟨k + 1, A2, c2, us ++ x.ts, by omega, by go_num, by rw [← hel], by rw [HS.out, HU.out], hown9, HB.out.trans HB2.out⟩, by simp [intOf]; omega⟩
        · have hE : us = bflat bs := by rw [HU.out, List.take_of_length_le (by omega)]
          have hT9 := own_all HW.out (bs := bs) (hi := hi) (fun b hb => (HT.out.2 b hb).mono (Nat.zero_le _) (Nat.le_refl _)) (by omega) hE
          rw [hE] at hT9 ⊢
          have HT9 := Lib.hid hT9
          clear hE hT9 hul
          go_wp2_with fail
          go_ret
          exact ⟨A', c', by simp, HT9.out, HB.out⟩
theorem binsB_no1 {room : List Int} {bs : List BinV} (h : tasksB room ((bflat bs).map pv) = false) : binsB room (bs.map bpv) = false := by
  rw [binsB, ← bflat_pv, h]; simp
theorem binsB_no2 {room : List Int} {bs : List BinV} (h : ¬ bs.length ≤ 14) : binsB room (bs.map bpv) = false := by
  have : decide ((bs.map bpv).length ≤ 14) = false := by simp; omega
  rw [binsB, this]; rfl
theorem binsB_no3 {room : List Int} {bs : List BinV} {k : Nat} {b : BinV} (hk : bs[k]? = some b) (h : fitsB (loadL (needs b.ts)) room = false) : binsB room (bs.map bpv) = false := by
  have : (bs.map bpv).all (fun b => fitsB (loadL (b.map Prod.snd)) room) = false := by
    rw [List.all_eq_false]
    exact ⟨bpv b, List.mem_map.2 ⟨b, List.mem_of_getElem? hk, rfl⟩, by rw [bpv, needs_pv, h]; simp⟩
  rw [binsB, this]; simp
theorem binsB_yes {room : List Int} {bs : List BinV} (h1 : tasksB room ((bflat bs).map pv) = true) (h2 : bs.length ≤ 14) (h3 : ∀ b, b ∈ bs → fitsB (loadL (needs b.ts)) room = true) : binsB room (bs.map bpv) = true := by
  rw [binsB, ← bflat_pv, h1]
  simp only [Bool.and_true, Bool.and_eq_true, decide_eq_true_eq, List.length_map, List.all_eq_true, List.mem_map]
  refine ⟨h2, fun b hb => ?_⟩
  obtain ⟨x, hx, rfl⟩ := hb
  rw [bpv, needs_pv]; exact h3 x hx
theorem binsValid_any (A : Option Addr) (c lo hi : Nat) (ys : List Int) (B : Option Addr) (d lo' hi' : Nat) (bs : List BinV) (w : World) (hI : Ints w lo hi A c ys) (hl : ys.length ≤ 1048576) (hT : Bins w lo' hi' B d bs) (hm : bs.length ≤ 1000) (hf : (bflat bs).length ≤ 1000)
    (hn : ∀ t, t ∈ bflat bs → t.need.length ≤ 1048576) (hw : ∀ t, t ∈ bflat bs → (Lit.int .i64 t.id).wf = true) (h1 : hi ≤ w.heap.size) (h2 : hi' ≤ w.heap.size) :
    Calls Try.prog 24 #[.slice A ys.length c, .slice B bs.length d] w fun e w' => e = .returned (.bool (binsB ys (bs.map bpv))) ∧ Below w.heap.size w w' := by
  have HI := Lib.hid hI; clear hI
  have HT := Lib.hid hT; clear hT
  have HN := Lib.hid hn; clear hn
  have HW := Lib.hid hw; clear hw
  by_cases h14 : 14 < bs.length
  · have h14' : (14 : Int) < bs.length := by omega
    go_enter Try.func24, Try.ntmps24
    go_wp2_with fail
    go_ret
    exact ⟨by simp [binsB_no2 (room := ys) (bs := bs) (by omega)], Below.refl _ _⟩
  have h14' : ¬ ((14 : Int) < bs.length) := by omega
  go_enter Try.func24, Try.ntmps24
  go_wp2_with fail
  refine (concat_any B d lo' hi' bs w HT.out hm hf h2).mono ?_; rintro e w1 ⟨A1, c1, rfl, hT1, hb⟩
  have HT1 := Lib.hid hT1
  have HB := Lib.hid hb
  have hs1 := hb.size
  replace HI := Lib.hid (HI.out.below hb h1)
  replace HT := Lib.hid (HT.out.below hb h2)
  clear hT1 hb
  go_wp2_with fail
  refine (tasksValid_any A c lo hi ys A1 c1 _ _ (bflat bs) w1 HI.out hl HT1.out (by omega) HN.out HW.out (by omega) (Nat.le_refl _)).mono ?_; rintro e w2 ⟨rfl, hb⟩
  have hs2 := hb.size
  replace HB := Lib.hid (HB.out.trans (hb.mono hs1))
  replace HI := Lib.hid (HI.out.below hb (by omega))
  replace HT := Lib.hid (HT.out.below hb (by omega))
  clear hb HT1
  cases hr : tasksB ys ((bflat bs).map pv)
  · have HR := Lib.hid hr; clear hr
    go_wp2_with fail
    go_ret
    exact ⟨by simp [binsB_no1 HR.out], HB.out⟩
  have HR := Lib.hid hr; clear hr
  have HG := Lib.hid (tasks_good HR.out)
  have HY := Lib.hid (vec_len (room_vec (tasks_room HR.out)).1)
  go_wp2_with fail
  go_loopw [19] (fun i wr => ∃ k : Nat, k ≤ bs.length ∧ i = .int .i64 k ∧ (∀ b, b ∈ bs.take k → fitsB (loadL (needs b.ts)) ys = true) ∧ Below w2.heap.size w2 wr) (fun i _ => bs.length - (intOf i).toNat)
  case atStart => exact ⟨0, by omega, rfl, by simp, Below.refl _ _⟩
  case round =>
    obtain ⟨k, hk, rfl, hall, hb⟩ := hrel
    have HALL := Lib.hid hall; clear hall
    have hs3 := hb.size
    have HL := Lib.hid hb
    replace HB := Lib.hid (HB.out.trans (hb.mono (by omega)))
    replace HI := Lib.hid (HI.out.below hb (by omega))
    replace HT := Lib.hid (HT.out.below hb (by omega))
    clear hb
    by_cases hlt : k < bs.length
    · obtain ⟨b, off, x, rfl, hx, hc1, _, hbh, hX⟩ := HT.out.at_ hlt
      have HX := Lib.hid hX
      have HXK := Lib.hid hx
      have hxl : x.ts.length ≤ (bflat bs).length := by
        have := bflat_len (bs := bs) (k + 1)
        rw [bflat_snoc hx, List.length_append] at this; omega
      have HXG := Lib.hid (fun t ht => HG.out t (mem_bflat (List.mem_of_getElem? hx) t ht) : ∀ t, t ∈ x.ts → GoodN t.need)
      have hklt : (k : Int) < bs.length := by omega
      clear hx hX
      go_wp2_with fail
      refine (loadOf_any x.a x.c _ _ x.ts wr HX.out (by omega) HXG.out (by omega)).mono ?_; rintro e w5 ⟨A5, c5, rfl, hI5, hb⟩
      have HI5 := Lib.hid hI5
      have hs5 := hb.size
      replace HL := Lib.hid (HL.out.trans (hb.mono (by omega)))
      replace HB := Lib.hid (HB.out.trans (hb.mono (by omega)))
      replace HI := Lib.hid (HI.out.below hb (by omega))
      clear hb hI5
      have h6 := fits_any A5 A c5 c _ _ _ _ (loadL (needs x.ts)) ys w5 HI5.out HI.out rfl HY.out
      rw [loadL_len] at h6
      obtain ⟨v, hv⟩ : ∃ v, fitsB (loadL (needs x.ts)) ys = v := ⟨_, rfl⟩
      rw [hv] at h6
      have HV := Lib.hid hv
      have H6 := Lib.hid h6
      clear h6 hv
      go_wp2_with fail
      refine H6.out.mono ?_; rintro e w' ⟨rfl, rfl⟩
      cases v
      · go_wp2_with fail
        go_ret
        exact ⟨by simp [binsB_no3 HXK.out HV.out], HB.out⟩
      · go_wp2_with fail
        refine ⟨⟨k + 1, by omega, by go_num, fun b9 hb9 => ?_, HL.out⟩, by simp [intOf]; omega⟩
        rw [take_succ_some HXK.out] at hb9
        rcases List.mem_append.1 hb9 with h | h
        · exact HALL.out b9 h
        · obtain rfl := List.mem_singleton.1 h
          exact HV.out
    · have hyes := binsB_yes HR.out (by omega) (fun b hb => HALL.out b (by rw [List.take_of_length_le (by omega)]; exact hb))
      have HYES := Lib.hid hyes
      clear hyes
      go_wp2_with fail
      go_ret
      exact ⟨by simp [HYES.out], HB.out⟩
theorem binsValidS_any (A : Option Addr) (c lo hi : Nat) (ys : List Int) (B : Option Addr) (d lo' hi' : Nat) (bs : List BinV) (w : World) (hI : Ints w lo hi A c ys) (hl : ys.length ≤ 1048576) (hT : Bins w lo' hi' B d bs) (hm : bs.length ≤ 1000) (hf : (bflat bs).length ≤ 1000)
    (hn : ∀ t, t ∈ bflat bs → t.need.length ≤ 1048576) (h1 : hi ≤ w.heap.size) (h2 : hi' ≤ w.heap.size) :
    Calls Try.prog 51 #[.slice A ys.length c, .slice B bs.length d] w fun e w' => e = .returned (.bool (binsB ys (bs.map bpv))) ∧ Below w.heap.size w w' := by
  have HI := Lib.hid hI; clear hI
  have HT := Lib.hid hT; clear hT
  have HN := Lib.hid hn; clear hn
  go_enter Try.func51, Try.ntmps51
  go_wp2_with fail
  refine (l2All_any B d lo' hi' bs w HT.out hm hf h2).mono ?_; rintro e w1 ⟨A1, c1, rfl, hT1, hb⟩
  have HT1 := Lib.hid hT1
  have HB := Lib.hid hb
  have hs1 := hb.size
  replace HI := Lib.hid (HI.out.below hb h1)
  replace HT := Lib.hid (HT.out.below hb h2)
  clear hT1 hb
  go_wp2_with fail
  refine (tasksValidS_any A c lo hi ys A1 c1 _ _ (bflat bs) w1 HI.out hl HT1.out (by omega) HN.out (by omega) (Nat.le_refl _)).mono ?_; rintro e w2 ⟨rfl, hb⟩
  have hs2 := hb.size
  replace HB := Lib.hid (HB.out.trans (hb.mono hs1))
  replace HI := Lib.hid (HI.out.below hb (by omega))
  replace HT := Lib.hid (HT.out.below hb (by omega))
  clear hb HT1
  cases hr : tasksB ys ((bflat bs).map pv)
  · have HR := Lib.hid hr; clear hr
    go_wp2_with fail
    go_ret
    exact ⟨by simp [binsB_no1 HR.out], HB.out⟩
  have HR := Lib.hid hr; clear hr
  have HG := Lib.hid (tasks_good HR.out)
  have HY := Lib.hid (vec_len (room_vec (tasks_room HR.out)).1)
  by_cases h14 : 14 < bs.length
  · have h14' : (14 : Int) < bs.length := by omega
    go_wp2_with fail
    go_ret
    exact ⟨by simp [binsB_no2 (room := ys) (bs := bs) (by omega)], HB.out⟩
  have h14' : ¬ ((14 : Int) < bs.length) := by omega
  go_wp2_with fail
  go_loopw [5] (fun i wr => ∃ k : Nat, k ≤ bs.length ∧ i = .int .i64 k ∧ (∀ b, b ∈ bs.take k → fitsB (loadL (needs b.ts)) ys = true) ∧ Below w2.heap.size w2 wr) (fun i _ => bs.length - (intOf i).toNat)
  case atStart => exact ⟨0, by omega, rfl, by simp, Below.refl _ _⟩
  case round =>
    obtain ⟨k, hk, rfl, hall, hb⟩ := hrel
    have HALL := Lib.hid hall; clear hall
    have hs3 := hb.size
    have HL := Lib.hid hb
    replace HB := Lib.hid (HB.out.trans (hb.mono (by omega)))
    replace HI := Lib.hid (HI.out.below hb (by omega))
    replace HT := Lib.hid (HT.out.below hb (by omega))
    clear hb
    by_cases hlt : k < bs.length
    · obtain ⟨b, off, x, rfl, hx, hc1, _, hbh, hX⟩ := HT.out.at_ hlt
      have HX := Lib.hid hX
      have HXK := Lib.hid hx
      have hxl : x.ts.length ≤ (bflat bs).length := by
        have := bflat_len (bs := bs) (k + 1)
        rw [bflat_snoc hx, List.length_append] at this; omega
      have HXG := Lib.hid (fun t ht => HG.out t (mem_bflat (List.mem_of_getElem? hx) t ht) : ∀ t, t ∈ x.ts → GoodN t.need)
      have hklt : (k : Int) < bs.length := by omega
      clear hx hX
      go_wp2_with fail
      refine (l2Load_any x.a x.c _ _ x.ts wr HX.out (by omega) HXG.out (by omega)).mono ?_; rintro e w5 ⟨A5, c5, rfl, hI5, hb⟩
      have HI5 := Lib.hid hI5
      have hs5 := hb.size
      replace HL := Lib.hid (HL.out.trans (hb.mono (by omega)))
      replace HB := Lib.hid (HB.out.trans (hb.mono (by omega)))
      replace HI := Lib.hid (HI.out.below hb (by omega))
      clear hb hI5
      have h6 := l1Fits_any A5 A c5 c _ _ _ _ (loadL (needs x.ts)) ys w5 HI5.out HI.out rfl HY.out
      rw [loadL_len] at h6
      obtain ⟨v, hv⟩ : ∃ v, fitsB (loadL (needs x.ts)) ys = v := ⟨_, rfl⟩
      rw [hv] at h6
      have HV := Lib.hid hv
      have H6 := Lib.hid h6
      clear h6 hv
      go_wp2_with fail
      refine H6.out.mono ?_; rintro e w6 ⟨rfl, hd⟩
      have hb := drawn_below hd; clear hd
      replace HL := Lib.hid (HL.out.trans (hb.mono (by omega)))
      replace HB := Lib.hid (HB.out.trans (hb.mono (by omega)))
      clear hb
      cases v
      · go_wp2_with fail
        go_ret
        exact ⟨by simp [binsB_no3 HXK.out HV.out], HB.out⟩
      · go_wp2_with fail
        refine ⟨⟨k + 1, by omega, by go_num, fun b9 hb9 => ?_, HL.out⟩, by simp [intOf]; omega⟩
        rw [take_succ_some HXK.out] at hb9
        rcases List.mem_append.1 hb9 with h | h
        · exact HALL.out b9 h
        · obtain rfl := List.mem_singleton.1 h
          exact HV.out
    · have hyes := binsB_yes HR.out (by omega) (fun b hb => HALL.out b (by rw [List.take_of_length_le (by omega)]; exact hb))
      have HYES := Lib.hid hyes
      clear hyes
      go_wp2_with fail
      go_ret
      exact ⟨by simp [HYES.out], HB.out⟩
end Go.Proofs.Ytcmampicgdobcaa
