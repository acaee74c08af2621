/- Units with tasks; l21Bins, l2Where. No condition but on sizes. -/
import Derived.Test.YtcmampicgdobcaaCt
namespace Go.Proofs.Ytcmampicgdobcaa
open Go.RowKit
theorem one_sliceT (a : Option Addr) (n c : Nat) : ∀ u ∈ [Value.slice a n c], u.oneCell' = true := by
  intro u hu; simp at hu; subst hu; rfl
/-- a unit as it lies -/
structure UniV where
  op : Bool
  a : Option Addr
  c : Nat
  ts : List TaskV
def ubin (u : UniV) : BinV := ⟨u.a, u.c, u.ts⟩
def ucT (u : UniV) : List Value := [.bool u.op, .slice u.a u.ts.length u.c]
def urowT (us : List UniV) : List Value := us.flatMap ucT
theorem urowT_len (us : List UniV) : (urowT us).length = us.length * 2 := by
  induction us with
  | nil => rfl
  | cons p r ih => simp only [urowT, List.flatMap_cons, List.length_append, List.length_cons] at *; rw [ih]; simp [ucT]; omega
theorem urowT_at {us : List UniV} {k : Nat} {u : UniV} (h : us[k]? = some u) : (urowT us)[k * 2]? = some (.bool u.op) ∧ (urowT us)[k * 2 + 1]? = some (.slice u.a u.ts.length u.c) := by
  induction us generalizing k with
  | nil => simp at h
  | cons q r ih =>
    cases k with
    | zero => simp at h; subst h; exact ⟨rfl, rfl⟩
    | succ k =>
      have := ih (k := k) (by simpa using h)
      have e : urowT (q :: r) = .bool q.op :: .slice q.a q.ts.length q.c :: urowT r := rfl
      rw [e, show (k + 1) * 2 = k * 2 + 1 + 1 by omega]
      simpa using this
theorem urowT_one (us : List UniV) : ∀ u ∈ urowT us, u.oneCell' = true := by
  intro u hu
  obtain ⟨p, _, hp⟩ := List.mem_flatMap.1 hu
  simp only [ucT, List.mem_cons, List.mem_nil_iff, or_false] at hp
  rcases hp with rfl | rfl <;> rfl
theorem urowT_app (s t : List UniV) : urowT (s ++ t) = urowT s ++ urowT t := by simp [urowT]
theorem urowT_set0 {us : List UniV} {k : Nat} {u : UniV} (h : us[k]? = some u) (v : Bool) : (urowT us).set (k * 2) (.bool v) = urowT (us.set k { u with op := v }) := by
  induction us generalizing k with
  | nil => simp at h
  | cons q r ih =>
    have e : ∀ (q : UniV) r, urowT (q :: r) = .bool q.op :: .slice q.a q.ts.length q.c :: urowT r := fun _ _ => rfl
    cases k with
    | zero => simp at h; subst h; simp [e]
    | succ k =>
      have := ih (k := k) (by simpa using h)
      rw [List.set_cons_succ, e, e, show (k + 1) * 2 = k * 2 + 1 + 1 by omega]
      simp [this]
theorem urowT_set1 {us : List UniV} {k : Nat} {u : UniV} (h : us[k]? = some u) (a : Option Addr) (c : Nat) (ts : List TaskV) : (urowT us).set (k * 2 + 1) (.slice a ts.length c) = urowT (us.set k ⟨u.op, a, c, ts⟩) := by
  induction us generalizing k with
  | nil => simp at h
  | cons q r ih =>
    have e : ∀ (q : UniV) r, urowT (q :: r) = .bool q.op :: .slice q.a q.ts.length q.c :: urowT r := fun _ _ => rfl
    cases k with
    | zero => simp at h; subst h; simp [e]
    | succ k =>
      have := ih (k := k) (by simpa using h)
      rw [List.set_cons_succ, e, e, show (k + 1) * 2 + 1 = (k * 2 + 1) + 1 + 1 by omega]
      simp [this]
/-- units that are only read -/
def UniT (w : World) (lo hi : Nat) (A : Option Addr) (c : Nat) (us : List UniV) : Prop :=
  Cells w lo hi A c us.length 2 (urowT us) ∧ ∀ u, u ∈ us → Tasks w lo hi u.a u.c u.ts
section
variable {w w' : World} {lo hi lo' hi' l h B c : Nat} {A : Option Addr} {us : List UniV}
theorem UniT.at_ (h : UniT w lo hi A c us) {k : Nat} (hk : k < us.length) :
    ∃ b off u, A = some ⟨b, off, none⟩ ∧ us[k]? = some u ∧ w.cell? ⟨b, off + k * 2, none⟩ = some (.bool u.op) ∧ w.cell? ⟨b, off + k * 2 + 1, none⟩ = some (.slice u.a u.ts.length u.c) ∧ lo ≤ b ∧ b < hi ∧ Tasks w lo hi u.a u.c u.ts := by
  obtain ⟨b, off, h1, h2, h3, h4⟩ := h.1.form (by omega)
  have hp : us[k]? = some us[k] := List.getElem?_eq_getElem hk
  obtain ⟨e1, e2⟩ := urowT_at hp
  exact ⟨b, off, _, h1, hp, h4 _ _ e1, by rw [Nat.add_assoc]; exact h4 _ _ e2, h2, h3, h.2 _ (List.getElem_mem hk)⟩
theorem UniT.below (h : UniT w lo hi A c us) (hb : Below B w w') (hB : hi ≤ B) : UniT w' lo hi A c us :=
  ⟨h.1.below hb hB, fun t ht => (h.2 t ht).below hb hB⟩
theorem UniT.mono (h : UniT w lo hi A c us) (h1 : lo' ≤ lo) (h2 : hi ≤ hi') : UniT w lo' hi' A c us :=
  ⟨h.1.mono h1 h2, fun t ht => (h.2 t ht).mono h1 h2⟩
theorem UniT.only (k : UniT w l h A c us) (a : Only lo hi w w') (hd : h ≤ lo ∨ hi ≤ l) (hs : h ≤ w.heap.size) : UniT w' l h A c us :=
  ⟨k.1.only a hd hs, fun t ht => (k.2 t ht).only a hd hs⟩
theorem UniT.len (h : UniT w lo hi A c us) : us.length ≤ c ∧ c ≤ maxLen := ⟨h.1.1, h.1.2.1⟩
end
theorem bins_of_units {w : World} {base e d q : Nat} {us : List UniV} {hi : Nat} (h : w.ownsRow base e 1 (.slice (some ⟨q, 0, none⟩) us.length d) us.length ((us.map ubin).map bcell)) (hb : ∀ u, u ∈ us → Tasks w 0 hi u.a u.c u.ts) (hh : hi ≤ w.heap.size) : Bins w 0 w.heap.size (some ⟨q, 0, none⟩) d (us.map ubin) := by
  obtain ⟨A9, c9, he, hC⟩ := Cells.of_own (ownsRow_base h (Nat.zero_le _))
  simp only [Value.slice.injEq, true_and] at he
  obtain ⟨rfl, rfl⟩ := he
  refine ⟨by rw [List.length_map]; exact hC, fun b hm => ?_⟩
  obtain ⟨u, hu, rfl⟩ := List.mem_map.1 hm
  exact (hb u hu).mono (Nat.le_refl _) hh
theorem elBx : Elem Try.prog 51 46 1 24 := Elem.mk' Try.underlying51 (z := .slice none 0 0) (by kernel_rfl) rfl (by omega)
set_option maxHeartbeats 1000000 in
theorem l21Bins_any (A B : Option Addr) (l c d lo hi : Nat) (us : List UniV) (w : World) (hU : UniT w lo hi B d us) (hn : us.length ≤ 100) (h1 : hi ≤ w.heap.size) :
    Calls Try.prog 52 #[.agg #[.slice A l c, .slice B us.length d]] w fun e w' => ∃ q d', e = .returned (.slice (some ⟨q, 0, none⟩) us.length d') ∧ Bins w' 0 w'.heap.size (some ⟨q, 0, none⟩) d' (us.map ubin) ∧ Below w.heap.size w w' := by
  obtain ⟨w0, hw0⟩ : ∃ W, W = w.alloc (.cells #[.slice A l c, .slice B us.length d] 28) := ⟨_, rfl⟩
  have HW0 := Lib.hid hw0
  have hb0 : Below w.heap.size w w0 := by rw [hw0]; exact alloc_belowC w _
  have hs0 : w.heap.size + 1 ≤ w0.heap.size := by rw [hw0]; simp
  have HX : Hid (Blk w0 w.heap.size 28 [.slice A l c, .slice B us.length d]) := Lib.hid (by rw [hw0]; exact Blk.new w _ [.slice A l c, .slice B us.length d])
  have HS0 : Hid (w0.heap.size = w.heap.size + 1) := Lib.hid (by rw [hw0]; simp)
  have HU := Lib.hid ((hU.mono (Nat.zero_le _) (Nat.le_refl _)).below hb0 h1)
  have HB := Lib.hid hb0
  have HO0 := Lib.hid (ownsRow_empty w0 46 1)
  clear hw0 hb0 hU
  go_enter Try.func52, Try.ntmps52
  go_wp2_with fail
  rw [← HW0.out]
  go_loopw [3, 4] (fun o i wr => ∃ k q d' : Nat, k ≤ us.length ∧ i = .int .i64 k ∧ o = .slice (some ⟨q, 0, none⟩) k d' ∧ wr.ownsRow w0.heap.size 46 1 (.slice (some ⟨q, 0, none⟩) k d') k (((us.take k).map ubin).map bcell) ∧ Below w0.heap.size w0 wr) (fun _ i _ => us.length - (intOf i).toNat)
  case atStart => exact ⟨0, w0.heap.size, 0, by omega, rfl, by rw [HS0.out], HO0.out, (Below.refl _ _).alloc (Nat.le_refl _) _⟩
  case round =>
    obtain ⟨k, q, d', hk, rfl, rfl, hown, hb⟩ := hrel
    have HO := Lib.hid hown
    have HBr := Lib.hid hb
    have hsr := hb.size
    have hx1 := (HX.out.below hb (by omega)).cell (i := 1) rfl
    clear hown hb
    by_cases hlt : k < us.length
    · have hklt : (k : Int) < us.length := by omega
      obtain ⟨b1, off1, u, rfl, hu, hc1, hc2, _, hbh, _⟩ := (HU.out.below HBr.out (by omega)).at_ hlt
      have HTK := Lib.hid hu
      clear hu
      have hmx : k + 1 ≤ maxLen := by simp only [maxLen]; omega
      have hmy : (k + 1) * 24 ≤ 140737488355328 := by omega
      go_wp2_with (at_builtin; refine wpList_app1 elBx rfl (.tmp 13) (.tmp 20) rfl wr _ HO.out [.slice u.a u.ts.length u.c] rfl rfl ⟨rfl, rfl, rfl, rfl⟩ rfl (one_sliceT _ _ _) hsr hmx hmy ?_; intro q2 d2 w7 hown2 hb2 hg2 hsz2 hq2; have HO7 := Lib.hid hown2; have HB7 := Lib.hid hb2; clear hown2 hb2 hg2 hsz2 hq2)
      refine ⟨⟨k + 1, q2, d2, by omega, by go_num, rfl, ?_, HBr.out.trans HB7.out⟩, by simp [intOf]; omega⟩
      rw [take_succ_some HTK.out, List.map_append, List.map_append]; exact HO7.out
    · obtain rfl : k = us.length := by omega
      have hO := HO.out
      rw [List.take_length] at hO
      have HO9 := Lib.hid hO
      clear hO
      go_wp2_with fail
      go_ret
      exact ⟨q, d', by simp, bins_of_units HO9.out (fun u hu => (HU.out.below HBr.out (by omega)).2 u hu) (by omega), HB.out.trans (HBr.out.mono (by omega))⟩
theorem Tasks.heap_ {w W : World} {lo hi c : Nat} {A : Option Addr} {ts : List TaskV} (h : Tasks w lo hi A c ts) (hh : W.heap = w.heap) : Tasks W lo hi A c ts :=
  ⟨h.1.keep fun p _ _ => World.cell?_of_block (by rw [hh]), fun t ht => (h.2 t ht).keep fun p _ _ => ⟨World.cell?_of_block (by rw [hh]), World.frozen?_of_block (by rw [hh])⟩⟩
theorem l2Where_any (A : Option Addr) (c lo hi : Nat) (bs : List BinV) (id : Int) (w : World) (hT : Bins w lo hi A c bs) (hl : bs.length ≤ 1000) (hf : ∀ b, b ∈ bs → b.ts.length ≤ 1000) :
    Calls Try.prog 54 #[.slice A bs.length c, .int .i64 id] w fun e w' => ∃ k : Int, e = .returned (.int .i64 k) ∧ -1 ≤ k ∧ k < bs.length ∧ ∃ n, w' = w.drewN n := by
  have HT := Lib.hid hT; clear hT
  go_enter Try.func54, Try.ntmps54
  go_wp2_with fail
  go_loopw [5] (fun i wr => ∃ k n : Nat, k ≤ bs.length ∧ i = .int .i64 k ∧ wr = w.drewN n) (fun i _ => bs.length - (intOf i).toNat)
  case atStart => exact ⟨0, 0, by omega, rfl, rfl⟩
  case round =>
    obtain ⟨k, n, hk, rfl, rfl⟩ := hrel
    by_cases hlt : k < bs.length
    · have hklt : (k : Int) < bs.length := by omega
      obtain ⟨b, off, x, rfl, hx, hc, _, _, hTk⟩ := HT.out.at_ hlt
      have hxl := hf x (List.mem_of_getElem? hx)
      obtain ⟨v, hv⟩ : ∃ v, hasB ((x.ts.map pv).take x.ts.length) id = v := ⟨_, rfl⟩
      have H9 : Hid (∀ W : World, W.heap = w.heap → Calls Try.prog 65 #[.slice x.a x.ts.length x.c, .int .i64 x.ts.length, .int .i64 id] W fun e w' => e = .returned (.bool v) ∧ w' = W) := Lib.hid (fun W hW => by
        have h := l2Has_any x.a x.c lo hi x.ts x.ts.length id W (hTk.heap_ hW) (Nat.le_refl _) (by omega)
        rw [hv] at h
        exact h.mono fun _ _ ⟨h1, h2⟩ => ⟨h1, h2.symm⟩)
      clear hx hTk hxl hv
      have hcd : ∀ m, (w.drewN m).cell? ⟨b, off + k, none⟩ = some (.slice x.a x.ts.length x.c) := fun _ => hc
      cases v
      · go_wp2_with fail
        go_region_held3 (fun w' => w'.cell? ⟨b, off + k, none⟩ = some (.slice x.a x.ts.length x.c)) (go_keep) (first | (go_at_call 65; refine (H9.out (w.drewN (n + 1)) rfl).mono ?_; rintro e w5 ⟨rfl, rfl⟩))
        go_wp2_with fail
        exact ⟨⟨k + 1, n + 1, by omega, by go_num, rfl⟩, by simp [intOf]; omega⟩
      · go_wp2_with fail
        go_region_held3 (fun w' => w'.cell? ⟨b, off + k, none⟩ = some (.slice x.a x.ts.length x.c)) (go_keep) (first | (go_at_call 65; refine (H9.out (w.drewN (n + 1)) rfl).mono ?_; rintro e w5 ⟨rfl, rfl⟩))
        go_wp2_with fail
        go_ret
        exact ⟨k, by simp, by omega, by omega, n + 1, rfl⟩
    · have hkn : ¬ ((k : Int) < bs.length) := by omega
      go_wp2_with fail
      go_ret
      exact ⟨-1, by simp, by omega, by omega, n, rfl⟩
end Go.Proofs.Ytcmampicgdobcaa
