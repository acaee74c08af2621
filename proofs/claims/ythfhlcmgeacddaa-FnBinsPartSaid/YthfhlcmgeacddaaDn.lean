/- The generator of nodes. No condition but on sizes. -/
import Derived.Test.YthfhlcmgeacddaaDz
import Derived.Test.YthfhlcmgeacddaaBn
import Derived.Test.YthfhlcmgeacddaaBd
import Derived.Test.YthfhlcmgeacddaaBa
import Derived.StillTailTactics
import Derived.Deep.RegionLaw
namespace Go.Proofs.Ythfhlcmgeacddaa
open Go.RowKit
theorem ownsRow_grown {w w' : World} {base e size n : Nat} {v : Value} {xs : List Value} {row : Option Nat} (h : w.ownsRow base e size v n xs) (hg : w.grownBy w' row) (hne : ∀ g, v.ownBlock = some g → row ≠ some g) : w'.ownsRow base e size v n xs := by
  refine ⟨h.1, ?_⟩
  rcases h.2 with h | ⟨g, cap, cur, rfl, h2, h3, h4⟩
  · exact .inl h
  · exact .inr ⟨g, cap, cur, rfl, h2, by rw [hg.block g (Array.getElem?_eq_some_iff.1 h3).1 (fun e => hne g rfl (by rw [← e]))]; exact h3, h4⟩
theorem Below.undrew {w w' : World} {B : Nat} (h : Below B w.drew w') : Below B w w' := ⟨h.os, h.tape, h.output, h.size, h.block⟩
theorem only_of_grown {w w' : World} {q : Nat} (h : w.grownBy w' (some q)) : Only q (q + 1) w w' :=
  ⟨h.os, h.tape, h.output, h.size, fun k hk hn => h.block k hk (by simp; omega)⟩
/-- two own rows whose elements are of two types lie in two blocks -/
theorem own_ne2 {w : World} {b1 b2 e1 e2 s1 s2 n1 n2 : Nat} {v1 v2 : Value} {x1 x2 : List Value} (h1 : w.ownsRow b1 e1 s1 v1 n1 x1) (h2 : w.ownsRow b2 e2 s2 v2 n2 x2) (hne : e1 ≠ e2) : ∀ g, v1.ownBlock = some g → v2.ownBlock ≠ some g := by
  intro g hg1 hg2
  rcases h1.2 with ⟨rfl, _⟩ | ⟨g1, c1, cur1, rfl, _, k1, _⟩
  · simp [Value.ownBlock] at hg1
  · rcases h2.2 with ⟨rfl, _⟩ | ⟨g2, c2, cur2, rfl, _, k2, _⟩
    · simp [Value.ownBlock] at hg2
    · simp only [Value.ownBlock, Option.some.injEq] at hg1 hg2
      subst hg1
      subst hg2
      rw [k1] at k2
      simp only [Option.some.injEq, Obj.cells.injEq] at k2
      exact hne k2.2.1
/-- the nodes' blocks differ -/
def Dist (bs : List BinV) : Prop := ∀ (i j : Nat) (x y : BinV), i ≠ j → bs[i]? = some x → bs[j]? = some y → ∀ g, (bcell x).ownBlock = some g → (bcell y).ownBlock ≠ some g
theorem Dist.snoc {bs : List BinV} {b : BinV} (h : Dist bs) (hb : ∀ x, x ∈ bs → ∀ g, (bcell x).ownBlock = some g → (bcell b).ownBlock ≠ some g) : Dist (bs ++ [b]) := by
  intro i j x y hij hx hy g hg
  rw [List.getElem?_append] at hx hy
  split at hx
  · split at hy
    · exact h i j x y hij hx hy g hg
    · have : j - bs.length = 0 := by
        have := (List.getElem?_eq_some_iff.1 hy).1
        simp at this; omega
      rw [this] at hy
      simp at hy
      subst hy
      exact hb x (List.mem_of_getElem? hx) g hg
  · have e1 : i - bs.length = 0 := by
      have := (List.getElem?_eq_some_iff.1 hx).1
      simp at this; omega
    rw [e1] at hx
    simp at hx
    subst hx
    split at hy
    · intro h2; exact hb y (List.mem_of_getElem? hy) g h2 hg
    · have e2 : j - bs.length = 0 := by
        have := (List.getElem?_eq_some_iff.1 hy).1
        simp at this; omega
      omega
theorem Dist.set_ {bs : List BinV} {k : Nat} {b : BinV} (h : Dist bs) (hb : ∀ j x, j ≠ k → bs[j]? = some x → ∀ g, (bcell x).ownBlock = some g → (bcell b).ownBlock ≠ some g) : Dist (bs.set k b) := by
  intro i j x y hij hx hy g hg
  rw [List.getElem?_set] at hx hy
  split at hx
  · rename_i hik
    split at hx
    · obtain rfl := Option.some.inj hx
      rw [if_neg (by omega)] at hy
      intro h2
      exact hb j y (by omega) hy g h2 hg
    · cases hx
  · rename_i hik
    split at hy
    · rename_i hjk
      split at hy
      · obtain rfl := Option.some.inj hy
        exact hb i x (by omega) hx g hg
      · cases hy
    · exact h i j x y hij hx hy g hg
/-- a task appended to one of the nodes -/
theorem bflat_set {bs : List BinV} {j : Nat} {x b : BinV} (hx : bs[j]? = some x) {t : TaskV} (hb : b.ts = x.ts ++ [t]) : (bflat (bs.set j b)).length = (bflat bs).length + 1 ∧ ∀ u, u ∈ bflat (bs.set j b) → u ∈ bflat bs ∨ u = t := by
  induction bs generalizing j with
  | nil => simp at hx
  | cons y r ih =>
    cases j with
    | zero =>
      simp at hx; subst hx
      simp only [List.set_cons_zero, bflat, List.flatMap_cons, hb, List.length_append, List.length_singleton, List.mem_append, List.mem_singleton]
      refine ⟨by omega, fun u hu => ?_⟩
      rcases hu with (h | h) | h
      · exact .inl (.inl h)
      · exact .inr h
      · exact .inl (.inr h)
    | succ j =>
      have h := ih (j := j) (by simpa using hx)
      simp only [List.set_cons_succ, bflat, List.flatMap_cons, List.length_append, List.mem_append] at h ⊢
      refine ⟨by omega, fun u hu => ?_⟩
      rcases hu with h1 | h1
      · exact .inl (.inl h1)
      · rcases h.2 u h1 with h2 | h2
        · exact .inl (.inr h2)
        · exact .inr h2
theorem bins_put {e1 e2 : TypeId} (he : e1 ≠ e2) {w1s w5s q d n j q2 d2 : Nat} {wz w9 : World} {bs : List BinV} {xj : BinV} {t : TaskV} {cs : List Value}
    (hW : wz.ownsRow w1s e1 1 (.slice (some ⟨q, 0, none⟩) n d) n (bs.map bcell)) (hB : ∀ b, b ∈ bs → wz.ownsRow w5s e2 2 (bcell b) b.ts.length (trow b.ts)) (hD : Dist bs) (hx : bs[j]? = some xj)
    (hW9 : w9.ownsRow w5s e2 2 (.slice (some ⟨q2, 0, none⟩) (xj.ts.length + 1) d2) (xj.ts.length + 1) (trow xj.ts ++ cs)) (hcs : tcells t = cs) (hG : wz.grownBy w9 (Value.slice xj.a xj.ts.length xj.c).ownBlock)
    (hQ : (Value.slice xj.a xj.ts.length xj.c).ownBlock = some q2 ∨ wz.heap.size < q2) :
    ∃ bs' : List BinV, bs'.length = bs.length ∧ (w9.setCell ⟨q, j, none⟩ (.slice (some ⟨q2, 0, none⟩) (xj.ts.length + 1) d2)).ownsRow w1s e1 1 (.slice (some ⟨q, 0, none⟩) n d) n (bs'.map bcell) ∧
      (∀ b, b ∈ bs' → (w9.setCell ⟨q, j, none⟩ (.slice (some ⟨q2, 0, none⟩) (xj.ts.length + 1) d2)).ownsRow w5s e2 2 (bcell b) b.ts.length (trow b.ts)) ∧ Dist bs' ∧ (∀ u, u ∈ bflat bs' → u ∈ bflat bs ∨ u = t) ∧ (bflat bs').length = (bflat bs).length + 1 := by
  have hxm : xj ∈ bs := List.mem_of_getElem? hx
  have hWB := ownsRow_grown hW hG (own_ne2 hW (hB xj hxm) he)
  obtain ⟨nb, hnb⟩ : ∃ b : BinV, b = ⟨some ⟨q2, 0, none⟩, d2, xj.ts ++ [t]⟩ := ⟨_, rfl⟩
  have hcell : bcell nb = .slice (some ⟨q2, 0, none⟩) (xj.ts.length + 1) d2 := by rw [hnb]; simp [bcell]
  have hnl : nb.ts = xj.ts ++ [t] := by rw [hnb]
  have hfl := bflat_set hx hnl
  have hN : w9.ownsRow w5s e2 2 (bcell nb) nb.ts.length (trow nb.ts) := by
    rw [hcell, hnl, trow_app, show trow [t] = cs by rw [← hcs]; simp [trow], List.length_append, List.length_singleton]
    exact hW9
  have hout : ∀ b, w9.ownsRow w5s e2 2 (bcell b) b.ts.length (trow b.ts) → (w9.setCell ⟨q, j, none⟩ (.slice (some ⟨q2, 0, none⟩) (xj.ts.length + 1) d2)).ownsRow w5s e2 2 (bcell b) b.ts.length (trow b.ts) :=
    fun b h => own_far h (p := ⟨q, j, none⟩) (fun h2 => own_ne2 h hWB (fun e => he e.symm) q h2 rfl) _
  refine ⟨bs.set j nb, by simp, ?_, fun b hb => ?_, hD.set_ fun i y hij hy g hg h2 => ?_, hfl.2, hfl.1⟩
  · have := (hWB.stored j (bcell nb)).1
    rw [← List.map_set] at this
    rw [← hcell]; exact this
  · obtain ⟨i, hi⟩ := List.getElem?_of_mem hb
    rw [List.getElem?_set] at hi
    split at hi
    · split at hi
      · obtain rfl := Option.some.inj hi
        exact hout _ hN
      · cases hi
    · rename_i hij
      exact hout b (ownsRow_grown (hB b (List.mem_of_getElem? hi)) hG (hD i j b xj (fun h => hij h.symm) hi hx))
  · rw [hcell] at h2
    simp only [Value.ownBlock, Option.some.injEq] at h2
    subst h2
    rcases hQ with h3 | h3
    · exact hD i j y xj hij hy hx _ hg h3
    · have := ((hB y (List.mem_of_getElem? hy)).lt _ hg).2
      omega
theorem l11Fits_any (i : Int) (R A B : Option Addr) (r c d : Nat) (lo hi lo' hi' lo2 hi2 : Nat) (room a : List Int) (ts : List TaskV) (w : World) (hR : Ints w lo2 hi2 R r room) (hA : Ints w lo hi A c a) (hB : Tasks w lo' hi' B d ts)
    (hr : room.length = 3) (ha : GoodN a) (hl : ts.length ≤ 1000) (hg : ∀ t, t ∈ ts → GoodN t.need) (h0 : hi2 ≤ w.heap.size) (h1 : hi ≤ w.heap.size) (h2 : hi' ≤ w.heap.size) :
    Calls Try.prog 78 #[.slice R room.length r, .slice B ts.length d, .agg #[.int .i64 i, .slice A a.length c]] w fun e w' => e = .returned (.bool (fitsB (addL (loadL (needs ts)) a 1) room)) ∧ Below w.heap.size w w' := by
  have HR := Lib.hid hR; clear hR
  have HA := Lib.hid hA; clear hA
  have HC := Lib.hid hB; clear hB
  have HGa := Lib.hid ha; clear ha
  have HG := Lib.hid hg; clear hg
  have Hr := Lib.hid hr; clear hr
  go_enter Try.func78, Try.ntmps78
  go_wp2_with fail
  obtain ⟨w1, hw1⟩ : ∃ W, W = w.alloc (.cells #[.int .i64 i, .slice A a.length c] 25) := ⟨_, rfl⟩
  rw [← hw1]
  have hb : Below w.heap.size w w1 := by rw [hw1]; exact (Below.refl _ _).alloc (Nat.le_refl _) _
  have HP : Hid (Blk w1 w.heap.size 25 [.int .i64 i, .slice A a.length c]) := Lib.hid (by rw [hw1]; exact Blk.new w _ _)
  have hs1' : w.heap.size < w1.heap.size := HP.out.lt
  have HB := Lib.hid hb
  have hs1 := hb.size
  first | replace HR := Lib.hid (Ints.only HR.out hb (by omega) (by omega)) | replace HR := Lib.hid (Ints.below HR.out hb (by omega))
  first | replace HA := Lib.hid (Ints.only HA.out hb (by omega) (by omega)) | replace HA := Lib.hid (Ints.below HA.out hb (by omega))
  first | replace HC := Lib.hid (Tasks.only HC.out hb (by omega) (by omega)) | replace HC := Lib.hid (Tasks.below HC.out hb (by omega))
  clear hb hw1
  replace HR : Hid (Ints w1.drew _ _ _ _ _) := HR
  replace HA : Hid (Ints w1.drew _ _ _ _ _) := HA
  replace HC : Hid (Tasks w1.drew _ _ _ _ _) := HC
  replace HP : Hid (Blk w1.drew _ _ _) := HP
  replace HB : Hid (Below w.heap.size w w1.drew) := Lib.hid HB.out.drew
  have hdr : w1.heap.size ≤ w1.drew.heap.size ∧ w1.drew.heap.size ≤ w1.heap.size := ⟨Nat.le_refl _, Nat.le_refl _⟩
  have hp1 := HP.out.cell (i := 1) rfl
  obtain ⟨vf, hvf⟩ : ∃ v, fitsB (addL (loadL (needs ts)) a 1) room = v := ⟨_, rfl⟩
  have HVF := Lib.hid hvf; clear hvf
  have hl3 : (addL (loadL (needs ts)) a 1).length = 3 := addL_len rfl HGa.out.1
  have HL3 := Lib.hid hl3; clear hl3
  have HLS := Lib.hid (fun x hx => by have := load_small HG.out hl (Nat.le_refl _) x (by rwa [List.take_of_length_le (Nat.le_refl _)]); omega : ∀ x, x ∈ loadL (needs ts) → -1000000000 ≤ x ∧ x ≤ 1000000000)
  go_wp2_with fail
  go_region_held3 (fun w' => w'.cell? ⟨w.heap.size, 1, none⟩ = some (.slice A a.length c))
    (go_keep)
    (first
      | (go_at_call 63; (with_reducible refine (l2Load_any B d _ _ ts _ HC.out hl HG.out (by omega)).mono ?_); rintro e w2 ⟨A2, c2, rfl, hI, hb⟩; have HI := Lib.hid hI; have hs2 := hb.size; (first | replace HR := Lib.hid (Ints.only HR.out hb (by omega) (by omega)) | replace HR := Lib.hid (Ints.below HR.out hb (by omega))); (first | replace HA := Lib.hid (Ints.only HA.out hb (by omega) (by omega)) | replace HA := Lib.hid (Ints.below HA.out hb (by omega))); (first | replace HB := Lib.hid (Below.trans HB.out (Below.mono hb (by omega))) | replace HB := Lib.hid (Below.trans HB.out (Only.below hb (by omega) (by omega)))); (first | replace HP := Lib.hid (Blk.only HP.out hb (by omega)) | replace HP := Lib.hid (Blk.below HP.out hb (by omega))); clear hb hI hp1; have hp1 := HP.out.cell (i := 1) rfl)
      | (go_at_call 74; have h3 := l1Add_any A2 A c2 c _ _ _ _ (loadL (needs ts)) a 1 w2 HI.out HA.out rfl HGa.out.1 (Nat.le_refl _) (by omega) HLS.out (good_bd HGa.out) (by omega); rw [loadL_len] at h3; refine h3.mono ?_; rintro e w3 ⟨A3, c3, rfl, hI3, hb⟩; have HI3 := Lib.hid hI3; have hs3 := hb.size; (first | replace HR := Lib.hid (Ints.only HR.out hb (by omega) (by omega)) | replace HR := Lib.hid (Ints.below HR.out hb (by omega))); (first | replace HB := Lib.hid (Below.trans HB.out (Below.mono hb (by omega))) | replace HB := Lib.hid (Below.trans HB.out (Only.below hb (by omega) (by omega)))); (first | replace HP := Lib.hid (Blk.only HP.out hb (by omega)) | replace HP := Lib.hid (Blk.below HP.out hb (by omega))); clear hb hI3 hp1 h3; have hp1 := HP.out.cell (i := 1) rfl)
      | (go_at_call 66; have h4 := l1Fits_any A3 R c3 r _ _ _ _ (addL (loadL (needs ts)) a 1) room w3 HI3.out HR.out HL3.out Hr.out; rw [HL3.out, HVF.out] at h4; refine h4.mono ?_; rintro e w4 ⟨rfl, hd⟩; have hb := drawn_below hd; (first | replace HB := Lib.hid (Below.trans HB.out (Below.mono hb (by omega))) | replace HB := Lib.hid (Below.trans HB.out (Only.below hb (by omega) (by omega)))); (first | replace HP := Lib.hid (Blk.only HP.out hb (by omega)) | replace HP := Lib.hid (Blk.below HP.out hb (by omega))); clear hb hd h4 hp1; have hp1 := HP.out.cell (i := 1) rfl))
  go_wp2_with fail
  go_ret
  exact ⟨by simp [HVF.out], HB.out⟩
theorem elB : Elem Try.prog 53 36 1 24 := Elem.mk' Try.underlying53 (z := .slice none 0 0) (by kernel_rfl) rfl (by omega)
theorem two_cells (i : Int) (a : Option Addr) (n c : Nat) : ∀ u ∈ [Value.int .i64 i, Value.slice a n c], u.oneCell' = true := by
  intro u hu
  simp at hu
  rcases hu with rfl | rfl <;> rfl
theorem one_slice (a : Option Addr) (n c : Nat) : ∀ u ∈ [Value.slice a n c], u.oneCell' = true := by
  intro u hu; simp at hu; subst hu; rfl
/-- a room and nodes in new memory -/
def DrewN (w : World) (g p : Nat) (e : Ending) (w' : World) : Prop :=
  ∃ R r, ∃ room : List Int, ∃ B d, ∃ bs : List BinV, ∃ p', e = .returned (.tuple #[.slice R room.length r, .slice B bs.length d]) ∧ Ints w' w.heap.size w'.heap.size R r room ∧ GoodN room ∧
    Bins w' w.heap.size w'.heap.size B d bs ∧ (∀ t, t ∈ bflat bs → GoodT t) ∧ bs.length ≤ 5 ∧ (bflat bs).length ≤ 16 ∧ Rd w' g p' ∧ p ≤ p' ∧ p' ≤ p + 400 ∧ Only g (g + 1) w w'
set_option maxHeartbeats 4000000 in
theorem l91Bins_any (g p : Nat) (w : World) (hR : Rd w g p) (hp : p ≤ 700000) :
    Calls Try.prog 64 #[.pointer (some ⟨g, 0, none⟩)] w (DrewN w g p) := by
  have HR := Lib.hid hR; clear hR
  have hg0 : g < w.heap.size := HR.out.lt
  have HO := Lib.hid (Only.refl g (g + 1) w)
  go_enter Try.func64, Try.ntmps64
  go_wp2_with fail
  refine (l91Room_any g p w HR.out (by omega)).mono ?_; rintro e w1 ⟨rb, rx, ry, rz, p1, rfl, hI, hrx, hry, hrz, hR, hp0, hp1, hO⟩
  replace HR := Lib.hid hR; clear hR
  have HX := Lib.hid hI; clear hI
  have hs1 := hO.size
  first | replace HO := Lib.hid (Only.trans HO.out hO) | replace HO := Lib.hid (Only.then_below HO.out (Below.mono hO (by omega)))
  clear hO
  go_wp2_with fail
  obtain ⟨w2, hw2⟩ : ∃ W, W = w1.alloc (.cells #[] 36) := ⟨_, rfl⟩
  rw [← hw2]
  have hb : Below w1.heap.size w1 w2 := by rw [hw2]; exact (Below.refl _ _).alloc (Nat.le_refl _) _
  have HW0 : Hid (w2.ownsRow w1.heap.size 36 1 (.slice (some ⟨w1.heap.size, 0, none⟩) 0 0) 0 []) := Lib.hid (by rw [hw2]; exact ownsRow_empty w1 _ 1)
  have hs2 := hb.size
  have hs12 : w1.heap.size + 1 ≤ w2.heap.size := by rw [hw2]; simp
  replace HR := Lib.hid (Rd.below HR.out hb (by omega))
  first | replace HX := Lib.hid (Ints.only HX.out hb (by omega) (by omega)) | replace HX := Lib.hid (Ints.below HX.out hb (by omega))
  first | replace HO := Lib.hid (Only.trans HO.out hb) | replace HO := Lib.hid (Only.then_below HO.out (Below.mono hb (by omega)))
  clear hb hw2
  obtain ⟨v, hv⟩ : ∃ v, roomB [rx, ry, rz] = v := ⟨_, rfl⟩
  have HV := Lib.hid hv; clear hv
  have h5 := l2Room_any (some ⟨rb, 0, none⟩) 3 _ _ [rx, ry, rz] w2 HX.out (by simp)
  rw [HV.out] at h5
  have H5 := Lib.hid h5; clear h5
  refine H5.out.mono ?_; rintro e w' ⟨rfl, rfl⟩
  cases v
  · go_wp2_with fail
    go_ret2
    refine ⟨some ⟨rb, 0, none⟩, 3, [rx, ry, rz], some ⟨w1.heap.size, 0, none⟩, 0, [], p1, by simp, HX.out.mono (by omega) (by omega), ⟨rfl, ?_⟩, ⟨⟨Nat.le_refl _, by simp [maxLen], rfl, .inl rfl⟩, by simp⟩, by simp [bflat], by simp, by simp [bflat], HR.out, by omega, by omega, HO.out⟩
    intro u hu
    simp at hu
    rcases hu with rfl | rfl | rfl
    · exact hrx
    · exact hry
    · exact hrz
  go_wp2_with fail
  refine (pick_any g p1 11 w2 HR.out (by omega) (by omega)).mono ?_; rintro e w3 ⟨m0, rfl, hm0, hm1, hR, hO, hs⟩
  obtain ⟨m, rfl⟩ := Int.eq_ofNat_of_zero_le hm0
  obtain ⟨hs3, hs3'⟩ := le_le hs; clear hs
  replace HR := Lib.hid hR; clear hR
  first | replace HO := Lib.hid (Only.trans HO.out hO) | replace HO := Lib.hid (Only.then_below HO.out (Below.mono hO (by omega)))
  first | replace HX := Lib.hid (Ints.only HX.out hO (by omega) (by omega)) | replace HX := Lib.hid (Ints.below HX.out hO (by omega))
  first | replace HW0 := Lib.hid (ownsRow_only HW0.out hO (by omega)) | replace HW0 := Lib.hid (ownsRow_below' HW0.out hO (by omega))
  clear hO
  go_wp2_with fail
  refine (l91Tasks_any g (p1 + 1) m w3 HR.out (by omega) (by omega)).mono ?_; rintro e w4 ⟨A, c, ts, p4, rfl, hT, hD, hl, hR, hp4, hp5, hO⟩
  replace HR := Lib.hid hR; clear hR
  have HT := Lib.hid hT; clear hT
  have HD := Lib.hid hD; clear hD
  have hs4 := hO.size
  first | replace HO := Lib.hid (Only.trans HO.out hO) | replace HO := Lib.hid (Only.then_below HO.out (Below.mono hO (by omega)))
  first | replace HX := Lib.hid (Ints.only HX.out hO (by omega) (by omega)) | replace HX := Lib.hid (Ints.below HX.out hO (by omega))
  first | replace HW0 := Lib.hid (ownsRow_only HW0.out hO (by omega)) | replace HW0 := Lib.hid (ownsRow_below' HW0.out hO (by omega))
  clear hO
  go_wp2_with fail
  refine (pick_any g p4 5 w4 HR.out (by omega) (by omega)).mono ?_; rintro e w5 ⟨n0, rfl, hn0, hn1, hR, hO, hs⟩
  obtain ⟨hs5, hs5'⟩ := le_le hs; clear hs
  replace HR := Lib.hid hR; clear hR
  first | replace HO := Lib.hid (Only.trans HO.out hO) | replace HO := Lib.hid (Only.then_below HO.out (Below.mono hO (by omega)))
  first | replace HX := Lib.hid (Ints.only HX.out hO (by omega) (by omega)) | replace HX := Lib.hid (Ints.below HX.out hO (by omega))
  first | replace HW0 := Lib.hid (ownsRow_only HW0.out hO (by omega)) | replace HW0 := Lib.hid (ownsRow_below' HW0.out hO (by omega))
  first | replace HT := Lib.hid (Tasks.only HT.out hO (by omega) (by omega)) | replace HT := Lib.hid (Tasks.below HT.out hO (by omega))
  clear hO
  have hnw : IntKind.i64.wrap (1 + n0) = 1 + n0 := wrap_small (by omega)
  obtain ⟨n, hn⟩ : ∃ n : Nat, 1 + n0 = n := ⟨(1 + n0).toNat, by omega⟩
  rw [hn] at hnw
  have hn5 : 1 ≤ n ∧ n ≤ 5 := by omega
  go_wp2_with fail
  clear hnw
  have hW5 := HW0.out
  have hs13 : w1.heap.size < w3.heap.size := by omega
  go_loopw [5, 8] (fun o i wr => ∃ k q d : Nat, ∃ bs : List BinV, k ≤ n ∧ i = .int .i64 k ∧ o = .slice (some ⟨q, 0, none⟩) k d ∧ bs.length = k ∧ wr.ownsRow w1.heap.size 36 1 (.slice (some ⟨q, 0, none⟩) k d) k (bs.map bcell) ∧ (q < w3.heap.size ∨ w5.heap.size ≤ q) ∧
      (∀ b, b ∈ bs → b.ts = [] ∧ wr.ownsRow w5.heap.size 25 2 (bcell b) b.ts.length (trow b.ts)) ∧ Dist bs ∧ Rd wr g (p4 + 1) ∧ Ints wr w.heap.size w1.heap.size (some ⟨rb, 0, none⟩) 3 [rx, ry, rz] ∧ Tasks wr w3.heap.size w4.heap.size A c ts ∧ Only g (g + 1) w wr ∧ w5.heap.size ≤ wr.heap.size) (fun _ i _ => n - (intOf i).toNat)
  case atStart => exact ⟨0, w1.heap.size, 0, [], by omega, rfl, rfl, rfl, hW5, .inl hs13, by simp, fun i j x y _ hx => by simp at hx, HR.out, HX.out, HT.out, HO.out, Nat.le_refl _⟩
  case round =>
    obtain ⟨k, q, d, bs, hk, rfl, rfl, hbl, hown, hq, hbs, hdi, hR, hX, hT, hO, hsz⟩ := hrel
    have HBL := Lib.hid hbl; clear hbl
    have HW := Lib.hid hown; clear hown
    have HBS := Lib.hid hbs; clear hbs
    have HDI := Lib.hid hdi; clear hdi
    replace HR := Lib.hid hR; clear hR
    replace HX := Lib.hid hX; clear hX
    replace HT := Lib.hid hT; clear hT
    replace HO := Lib.hid hO; clear hO
    clear hW5
    by_cases hlt : k < n
    · have hs6 : w1.heap.size ≤ (wr.alloc (.cells #[] 25)).heap.size := by simp; omega
      have HW6 := Lib.hid (ownsRow_below HW.out ((Below.refl wr.heap.size wr).alloc (o := .cells #[] 25) (Nat.le_refl _)))
      have HE6 := Lib.hid (ownsRow_empty wr 25 2)
      have hb6 : Below wr.heap.size wr (wr.alloc (.cells #[] 25)) := (Below.refl _ _).alloc (Nat.le_refl _) _
      have HB6 := Lib.hid hb6; clear hb6
      have HX6 : Hid (Value.slice (some ⟨wr.heap.size + 1, 0, none⟩) 1 1 = Value.slice (some ⟨(wr.alloc (.cells #[] 25)).heap.size, 0, none⟩) 1 1) := Lib.hid (by simp)
      go_wp2_with (at_builtin; refine wpList_app1 elB rfl (.tmp 31) (.tmp 33) rfl (wr.alloc (.cells #[] 25)) _ HW6.out [.slice (some ⟨wr.heap.size, 0, none⟩) 0 0] rfl HX6.out ⟨rfl, rfl, rfl, rfl⟩ rfl (one_slice _ _ _) hs6 (by simp only [maxLen]; omega) (by omega) ?_; intro q2 d2 w7 hown2 hb2 hg2 hsz2 hq2; have HW7 := Lib.hid hown2; have HB7 := Lib.hid hb2; have HG7 := Lib.hid hg2; have HQ7 := Lib.hid hq2; clear hown2 hb2 hg2 hq2)
      have hq' : q < w3.heap.size ∨ w5.heap.size ≤ q := hq
      have HO7 := Lib.hid (only_of_grown (q := q) HG7.out)
      refine ⟨⟨k + 1, q2, d2, bs ++ [⟨some ⟨wr.heap.size, 0, none⟩, 0, []⟩], by omega, by go_num, rfl, by simp [HBL.out], by rw [List.map_append]; exact HW7.out, ?_, ?_, HDI.out.snoc ?_, (HR.out.below HB6.out (by omega)).below HB7.out (by omega), (HX.out.below HB6.out (by omega)).below HB7.out (Nat.le_refl _), (HT.out.below HB6.out (by omega)).only HO7.out (by omega) (by simp; omega), HO.out.then_below ((HB6.out.mono (by omega)).trans (HB7.out.mono (by omega))), by simp at hsz2; omega⟩, by simp [intOf]; omega⟩
      · rcases HQ7.out with h | h
        · simp only [Value.ownBlock, Option.some.injEq] at h; omega
        · simp at h; omega
      · intro b hb
        rcases List.mem_append.1 hb with h | h
        · have h1 := HBS.out b h
          exact ⟨h1.1, ownsRow_grown (ownsRow_below h1.2 HB6.out) HG7.out (fun g hg => own_ne2 (ownsRow_below h1.2 HB6.out) HW6.out (by decide) g hg)⟩
        · simp only [List.mem_singleton] at h
          subst h
          exact ⟨rfl, ownsRow_grown (ownsRow_base HE6.out hsz) HG7.out (fun g hg => own_ne2 (ownsRow_base HE6.out hsz) HW6.out (by decide) g hg)⟩
      · intro x hx g hg h2
        have := ((HBS.out x hx).2.lt g hg).2
        simp only [bcell, Value.ownBlock, Option.some.injEq] at h2
        omega
    · obtain rfl : n = k := by omega
      go_wp2_with fail
      have hn9 : n ≤ 5 := hn5.2
      have hn8 : 1 ≤ n := hn5.1
      clear hn hk hlt hn5
      go_loopw [9] (fun i wr => ∃ i' p' : Nat, ∃ bs : List BinV, i' ≤ ts.length ∧ i = .int .i64 i' ∧ bs.length = n ∧ wr.ownsRow w1.heap.size 36 1 (.slice (some ⟨q, 0, none⟩) n d) n (bs.map bcell) ∧
        (∀ b, b ∈ bs → wr.ownsRow w5.heap.size 25 2 (bcell b) b.ts.length (trow b.ts)) ∧ (∀ u, u ∈ bflat bs → u ∈ ts) ∧ (bflat bs).length ≤ i' ∧ Dist bs ∧ Rd wr g p' ∧ (p4 + 1 ≤ p' ∧ p' ≤ p4 + 1 + 2 * i') ∧ Ints wr w.heap.size w1.heap.size (some ⟨rb, 0, none⟩) 3 [rx, ry, rz] ∧ Tasks wr w3.heap.size w4.heap.size A c ts ∧ Only g (g + 1) w wr ∧ w5.heap.size ≤ wr.heap.size) (fun i _ => ts.length - (intOf i).toNat)
      case atStart =>
        have hfl : bflat bs = [] := by
          rw [bflat, List.flatMap_eq_nil_iff]
          exact fun b hb => (HBS.out b hb).1
        exact ⟨0, p4 + 1, bs, by omega, rfl, HBL.out, HW.out, fun b hb => (HBS.out b hb).2, by rw [hfl]; simp, by rw [hfl]; simp, HDI.out, HR.out, by omega, HX.out, HT.out, HO.out, hsz⟩
      case round =>
        clear HBL HW HBS HDI HR HX HT HO hsz
        obtain ⟨i', p', bs, hi, rfl, hbl, hown, hbs, hmem, hfl, hdi, hR, hp', hX, hT, hO, hsz⟩ := hrel
        have HBL := Lib.hid hbl; clear hbl
        have HW := Lib.hid hown; clear hown
        have HBS := Lib.hid hbs; clear hbs
        have HM := Lib.hid hmem; clear hmem
        have HDI := Lib.hid hdi; clear hdi
        have HR := Lib.hid hR; clear hR
        have HX := Lib.hid hX; clear hX
        have HT := Lib.hid hT; clear hT
        have HO := Lib.hid hO; clear hO
        by_cases hlt : i' < ts.length
        · obtain ⟨tb, off, t, rfl, ht, hc1, hc2, htl, hth, hN⟩ := HT.out.at_ hlt
          obtain ⟨nb, x, y, z, e1, e2, e3, _, _, hx, hy, hz, hid⟩ := HD.out t (List.mem_of_getElem? ht)
          rw [e1, e3, e2] at hc2
          rw [e1, e3, e2] at hN
          have HN := Lib.hid hN
          have HTM := Lib.hid (List.mem_of_getElem? ht)
          have HTV : Hid (tcells t = [.int .i64 t.id, .slice (some ⟨nb, 0, none⟩) 3 3]) := Lib.hid (by simp [tcells, e1, e2, e3])
          have HTC1 := Lib.hid hc1
          have HTC2 : Hid (wr.cell? ⟨tb, off + i' * 2 + 1, none⟩ = some (.slice (some ⟨nb, 0, none⟩) 3 3)) := Lib.hid hc2
          have HGD : Hid (GoodN [x, y, z]) := Lib.hid (by rw [← e3]; exact (DTk.good (HD.out t (List.mem_of_getElem? ht))).1)
          have hilt : (i' : Int) < ts.length := by omega
          have hgs : g < w3.heap.size := by omega
          clear hc1 hc2 hN ht e1 e2 e3
          go_wp2_with fail
          refine (pick_any g p' n wr HR.out (by omega) (by omega)).mono ?_; rintro e w6 ⟨j0, rfl, hj0, hj1, hR, hO, hs⟩
          obtain ⟨j, rfl⟩ := Int.eq_ofNat_of_zero_le hj0
          obtain ⟨hs6, hs6'⟩ := le_le hs; clear hs
          replace HR := Lib.hid hR; clear hR
          have hj : j < n := by omega
          replace HTC1 := Lib.hid (keepS hO (by omega) (by omega) HTC1.out)
          replace HTC2 := Lib.hid (keepS hO (by omega) (by omega) HTC2.out)
          first | replace HO := Lib.hid (Only.trans HO.out hO) | replace HO := Lib.hid (Only.then_below HO.out (Below.mono hO (by omega)))
          first | replace HX := Lib.hid (Ints.only HX.out hO (by omega) (by omega)) | replace HX := Lib.hid (Ints.below HX.out hO (by omega))
          first | replace HT := Lib.hid (Tasks.only HT.out hO (by omega) (by omega)) | replace HT := Lib.hid (Tasks.below HT.out hO (by omega))
          first | replace HN := Lib.hid (Ints.only HN.out hO (by omega) (by omega)) | replace HN := Lib.hid (Ints.below HN.out hO (by omega))
          first | replace HW := Lib.hid (ownsRow_only HW.out hO (by omega)) | replace HW := Lib.hid (ownsRow_below' HW.out hO (by omega))
          replace HBS : Hid (∀ b, b ∈ bs → w6.ownsRow w5.heap.size 25 2 (bcell b) b.ts.length (trow b.ts)) := Lib.hid (fun b hb => ownsRow_only (HBS.out b hb) hO (by omega))
          clear hO
          obtain ⟨xj, hxj⟩ : ∃ x, bs[j]? = some x := ⟨_, List.getElem?_eq_getElem (by rw [HBL.out]; exact hj)⟩
          have hbc : w6.cell? ⟨q, j, none⟩ = some (.slice xj.a xj.ts.length xj.c) := by
            rw [HW.out.cellAt j (by omega), List.getElem?_map, hxj]; rfl
          have HXJ := Lib.hid hxj
          have HBC := Lib.hid hbc
          have hbq : g < q := by have := (HW.out.lt q rfl).1; omega
          have hfj : xj.ts.length ≤ (bflat bs).length := by
            obtain ⟨h1, h2⟩ := List.getElem?_eq_some_iff.1 hxj
            have := bflat_len (bs := bs) (j + 1)
            rw [bflat_snoc hxj, List.length_append] at this; omega
          have hoj : w6.ownsRow w5.heap.size 25 2 (.slice xj.a xj.ts.length xj.c) xj.ts.length (trow xj.ts) := HBS.out xj (List.mem_of_getElem? hxj)
          have HOJ := Lib.hid hoj
          have HMJ : Hid (∀ u, u ∈ xj.ts → u ∈ ts) := Lib.hid (fun u hu => HM.out u (mem_bflat (List.mem_of_getElem? hxj) u hu))
          obtain ⟨B9, d9, he9, hT9⟩ := Tasks.of_own (ownsRow_base hoj (show w3.heap.size ≤ w5.heap.size by omega)) (fun u hu => (HT.out.2 u (HMJ.out u hu)).mono (Nat.le_refl _) (by omega))
          simp only [Value.slice.injEq] at he9
          obtain ⟨rfl, -, rfl⟩ := he9
          have HTJ := Lib.hid hT9
          have HGJ : Hid (∀ u, u ∈ xj.ts → GoodN u.need) := Lib.hid (fun u hu => (DTk.good (HD.out u (HMJ.out u hu))).1)
          have hjn : (j : Int) < n := by omega
          clear hxj hoj hT9
          obtain ⟨vf, hvf⟩ : ∃ v, fitsB (addL (loadL (needs xj.ts)) [x, y, z] 1) [rx, ry, rz] = v := ⟨_, rfl⟩
          have HVF := Lib.hid hvf; clear hvf
          have htc1 := HTC1.out
          have htc2 := HTC2.out
          have h11 := fun W (hR : Ints W w.heap.size w1.heap.size (some ⟨rb, 0, none⟩) 3 [rx, ry, rz]) (hA : Ints W w3.heap.size w4.heap.size (some ⟨nb, 0, none⟩) 3 [x, y, z]) (hB : Tasks W w3.heap.size w6.heap.size xj.a xj.c xj.ts) (hs : w6.heap.size ≤ W.heap.size) => l11Fits_any t.id (some ⟨rb, 0, none⟩) (some ⟨nb, 0, none⟩) xj.a 3 3 xj.c _ _ _ _ _ _ [rx, ry, rz] [x, y, z] xj.ts W hR hA hB rfl HGD.out (by omega) HGJ.out (by omega) (by omega) hs
          rw [HVF.out] at h11
          have H11 := Lib.hid h11; clear h11
          have HXd : Hid (Ints w6.drew _ _ _ _ _) := HX
          have HNd : Hid (Ints w6.drew _ _ _ _ _) := HN
          have HTd : Hid (Tasks w6.drew _ _ _ _ _) := HTJ
          have hq6 : q < w6.heap.size := (HW.out.lt q rfl).2
          go_wp2_with fail
          go_still_tail 17, (by kernel_rfl)
          change wpList _ _ _ _ _ w6.drew
          clear hbc
          cases vf
          · go_wp2_with fail
            refine (H11.out w6.drew HXd.out HNd.out HTd.out (Nat.le_refl _)).mono ?_; rintro e w7 ⟨rfl, hb⟩
            have HB7 : Hid (Below w6.heap.size w6 w7) := Lib.hid (Below.undrew hb)
            have hs7 : w6.heap.size ≤ w7.heap.size := hb.size
            clear hb HXd HNd HTd H11
            go_wp2_with fail
            refine (pick_any g (p' + 1) 60 w7 (HR.out.below HB7.out (show g < w6.heap.size by omega)) (by omega) (by omega)).mono ?_; rintro e wz ⟨u0, rfl, hu0, hu1, hR, hO8, hs8⟩
            replace HR := Lib.hid hR; clear hR
            have hz6 : w6.heap.size ≤ wz.heap.size := by omega
            obtain ⟨pz, hpz1, hpz2, hpz3⟩ : ∃ pz, pz = p' + 1 + 1 ∧ p' + 1 ≤ pz ∧ pz ≤ p' + 2 := ⟨_, rfl, by omega, by omega⟩
            rw [← hpz1] at HR
            have hK : Only g (g + 1) w6 wz := (Only.of_below HB7.out).trans hO8
            clear hO8 hs8 hpz1
            by_cases hu : u0 = 0
            · subst hu
              go_wp2_with fail
              replace HTC1 := Lib.hid (keepS hK (by omega) (by omega) HTC1.out)
              replace HTC2 := Lib.hid (keepS hK (by omega) (by omega) HTC2.out)
              first | replace HO := Lib.hid (Only.trans HO.out hK) | replace HO := Lib.hid (Only.then_below HO.out (Below.mono hK (by omega)))
              first | replace HX := Lib.hid (Ints.only HX.out hK (by omega) (by omega)) | replace HX := Lib.hid (Ints.below HX.out hK (by omega))
              first | replace HT := Lib.hid (Tasks.only HT.out hK (by omega) (by omega)) | replace HT := Lib.hid (Tasks.below HT.out hK (by omega))
              first | replace HW := Lib.hid (ownsRow_only HW.out hK (by omega)) | replace HW := Lib.hid (ownsRow_below' HW.out hK (by omega))
              replace HBS : Hid (∀ b, b ∈ bs → wz.ownsRow w5.heap.size 25 2 (bcell b) b.ts.length (trow b.ts)) := Lib.hid (fun b hb => ownsRow_only (HBS.out b hb) hK (by omega))
              replace HOJ : Hid (wz.ownsRow w5.heap.size 25 2 (.slice xj.a xj.ts.length xj.c) xj.ts.length (trow xj.ts)) := Lib.hid (ownsRow_only HOJ.out hK (by omega))
              clear hK htc1 htc2
              have hbc : wz.cell? ⟨q, j, none⟩ = some (.slice xj.a xj.ts.length xj.c) := by
                rw [HW.out.cellAt j (by omega), List.getElem?_map, HXJ.out]; rfl
              have htc1 := HTC1.out
              have htc2 := HTC2.out
              have hzz : w5.heap.size ≤ wz.heap.size := by omega
              have hqz : q < wz.heap.size := (HW.out.lt q rfl).2
              have hqz2 : q ≠ wz.heap.size := by omega
              have hqz3 : ¬ (q = wz.heap.size) := by omega
              have htz2 : tb ≠ wz.heap.size := by omega
              have hqq : w1.heap.size ≤ q := (HW.out.lt q rfl).1
              have HNE := Lib.hid (own_ne2 HW.out HOJ.out (by decide))
              go_wp2_with fail
              go_region_law (first | (refine step_app1 elT rfl (.tmp 73) (.tmp 78) rfl wz _ HOJ.out [.int .i64 t.id, .slice (some ⟨nb, 0, none⟩) 3 3] rfl rfl ⟨rfl, rfl, rfl, rfl⟩ rfl (two_cells _ _ _ _) (by omega) (by simp only [maxLen]; omega) (by omega) ?_; intro q2 d2 w9 hown2 hb2 hg2 hsz2 hq2; have HW9 := Lib.hid hown2; have HB9 := Lib.hid hb2; have HG9 := Lib.hid hg2; have HQ9 := Lib.hid hq2; have HWB := Lib.hid (ownsRow_grown HW.out hg2 HNE.out); have hbc9 := HWB.out.cellAt j (by omega); have hbf9 := HWB.out.frozenAt j; rw [List.getElem?_map, HXJ.out] at hbc9; simp only [Option.map_some, bcell] at hbc9; clear hown2 hb2 hg2 hq2 hbc htc1 htc2))
              all_goals
                obtain ⟨bs2, hb1, hb2, hb3, hb4, hb5, hb6⟩ := bins_put (by decide) HW.out HBS.out HDI.out HXJ.out HW9.out HTV.out HG9.out HQ9.out
                obtain ⟨wy, hwy⟩ : ∃ W, W = w9.setCell ⟨q, j, none⟩ (.slice (some ⟨q2, 0, none⟩) (xj.ts.length + 1) d2) := ⟨_, rfl⟩
                rw [← hwy] at hb2 hb3 ⊢
                have hOy : Only q (q + 1) w9 wy := by rw [hwy]; exact (Only.refl _ _ _).setCell (p := ⟨q, j, none⟩) (Nat.le_refl _) (by simp) _
                have hBy : Below w1.heap.size wz wy := by rw [hwy]; exact (HB9.out.mono (by omega)).setCell (p := ⟨q, j, none⟩) hqq _
                have hsy : wy.heap.size = w9.heap.size := by rw [hwy]; simp [World.setCell]
                clear hwy hbc9 hbf9
                have H1 := Lib.hid hb1
                have H2 := Lib.hid hb2
                have H3 := Lib.hid hb3
                have H4 := Lib.hid hb4
                have H5' := Lib.hid hb5
                have H6 := Lib.hid hb6
                have HBY := Lib.hid hBy
                have HOY := Lib.hid hOy
                have h9s := HB9.out.size
                have hys : w9.heap.size ≤ wy.heap.size := by omega
                clear hb1 hb2 hb3 hb4 hb5 hb6 hBy hOy hsy
                go_wp2_with fail
                exact ⟨⟨i' + 1, pz, bs2, by omega, by go_num, by rw [H1.out, HBL.out], H2.out, H3.out, fun u hu => (by rcases H5'.out u hu with h | h; exact HM.out u h; rw [h]; exact HTM.out), by rw [H6.out]; omega, H4.out, HR.out.below HBY.out (by omega), by omega, HX.out.below HBY.out (Nat.le_refl _), (HT.out.below HB9.out (by omega)).only HOY.out (by omega) (by omega), HO.out.then_below (HBY.out.mono (by omega)), by omega⟩, by simp [intOf]; omega⟩
            · have hub : (u0 == 0) = false := by simp; omega
              replace HTC1 := Lib.hid (keepS hK (by omega) (by omega) HTC1.out)
              replace HTC2 := Lib.hid (keepS hK (by omega) (by omega) HTC2.out)
              first | replace HO := Lib.hid (Only.trans HO.out hK) | replace HO := Lib.hid (Only.then_below HO.out (Below.mono hK (by omega)))
              first | replace HX := Lib.hid (Ints.only HX.out hK (by omega) (by omega)) | replace HX := Lib.hid (Ints.below HX.out hK (by omega))
              first | replace HT := Lib.hid (Tasks.only HT.out hK (by omega) (by omega)) | replace HT := Lib.hid (Tasks.below HT.out hK (by omega))
              first | replace HW := Lib.hid (ownsRow_only HW.out hK (by omega)) | replace HW := Lib.hid (ownsRow_below' HW.out hK (by omega))
              replace HBS : Hid (∀ b, b ∈ bs → wz.ownsRow w5.heap.size 25 2 (bcell b) b.ts.length (trow b.ts)) := Lib.hid (fun b hb => ownsRow_only (HBS.out b hb) hK (by omega))
              replace HOJ : Hid (wz.ownsRow w5.heap.size 25 2 (.slice xj.a xj.ts.length xj.c) xj.ts.length (trow xj.ts)) := Lib.hid (ownsRow_only HOJ.out hK (by omega))
              clear hK htc1 htc2
              go_wp2_with fail
              exact ⟨⟨i' + 1, pz, bs, by omega, by go_num, HBL.out, HW.out, HBS.out, HM.out, by omega, HDI.out, HR.out, by omega, HX.out, HT.out, HO.out, by omega⟩, by simp [intOf]; omega⟩
          · go_wp2_with fail
            refine (H11.out w6.drew HXd.out HNd.out HTd.out (Nat.le_refl _)).mono ?_; rintro e wz ⟨rfl, hb⟩
            have HB7 : Hid (Below w6.heap.size w6 wz) := Lib.hid (Below.undrew hb)
            have hz6 : w6.heap.size ≤ wz.heap.size := hb.size
            clear hb HXd HNd HTd H11
            replace HR := Lib.hid (HR.out.below HB7.out (show g < w6.heap.size by omega))
            obtain ⟨pz, hpz1, hpz2, hpz3⟩ : ∃ pz, pz = p' + 1 ∧ p' + 1 ≤ pz ∧ pz ≤ p' + 2 := ⟨_, rfl, by omega, by omega⟩
            rw [← hpz1] at HR
            have hK : Only g (g + 1) w6 wz := Only.of_below HB7.out
            clear hpz1
            go_wp2_with fail
            replace HTC1 := Lib.hid (keepS hK (by omega) (by omega) HTC1.out)
            replace HTC2 := Lib.hid (keepS hK (by omega) (by omega) HTC2.out)
            first | replace HO := Lib.hid (Only.trans HO.out hK) | replace HO := Lib.hid (Only.then_below HO.out (Below.mono hK (by omega)))
            first | replace HX := Lib.hid (Ints.only HX.out hK (by omega) (by omega)) | replace HX := Lib.hid (Ints.below HX.out hK (by omega))
            first | replace HT := Lib.hid (Tasks.only HT.out hK (by omega) (by omega)) | replace HT := Lib.hid (Tasks.below HT.out hK (by omega))
            first | replace HW := Lib.hid (ownsRow_only HW.out hK (by omega)) | replace HW := Lib.hid (ownsRow_below' HW.out hK (by omega))
            replace HBS : Hid (∀ b, b ∈ bs → wz.ownsRow w5.heap.size 25 2 (bcell b) b.ts.length (trow b.ts)) := Lib.hid (fun b hb => ownsRow_only (HBS.out b hb) hK (by omega))
            replace HOJ : Hid (wz.ownsRow w5.heap.size 25 2 (.slice xj.a xj.ts.length xj.c) xj.ts.length (trow xj.ts)) := Lib.hid (ownsRow_only HOJ.out hK (by omega))
            clear hK htc1 htc2
            have hbc : wz.cell? ⟨q, j, none⟩ = some (.slice xj.a xj.ts.length xj.c) := by
              rw [HW.out.cellAt j (by omega), List.getElem?_map, HXJ.out]; rfl
            have htc1 := HTC1.out
            have htc2 := HTC2.out
            have hzz : w5.heap.size ≤ wz.heap.size := by omega
            have hqz : q < wz.heap.size := (HW.out.lt q rfl).2
            have hqz2 : q ≠ wz.heap.size := by omega
            have hqz3 : ¬ (q = wz.heap.size) := by omega
            have htz2 : tb ≠ wz.heap.size := by omega
            have hqq : w1.heap.size ≤ q := (HW.out.lt q rfl).1
            have HNE := Lib.hid (own_ne2 HW.out HOJ.out (by decide))
            go_wp2_with fail
            go_region_law (first | (refine step_app1 elT rfl (.tmp 73) (.tmp 78) rfl wz _ HOJ.out [.int .i64 t.id, .slice (some ⟨nb, 0, none⟩) 3 3] rfl rfl ⟨rfl, rfl, rfl, rfl⟩ rfl (two_cells _ _ _ _) (by omega) (by simp only [maxLen]; omega) (by omega) ?_; intro q2 d2 w9 hown2 hb2 hg2 hsz2 hq2; have HW9 := Lib.hid hown2; have HB9 := Lib.hid hb2; have HG9 := Lib.hid hg2; have HQ9 := Lib.hid hq2; have HWB := Lib.hid (ownsRow_grown HW.out hg2 HNE.out); have hbc9 := HWB.out.cellAt j (by omega); have hbf9 := HWB.out.frozenAt j; rw [List.getElem?_map, HXJ.out] at hbc9; simp only [Option.map_some, bcell] at hbc9; clear hown2 hb2 hg2 hq2 hbc htc1 htc2))
            all_goals
              obtain ⟨bs2, hb1, hb2, hb3, hb4, hb5, hb6⟩ := bins_put (by decide) HW.out HBS.out HDI.out HXJ.out HW9.out HTV.out HG9.out HQ9.out
              obtain ⟨wy, hwy⟩ : ∃ W, W = w9.setCell ⟨q, j, none⟩ (.slice (some ⟨q2, 0, none⟩) (xj.ts.length + 1) d2) := ⟨_, rfl⟩
              rw [← hwy] at hb2 hb3 ⊢
              have hOy : Only q (q + 1) w9 wy := by rw [hwy]; exact (Only.refl _ _ _).setCell (p := ⟨q, j, none⟩) (Nat.le_refl _) (by simp) _
              have hBy : Below w1.heap.size wz wy := by rw [hwy]; exact (HB9.out.mono (by omega)).setCell (p := ⟨q, j, none⟩) hqq _
              have hsy : wy.heap.size = w9.heap.size := by rw [hwy]; simp [World.setCell]
              clear hwy hbc9 hbf9
              have H1 := Lib.hid hb1
              have H2 := Lib.hid hb2
              have H3 := Lib.hid hb3
              have H4 := Lib.hid hb4
              have H5' := Lib.hid hb5
              have H6 := Lib.hid hb6
              have HBY := Lib.hid hBy
              have HOY := Lib.hid hOy
              have h9s := HB9.out.size
              have hys : w9.heap.size ≤ wy.heap.size := by omega
              clear hb1 hb2 hb3 hb4 hb5 hb6 hBy hOy hsy
              go_wp2_with fail
              exact ⟨⟨i' + 1, pz, bs2, by omega, by go_num, by rw [H1.out, HBL.out], H2.out, H3.out, fun u hu => (by rcases H5'.out u hu with h | h; exact HM.out u h; rw [h]; exact HTM.out), by rw [H6.out]; omega, H4.out, HR.out.below HBY.out (by omega), by omega, HX.out.below HBY.out (Nat.le_refl _), (HT.out.below HB9.out (by omega)).only HOY.out (by omega) (by omega), HO.out.then_below (HBY.out.mono (by omega)), by omega⟩, by simp [intOf]; omega⟩
        · have hul : (bflat bs).length ≤ 16 := by omega
          have hW9 := HW.out
          rw [← HBL.out] at hW9
          obtain ⟨B9, c9, he9, hC9⟩ := Cells.of_own hW9
          rw [HBL.out] at he9
          simp only [Value.slice.injEq, true_and] at he9
          obtain ⟨rfl, rfl⟩ := he9
          have hBN : Bins wr w.heap.size wr.heap.size (some ⟨q, 0, none⟩) d bs := by
            refine ⟨hC9.mono (by omega) (Nat.le_refl _), fun b hb => ?_⟩
            obtain ⟨B2, c2, he2, hT2⟩ := Tasks.of_own (ownsRow_base (HBS.out b hb) (show w.heap.size ≤ w5.heap.size by omega)) (fun u hu => (HT.out.2 u (HM.out u (mem_bflat hb u hu))).mono (by omega) (by omega))
            simp only [bcell, Value.slice.injEq, true_and] at he2
            rw [he2.1, he2.2]; exact hT2
          have HBN := Lib.hid hBN
          have HGT : Hid (∀ u, u ∈ bflat bs → GoodT u) := Lib.hid (fun u hu => DTk.good (HD.out u (HM.out u hu)))
          clear hW9 hC9 hBN
          go_wp2_with fail
          go_ret2
          refine ⟨some ⟨rb, 0, none⟩, 3, [rx, ry, rz], some ⟨q, 0, none⟩, d, bs, p', by simp [HBL.out], HX.out.mono (Nat.le_refl _) (by omega), ⟨rfl, ?_⟩, HBN.out, HGT.out, by rw [HBL.out]; omega, hul, HR.out, by omega, by omega, HO.out⟩
          intro u hu
          simp at hu
          rcases hu with rfl | rfl | rfl
          · exact hrx
          · exact hry
          · exact hrz
/-- a room and nodes in new memory, nothing else changed -/
def GenBN (w : World) (e : Ending) (w' : World) : Prop :=
  ∃ R r, ∃ room : List Int, ∃ B d, ∃ bs : List BinV, e = .returned (.tuple #[.slice R room.length r, .slice B bs.length d]) ∧ Ints w' w.heap.size w'.heap.size R r room ∧ GoodN room ∧
    Bins w' w.heap.size w'.heap.size B d bs ∧ (∀ t, t ∈ bflat bs → GoodT t) ∧ bs.length ≤ 5 ∧ (bflat bs).length ≤ 16 ∧ Below w.heap.size w w'
theorem DrawBinsValid_any (A : Option Addr) (n c : Nat) (w : World) (hA : BytesR w w.heap.size A n) (hc : n ≤ c) (hm : c ≤ maxLen) :
    Calls Try.prog 40 #[.slice A n c] w (GenBN w) := by
  have HA := Lib.hid hA; clear hA
  go_enter Try.func40, Try.ntmps40
  go_wp2_with fail
  refine (l6Open_any A n c w HA.out hc hm).mono ?_; rintro e w1 ⟨g, rfl, hg, hR, hb⟩
  have hg1 := hR.lt
  have HR := Lib.hid hR; clear hR
  have HB := Lib.hid hb; clear hb
  have hs1 := HB.out.size
  go_wp2_with fail
  refine (l91Bins_any g 0 w1 HR.out (by omega)).mono ?_; rintro e w2 ⟨R, r, room, B, d, bs, p', rfl, hI, hgn, hT, hgt, hl, hf, hR, hp0, hp1, hO⟩
  have HI := Lib.hid hI; clear hI
  have HT := Lib.hid hT; clear hT
  have HGN := Lib.hid hgn; clear hgn
  have HGT := Lib.hid hgt; clear hgt
  have HB2 := Lib.hid (HB.out.trans (hO.below hg hs1))
  have hs2 := hO.size
  clear hO hR
  go_wp2_with fail
  go_ret2
  exact ⟨R, r, room, B, d, bs, by simp, HI.out.mono hs1 (Nat.le_refl _), HGN.out, HT.out.mono hs1 (Nat.le_refl _), HGT.out, hl, hf, HB2.out⟩
end Go.Proofs.Ythfhlcmgeacddaa
