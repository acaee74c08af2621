/- The generator of nodes. No condition but on sizes. -/
import Derived.Test.YtcmampicgdobcaaDz
import Derived.Test.YtcmampicgdobcaaBn
import Derived.Test.YtcmampicgdobcaaBd
import Derived.Test.YtcmampicgdobcaaBa
import Derived.StillTailTactics
import Derived.Deep.RegionLaw
namespace Go.Proofs.Ytcmampicgdobcaa
open Go.RowKit
theorem ownsRow_grown {w w' : World} {base e size n : Nat} {v : Value} {xs : List Value} {row : Option Nat} (h : w.ownsRow base e size v n xs) (hg : w.grownBy w' row) (hne : ∀ g, v.ownBlock = some g → row ≠ some g) : w'.ownsRow base e size v n xs := by
  refine ⟨h.1, ?_⟩
  rcases h.2 with h | ⟨g, cap, cur, rfl, h2, h3, h4⟩
  · exact .inl h
  · exact .inr ⟨g, cap, cur, rfl, h2, by rw [hg.block g (Array.getElem?_eq_some_iff.1 h3).1 (fun e => hne g rfl (by rw [← e]))]; exact h3, h4⟩
theorem Below.undrew {w w' : World} {B : Nat} (h : Below B w.drew w') : Below B w w' := ⟨h.os, h.tape, h.output, h.size, h.block⟩
theorem only_of_grown {w w' : World} {q : Nat} (h : w.grownBy w' (some q)) : Only q (q + 1) w w' :=
  ⟨h.os, h.tape, h.output, h.size, fun k hk hn => h.block k hk (by simp; omega)⟩
/-- two own rows whose elements are of two types lie in two blocks -/
theorem own_ne2 {w : World} {b1 b2 e1 e2 s1 s2 n1 n2 : Nat} {v1 v2 : Value} {x1 x2 : List Value} (h1 : w.ownsRow b1 e1 s1 v1 n1 x1) (h2 : w.ownsRow b2 e2 s2 v2 n2 x2) (hne : e1 ≠ e2) : ∀ g, v1.ownBlock = some g → v2.ownBlock ≠ some g := by
  intro g hg1 hg2
  rcases h1.2 with ⟨rfl, _⟩ | ⟨g1, c1, cur1, rfl, _, k1, _⟩
  · simp [Value.ownBlock] at hg1
  · rcases h2.2 with ⟨rfl, _⟩ | ⟨g2, c2, cur2, rfl, _, k2, _⟩
    · simp [Value.ownBlock] at hg2
    · simp only [Value.ownBlock, Option.some.injEq] at hg1 hg2
      subst hg1
      subst hg2
      rw [k1] at k2
      simp only [Option.some.injEq, Obj.cells.injEq] at k2
      exact hne k2.2.1
/-- the nodes' blocks differ -/
def Dist (bs : List BinV) : Prop := ∀ (i j : Nat) (x y : BinV), i ≠ j → bs[i]? = some x → bs[j]? = some y → ∀ g, (bcell x).ownBlock = some g → (bcell y).ownBlock ≠ some g
theorem Dist.snoc {bs : List BinV} {b : BinV} (h : Dist bs) (hb : ∀ x, x ∈ bs → ∀ g, (bcell x).ownBlock = some g → (bcell b).ownBlock ≠ some g) : Dist (bs ++ [b]) := by
  intro i j x y hij hx hy g hg
  rw [List.getElem?_append] at hx hy
  split at hx
  · split at hy
    · exact h i j x y hij hx hy g hg
    · have : j - bs.length = 0 := by
        have := (List.getElem?_eq_some_iff.1 hy).1
        simp at this; omega
      rw [this] at hy
      simp at hy
      subst hy
      exact hb x (List.mem_of_getElem? hx) g hg
  · have e1 : i - bs.length = 0 := by
      have := (List.getElem?_eq_some_iff.1 hx).1
      simp at this; omega
    rw [e1] at hx
    simp at hx
    subst hx
    split at hy
    · intro h2; exact hb y (List.mem_of_getElem? hy) g h2 hg
    · have e2 : j - bs.length = 0 := by
        have := (List.getElem?_eq_some_iff.1 hy).1
        simp at this; omega
      omega
theorem Dist.set_ {bs : List BinV} {k : Nat} {b : BinV} (h : Dist bs) (hb : ∀ j x, j ≠ k → bs[j]? = some x → ∀ g, (bcell x).ownBlock = some g → (bcell b).ownBlock ≠ some g) : Dist (bs.set k b) := by
  intro i j x y hij hx hy g hg
  rw [List.getElem?_set] at hx hy
  split at hx
  · rename_i hik
    split at hx
    · obtain rfl := Option.some.inj hx
      rw [if_neg (by omega)] at hy
      intro h2
      exact hb j y (by omega) hy g h2 hg
    · cases hx
  · rename_i hik
    split at hy
    · rename_i hjk
      split at hy
      · obtain rfl := Option.some.inj hy
        exact hb i x (by omega) hx g hg
      · cases hy
    · exact h i j x y hij hx hy g hg
/-- a task appended to one of the nodes -/
theorem bflat_set {bs : List BinV} {j : Nat} {x b : BinV} (hx : bs[j]? = some x) {t : TaskV} (hb : b.ts = x.ts ++ [t]) : (bflat (bs.set j b)).length = (bflat bs).length + 1 ∧ ∀ u, u ∈ bflat (bs.set j b) → u ∈ bflat bs ∨ u = t := by
  induction bs generalizing j with
  | nil => simp at hx
  | cons y r ih =>
    cases j with
    | zero =>
      simp at hx; subst hx
      simp only [List.set_cons_zero, bflat, List.flatMap_cons, hb, List.length_append, List.length_singleton, List.mem_append, List.mem_singleton]
      refine ⟨by omega, fun u hu => ?_⟩
      rcases hu with (h | h) | h
      · exact .inl (.inl h)
      · exact .inr h
      · exact .inl (.inr h)
    | succ j =>
      have h := ih (j := j) (by simpa using hx)
      simp only [List.set_cons_succ, bflat, List.flatMap_cons, List.length_append, List.mem_append] at h ⊢
      refine ⟨by omega, fun u hu => ?_⟩
      rcases hu with h1 | h1
      · exact .inl (.inl h1)
      · rcases h.2 u h1 with h2 | h2
        · exact .inl (.inr h2)
        · exact .inr h2
theorem bins_put {e1 e2 : TypeId} (he : e1 ≠ e2) {w1s w5s q d n j q2 d2 : Nat} {wz w9 : World} {bs : List BinV} {xj : BinV} {t : TaskV} {cs : List Value}
    (hW : wz.ownsRow w1s e1 1 (.slice (some ⟨q, 0, none⟩) n d) n (bs.map bcell)) (hB : ∀ b, b ∈ bs → wz.ownsRow w5s e2 2 (bcell b) b.ts.length (trow b.ts)) (hD : Dist bs) (hx : bs[j]? = some xj)
    (hW9 : w9.ownsRow w5s e2 2 (.slice (some ⟨q2, 0, none⟩) (xj.ts.length + 1) d2) (xj.ts.length + 1) (trow xj.ts ++ cs)) (hcs : tcells t = cs) (hG : wz.grownBy w9 (Value.slice xj.a xj.ts.length xj.c).ownBlock)
    (hQ : (Value.slice xj.a xj.ts.length xj.c).ownBlock = some q2 ∨ wz.heap.size < q2) :
    ∃ bs' : List BinV, bs'.length = bs.length ∧ (w9.setCell ⟨q, j, none⟩ (.slice (some ⟨q2, 0, none⟩) (xj.ts.length + 1) d2)).ownsRow w1s e1 1 (.slice (some ⟨q, 0, none⟩) n d) n (bs'.map bcell) ∧
      (∀ b, b ∈ bs' → (w9.setCell ⟨q, j, none⟩ (.slice (some ⟨q2, 0, none⟩) (xj.ts.length + 1) d2)).ownsRow w5s e2 2 (bcell b) b.ts.length (trow b.ts)) ∧ Dist bs' ∧ (∀ u, u ∈ bflat bs' → u ∈ bflat bs ∨ u = t) ∧ (bflat bs').length = (bflat bs).length + 1 := by
  have hxm : xj ∈ bs := List.mem_of_getElem? hx
  have hWB := ownsRow_grown hW hG (own_ne2 hW (hB xj hxm) he)
  obtain ⟨nb, hnb⟩ : ∃ b : BinV, b = ⟨some ⟨q2, 0, none⟩, d2, xj.ts ++ [t]⟩ := ⟨_, rfl⟩
  have hcell : bcell nb = .slice (some ⟨q2, 0, none⟩) (xj.ts.length + 1) d2 := by rw [hnb]; simp [bcell]
  have hnl : nb.ts = xj.ts ++ [t] := by rw [hnb]
  have hfl := bflat_set hx hnl
  have hN : w9.ownsRow w5s e2 2 (bcell nb) nb.ts.length (trow nb.ts) := by
    rw [hcell, hnl, trow_app, show trow [t] = cs by rw [← hcs]; simp [trow], List.length_append, List.length_singleton]
    exact hW9
  have hout : ∀ b, w9.ownsRow w5s e2 2 (bcell b) b.ts.length (trow b.ts) → (w9.setCell ⟨q, j, none⟩ (.slice (some ⟨q2, 0, none⟩) (xj.ts.length + 1) d2)).ownsRow w5s e2 2 (bcell b) b.ts.length (trow b.ts) :=
    fun b h => own_far h (p := ⟨q, j, none⟩) (fun h2 => own_ne2 h hWB (fun e => he e.symm) q h2 rfl) _
  refine ⟨bs.set j nb, by simp, ?_, fun b hb => ?_, hD.set_ fun i y hij hy g hg h2 => ?_, hfl.2, hfl.1⟩
  · have := (hWB.stored j (bcell nb)).1
    rw [← List.map_set] at this
    rw [← hcell]; exact this
  · obtain ⟨i, hi⟩ := List.getElem?_of_mem hb
    rw [List.getElem?_set] at hi
    split at hi
    · split at hi
      · obtain rfl := Option.some.inj hi
        exact hout _ hN
      · cases hi
    · rename_i hij
      exact hout b (ownsRow_grown (hB b (List.mem_of_getElem? hi)) hG (hD i j b xj (fun h => hij h.symm) hi hx))
  · rw [hcell] at h2
    simp only [Value.ownBlock, Option.some.injEq] at h2
    subst h2
    rcases hQ with h3 | h3
    · exact hD i j y xj hij hy hx _ hg h3
    · have := ((hB y (List.mem_of_getElem? hy)).lt _ hg).2
      omega
theorem l11Fits_any (i : Int) (R A B : Option Addr) (r c d : Nat) (lo hi lo' hi' lo2 hi2 : Nat) (room a : List Int) (ts : List TaskV) (w : World) (hR : Ints w lo2 hi2 R r room) (hA : Ints w lo hi A c a) (hB : Tasks w lo' hi' B d ts)
    (hr : room.length = 3) (ha : GoodN a) (hl : ts.length ≤ 1000) (hg : ∀ t, t ∈ ts → GoodN t.need) (h0 : hi2 ≤ w.heap.size) (h1 : hi ≤ w.heap.size) (h2 : hi' ≤ w.heap.size) :
    Calls Try.prog 70 #[.slice R room.length r, .slice B ts.length d, .agg #[.int .i64 i, .slice A a.length c]] w fun e w' => e = .returned (.bool (fitsB (addL (loadL (needs ts)) a 1) room)) ∧ Below w.heap.size w w' := by
  have HR := Lib.hid hR; clear hR
  have HA := Lib.hid hA; clear hA
  have HC := Lib.hid hB; clear hB
  have HGa := Lib.hid ha; clear ha
  have HG := Lib.hid hg; clear hg
  have Hr := Lib.hid hr; clear hr
  go_enter Try.func70, Try.ntmps70
  go_wp2_with fail
  obtain ⟨w1, hw1⟩ : ∃ W, W = w.alloc (.cells #[.int .i64 i, .slice A a.length c] 62) := ⟨_, rfl⟩
  rw [← hw1]
  have hb : Below w.heap.size w w1 := by rw [hw1]; exact (Below.refl _ _).alloc (Nat.le_refl _) _
  have HP : Hid (Blk w1 w.heap.size 62 [.int .i64 i, .slice A a.length c]) := Lib.hid (by rw [hw1]; exact Blk.new w _ _)
  have hs1' : w.heap.size < w1.heap.size := HP.out.lt
  have HB := Lib.hid hb
  have hs1 := hb.size
  first | replace HR := Lib.hid (Ints.only HR.out hb (by omega) (by omega)) | replace HR := Lib.hid (Ints.below HR.out hb (by omega))
  first | replace HA := Lib.hid (Ints.only HA.out hb (by omega) (by omega)) | replace HA := Lib.hid (Ints.below HA.out hb (by omega))
  first | replace HC := Lib.hid (Tasks.only HC.out hb (by omega) (by omega)) | replace HC := Lib.hid (Tasks.below HC.out hb (by omega))
  clear hb hw1
  replace HR : Hid (Ints w1.drew _ _ _ _ _) := HR
  replace HA : Hid (Ints w1.drew _ _ _ _ _) := HA
  replace HC : Hid (Tasks w1.drew _ _ _ _ _) := HC
  replace HP : Hid (Blk w1.drew _ _ _) := HP
  replace HB : Hid (Below w.heap.size w w1.drew) := Lib.hid HB.out.drew
  have hdr : w1.heap.size ≤ w1.drew.heap.size ∧ w1.drew.heap.size ≤ w1.heap.size := ⟨Nat.le_refl _, Nat.le_refl _⟩
  have hp1 := HP.out.cell (i := 1) rfl
  obtain ⟨vf, hvf⟩ : ∃ v, fitsB (addL (loadL (needs ts)) a 1) room = v := ⟨_, rfl⟩
  have HVF := Lib.hid hvf; clear hvf
  have hl3 : (addL (loadL (needs ts)) a 1).length = 3 := addL_len rfl HGa.out.1
  have HL3 := Lib.hid hl3; clear hl3
  have HLS := Lib.hid (fun x hx => by have := load_small HG.out hl (Nat.le_refl _) x (by rwa [List.take_of_length_le (Nat.le_refl _)]); omega : ∀ x, x ∈ loadL (needs ts) → -1000000000 ≤ x ∧ x ≤ 1000000000)
  go_wp2_with fail
  go_region_held3 (fun w' => w'.cell? ⟨w.heap.size, 1, none⟩ = some (.slice A a.length c))
    (go_keep)
    (first
      | (go_at_call 63; (with_reducible refine (l2Load_any B d _ _ ts _ HC.out hl HG.out (by omega)).mono ?_); rintro e w2 ⟨A2, c2, rfl, hI, hb⟩; have HI := Lib.hid hI; have hs2 := hb.size; (first | replace HR := Lib.hid (Ints.only HR.out hb (by omega) (by omega)) | replace HR := Lib.hid (Ints.below HR.out hb (by omega))); (first | replace HA := Lib.hid (Ints.only HA.out hb (by omega) (by omega)) | replace HA := Lib.hid (Ints.below HA.out hb (by omega))); (first | replace HB := Lib.hid (Below.trans HB.out (Below.mono hb (by omega))) | replace HB := Lib.hid (Below.trans HB.out (Only.below hb (by omega) (by omega)))); (first | replace HP := Lib.hid (Blk.only HP.out hb (by omega)) | replace HP := Lib.hid (Blk.below HP.out hb (by omega))); clear hb hI hp1; have hp1 := HP.out.cell (i := 1) rfl)
      | (go_at_call 69; have h3 := l1Add_any A2 A c2 c _ _ _ _ (loadL (needs ts)) a 1 w2 HI.out HA.out rfl HGa.out.1 (Nat.le_refl _) (by omega) HLS.out (good_bd HGa.out) (by omega); rw [loadL_len] at h3; refine h3.mono ?_; rintro e w3 ⟨A3, c3, rfl, hI3, hb⟩; have HI3 := Lib.hid hI3; have hs3 := hb.size; (first | replace HR := Lib.hid (Ints.only HR.out hb (by omega) (by omega)) | replace HR := Lib.hid (Ints.below HR.out hb (by omega))); (first | replace HB := Lib.hid (Below.trans HB.out (Below.mono hb (by omega))) | replace HB := Lib.hid (Below.trans HB.out (Only.below hb (by omega) (by omega)))); (first | replace HP := Lib.hid (Blk.only HP.out hb (by omega)) | replace HP := Lib.hid (Blk.below HP.out hb (by omega))); clear hb hI3 hp1 h3; have hp1 := HP.out.cell (i := 1) rfl)
      | (go_at_call 62; have h4 := l1Fits_any A3 R c3 r _ _ _ _ (addL (loadL (needs ts)) a 1) room w3 HI3.out HR.out HL3.out Hr.out; rw [HL3.out, HVF.out] at h4; refine h4.mono ?_; rintro e w4 ⟨rfl, hd⟩; have hb := drawn_below hd; (first | replace HB := Lib.hid (Below.trans HB.out (Below.mono hb (by omega))) | replace HB := Lib.hid (Below.trans HB.out (Only.below hb (by omega) (by omega)))); (first | replace HP := Lib.hid (Blk.only HP.out hb (by omega)) | replace HP := Lib.hid (Blk.below HP.out hb (by omega))); clear hb hd h4 hp1; have hp1 := HP.out.cell (i := 1) rfl))
  go_wp2_with fail
  go_ret
  exact ⟨by simp [HVF.out], HB.out⟩
