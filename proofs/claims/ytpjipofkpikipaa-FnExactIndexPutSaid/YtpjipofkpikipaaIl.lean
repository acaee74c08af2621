/- Words that the index's statements share. No condition. -/
import Derived.Test.YtpjipofkpikipaaIk
import Derived.Test.YtpjipofkpikipaaIj
namespace Go.Proofs.Ytpjipofkpikipaa
open Go.RowKit
theorem RetO.rows {w w' : World} {xs : List (List Int)} {e : Ending} (h : RetO w xs e w') : ∃ A c, ∃ rs : List RowV, rs.map RowV.xs = xs ∧ e = .returned (.slice A rs.length c) ∧ Rws w' w.heap.size w'.heap.size A c rs ∧ Below w.heap.size w w' := by
  rcases h with ⟨rfl, A, c, rfl, hc, hb⟩ | ⟨T, P, rfl, rfl, hT, ⟨us, hus, ht⟩, hb⟩
  · exact ⟨A, c, [], rfl, rfl, Rws.zero _ _ _ _ _ hc, hb⟩
  · exact ⟨some ⟨T, 0, none⟩, 32, us, hus, by rw [ht.len], ht.rws.mono hT (Nat.le_refl _), hb⟩
theorem RetP.rows {w w' : World} {xs : List (List Int)} {b : Bool} {e : Ending} (h : RetP w (xs, b) e w') : ∃ A c, ∃ rs : List RowV, rs.map RowV.xs = xs ∧ e = .returned (.tuple #[.slice A rs.length c, .bool b]) ∧ Rws w' w.heap.size w'.heap.size A c rs ∧ Below w.heap.size w w' := by
  rcases h with ⟨he, A, c, rfl, hc, hb⟩ | ⟨T, us, he, hl, rfl, hT, ht, hb⟩
  · simp only [Prod.mk.injEq] at he
    obtain ⟨rfl, rfl⟩ := he
    exact ⟨A, c, [], rfl, rfl, Rws.zero _ _ _ _ _ hc, hb⟩
  · simp only [Prod.mk.injEq] at he
    obtain ⟨rfl, rfl⟩ := he
    exact ⟨some ⟨T, 0, none⟩, 32, us, rfl, by rw [hl], ht.rws.mono hT (Nat.le_refl _), hb⟩
theorem Rws.step {w w' : World} {lo c : Nat} {A : Option Addr} {rs : List RowV} (h : Rws w lo w.heap.size A c rs) (hb : Below w.heap.size w w') : Rws w' lo w'.heap.size A c rs :=
  (h.below hb (Nat.le_refl _)).mono (Nat.le_refl _) hb.size
theorem putR_short {t : List (List Int)} {i : Int} {room : List Int} : ∀ r, r ∈ (putR t i room).1 → r.length ≤ 3 := by
  intro r hr
  rcases putR_cases t i room with h | ⟨k, rs, _, _, _, hl, hv, hroom, h⟩
  · rw [h] at hr; cases hr
  · rw [h] at hr
    exact tabL_short (by simp [hl]) (set_vec hv hroom) r hr
theorem putR_len (t : List (List Int)) (i : Int) (room : List Int) : (putR t i room).1.length ≤ 32 := by
  rcases putR_cases t i room with h | ⟨k, rs, _, _, _, hl, hv, hroom, h⟩
  · rw [h]; simp
  · rw [h, tabL_len]; exact Nat.le_refl _
theorem idxOf_le (rs : List (List Int)) : (idxOf rs).length ≤ 32 := by rcases idxOf_len rs with h | h <;> omega
theorem short_rows {us : List RowV} {xs : List (List Int)} (h : us.map RowV.xs = xs) (hs : ∀ r, r ∈ xs → r.length ≤ 3) : ∀ u, u ∈ us → u.xs.length ≤ 3 :=
  fun u hu => hs u.xs (by rw [← h]; exact List.mem_map.2 ⟨u, hu, rfl⟩)
theorem rows_len {us : List RowV} {xs : List (List Int)} (h : us.map RowV.xs = xs) : us.length = xs.length := by rw [← h, List.length_map]
end Go.Proofs.Ytpjipofkpikipaa
