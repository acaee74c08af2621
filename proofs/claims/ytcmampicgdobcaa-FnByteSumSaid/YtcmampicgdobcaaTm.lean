/- TasksValid, the program's: its map of the tasks that were seen. No condition but on sizes. -/
import Derived.Test.YtcmampicgdobcaaTw
import Derived.Test.YtcmampicgdobcaaVr
import Derived.Test.YtcmampicgdobcaaTk
import Derived.Maps.OwnSet
import Derived.Maps.OwnOps
namespace Go.Proofs.Ytcmampicgdobcaa
open Go.RowKit Go.Maps
/-- how an element of the map reads: its shape alone -/
def taskElem (v : Value) : Option (DataW Unit × List MemPlace) :=
  match v with
  | .agg cs => match cs.toList with
    | [.int .i64 _, .slice _ _ _] => some (.agg [], [])
    | _ => none
  | _ => none
theorem taskElem_mk (i : Int) (a : Option Addr) (n c : Nat) : taskElem (.agg #[.int .i64 i, .slice a n c]) = some (.agg [], []) := rfl
theorem taskElem_inv {v : Value} {z : DataW Unit × List MemPlace} (h : taskElem v = some z) : ∃ i a n c, v = .agg #[.int .i64 i, .slice a n c] := by
  unfold taskElem at h
  split at h
  · rename_i cs
    split at h
    · rename_i i a n c heq
      exact ⟨i, a, n, c, congrArg Value.agg (Array.toList_inj.1 heq)⟩
    · cases h
  · cases h
section
variable {P : Program} (w : World) {ops : Array Oper} {rest : List Oper} {o : Oper} {a : Act} {Q : Exit → Act → World → Prop}
theorem wpList_lookup_task (hg : o.guard = none) (m x : Operand) (t : TypeId) (hop : o.op = Op.lookup t m x true)
    (k e : TypeId) (K : Keyed P k) (ht : P.underlying t = some (.map k e)) (hz : (zeroValue e).run P w = .ok (.agg #[.int .i64 0, .slice none 0 0]) w) (b n : Nat) (D : DataW Unit)
    (hm : a.eval m = .map (some b)) (hown : w.ownsMap P k taskElem b n D) (key : Value) (kl : Lit) (hx : a.eval x = key) (hkey : keyOf P k key = some kl) (q : Bool) (hq : Maps.has D kl = q)
    (hK : ∀ i s l c, wpList P ops Q rest (a.put o.dst (.tuple #[.agg #[.int .i64 i, .slice s l c], .bool q])) w) :
    wpList P ops Q (o :: rest) a w :=
  wpList_lookup_own_ok w hg m x t hop k e K ht taskElem hz (.agg []) [] (taskElem_mk 0 none 0 0) b n D hm hown key kl hx hkey (fun v ps hv => by
    obtain ⟨i, s, l, c, rfl⟩ := taskElem_inv hv
    rw [hq]
    exact hK i s l c)
end
theorem zeroT : ∀ w : World, (zeroValue 62).run Try.prog w = .ok (.agg #[.int .i64 0, .slice none 0 0]) w := fun _ => by kernel_rfl
set_option maxHeartbeats 1000000 in
theorem tasksValid_any (A : Option Addr) (c lo hi : Nat) (ys : List Int) (B : Option Addr) (d lo' hi' : Nat) (ts : List TaskV) (w : World) (hI : Ints w lo hi A c ys) (hl : ys.length ≤ 1048576) (hT : Tasks w lo' hi' B d ts) (hm : ts.length ≤ 1048576)
    (hn : ∀ t, t ∈ ts → t.need.length ≤ 1048576) (hw : ∀ t, t ∈ ts → (Lit.int .i64 t.id).wf = true) (h1 : hi ≤ w.heap.size) (h2 : hi' ≤ w.heap.size) :
    Calls Try.prog 34 #[.slice A ys.length c, .slice B ts.length d] w fun e w' => e = .returned (.bool (tasksB ys (ts.map pv))) ∧ Below w.heap.size w w' := by
  have HI := Lib.hid hI; clear hI
  have HT := Lib.hid hT; clear hT
  have HN := Lib.hid hn; clear hn
  have HW := Lib.hid hw; clear hw
  have hmm := @run_makeMap Try.prog
  cases hr : roomB ys
  · have HR := Lib.hid hr; clear hr
    go_enter Try.func34, Try.ntmps34
    go_wp2_with fail
    refine (roomValid_any A c lo hi ys _ HI.out hl).mono ?_; rintro e w' ⟨rfl, rfl⟩
    rw [HR.out]
    go_wp2_with fail
    go_ret
    exact ⟨by simp [tasksB, HR.out], Below.refl _ _⟩
  have HR := Lib.hid hr; clear hr
  by_cases h14 : 14 < ts.length
  · have h14' : (14 : Int) < ts.length := by omega
    go_enter Try.func34, Try.ntmps34
    go_wp2_with fail
    refine (roomValid_any A c lo hi ys _ HI.out hl).mono ?_; rintro e w' ⟨rfl, rfl⟩
    rw [HR.out]
    go_wp2_with fail
    go_ret
    exact ⟨by simp [tasksB]; omega, Below.refl _ _⟩
  have h14' : ¬ (14 : Int) < ts.length := by omega
  go_enter Try.func34, Try.ntmps34
  go_wp2_with fail
  refine (roomValid_any A c lo hi ys _ HI.out hl).mono ?_; rintro e w' ⟨rfl, rfl⟩
  rw [HR.out]
  go_wp2_with fail
  clear hmm
  go_loopw [21] (fun i wr => ∃ k : Nat, ∃ D : DataW Unit, k ≤ ts.length ∧ i = .int .i64 k ∧ (List.range k).all (taskOk ys (ts.map pv)) = true ∧ wr.ownsMap Try.prog 3 taskElem w.heap.size k D ∧ (∀ id, (Lit.int .i64 id).wf = true → Maps.has D (.int .i64 id) = hasB ((ts.map pv).take k) id) ∧ Below w.heap.size w wr) (fun i _ => ts.length - (intOf i).toNat)
  case atStart => exact ⟨0, .map [], by omega, rfl, by simp, World.ownsMap_made _ _ _ _, fun id _ => by simp [Maps.has, hasB], (Below.refl _ _).alloc (Nat.le_refl _) _⟩
  case round =>
    obtain ⟨k, D, hk, rfl, hall, hown, hhas, hbl⟩ := hrel
    have HL := Lib.hid hall; clear hall
    have HB := Lib.hid hbl; clear hbl
    have HM := Lib.hid hown; clear hown
    have HH := Lib.hid hhas; clear hhas
    have hsz := HB.out.size
    have hMl := HM.out.lt
    by_cases hlt : k < ts.length
    · obtain ⟨b, off, t, rfl, ht, hc1, hc2, _, hbh, hN⟩ := (HT.out.below HB.out h2).at_ hlt
      have hmem := List.mem_of_getElem? ht
      have HNt := Lib.hid (HN.out t hmem)
      have HWt := Lib.hid (HW.out t hmem)
      clear hmem
      have HP : Hid ((ts.map pv)[k]? = some (pv t)) := Lib.hid (by rw [List.getElem?_map, ht]; rfl)
      have hkm : k < (ts.map pv).length := by simpa using hlt
      have HO := Lib.hid (taskOk_eq (room := ys) HP.out)
      have hklt : (k : Int) < ts.length := by omega
      have hbw : b < wr.heap.size := by omega
      obtain ⟨q, hq⟩ : ∃ q, hasB ((ts.map pv).take k) t.id = q := ⟨_, rfl⟩
      have HQ := Lib.hid ((HH.out t.id HWt.out).trans hq)
      have HQ2 := Lib.hid hq; clear hq
      have HK := Lib.hid (keyOf_int_mk Try.underlying3 HWt.out)
      have hb1 : Below w.heap.size w (wr.alloc (.cells #[.int .i64 t.id, .slice t.a t.need.length t.c] 62)) := HB.out.alloc hsz _
      have HII := Lib.hid (HI.out.below hb1 h1)
      have HNN := Lib.hid (hN.below ((Below.refl wr.heap.size wr).alloc (Nat.le_refl _) (.cells #[.int .i64 t.id, .slice t.a t.need.length t.c] 62)) (by omega))
      have HB1 := Lib.hid hb1
      clear hN ht hb1
      have HF : taskOk ys (ts.map pv) k = false → Hid (tasksB ys (ts.map pv) = false) := fun h => Lib.hid (tasksB_false (room := ys) hkm h)
      cases q
      · obtain ⟨v, hv⟩ : ∃ v, inB t.id 1 40 = v := ⟨_, rfl⟩
        have HV := Lib.hid hv; clear hv
        go_wp2_with (first
          | (at_lookup; refine wpList_lookup_task _ rfl _ _ 76 rfl 3 62 (int_keyed Try.underlying3) Try.underlying76 (zeroT _) w.heap.size k D rfl (HM.out.alloc _) _ _ rfl HK.out false HQ.out ?_; intro vi va vn vc))
        have hb2 : Below (wr.heap.size + 1) (wr.alloc (.cells #[.int .i64 t.id, .slice t.a t.need.length t.c] 62)) ((wr.alloc (.cells #[.int .i64 t.id, .slice t.a t.need.length t.c] 62)).alloc (.cells #[.int .i64 vi, .slice va vn vc] 62)) := (Below.refl _ _).alloc (by simp) _
        replace HII := Lib.hid (HII.out.below hb2 (by omega))
        replace HNN := Lib.hid (HNN.out.below hb2 (by omega))
        replace HB1 := Lib.hid (HB1.out.trans (hb2.mono (by omega)))
        clear hb2
        refine (idValid_any _ _).mono ?_; rintro e w' ⟨rfl, rfl⟩
        rw [HV.out]
        cases v
        · replace HF := HF (by rw [HO.out]; simp [pv, HV.out])
          go_wp2_with fail
          go_ret
          exact ⟨by simp [HF.out], HB1.out⟩
        · obtain ⟨u, hu⟩ : ∃ u, vfitsB t.need ys = u := ⟨_, rfl⟩
          have HU := Lib.hid hu; clear hu
          go_wp2_with fail
          refine (vecFits_any t.a A t.c c _ _ _ _ t.need ys _ HNN.out HII.out HNt.out hl).mono ?_; rintro e w' ⟨rfl, rfl⟩
          rw [HU.out]
          cases u
          · replace HF := HF (by rw [HO.out]; simp [pv, HU.out])
            go_wp2_with fail
            go_ret
            exact ⟨by simp [HF.out], HB1.out⟩
          · have HT2 := Lib.hid (rangeAll_succ HL.out (show taskOk ys (ts.map pv) k = true by rw [HO.out]; simp [pv, HV.out, HU.out, HQ2.out]))
            go_wp2_with (at_mapUpdate; refine wpList_mapUpdate_own _ rfl _ _ _ 76 rfl 3 62 (int_keyed Try.underlying3) Try.underlying76 _ w.heap.size k _ rfl ((HM.out.alloc _).alloc _) (by unfold maxLen; omega) _ _ _ rfl rfl HK.out _ [] (taskElem_mk _ _ _ _) ?_; intro w1 hown1 hgrow1)
            refine ⟨⟨k + 1, D.put (.int .i64 t.id) (.agg []), by omega, by go_num, HT2.out, hown1, fun id hid => ?_, (HB1.out.grown hgrow1 (by simp; omega) (fun j hj => by cases hj; exact Nat.le_refl _))⟩, by simp [intOf]; omega⟩
            rw [hasB_take HP.out, ← HH.out id hid]
            by_cases he : id = t.id
            · subst he
              rw [has_put_same HM.out.isMap (by simp [WideAt.IsKeyLit])]
              simp [pv]
            · rw [has_put_other (by simpa using he)]
              have : (t.id == id) = false := by simpa using fun h => he h.symm
              simp [pv, this]
      · replace HF := HF (by rw [HO.out]; simp [pv, HQ2.out])
        go_wp2_with (first
          | (at_lookup; refine wpList_lookup_task _ rfl _ _ 76 rfl 3 62 (int_keyed Try.underlying3) Try.underlying76 (zeroT _) w.heap.size k D rfl (HM.out.alloc _) _ _ rfl HK.out true HQ.out ?_; intro vi va vn vc))
        go_ret
        exact ⟨by simp [HF.out], HB1.out.trans ((Below.refl _ _).alloc (by simp; omega) _)⟩
    · have HT2 : Hid (tasksB ys (ts.map pv) = true) := Lib.hid (by
        have := HL.out
        rw [show k = (ts.map pv).length by simp; omega] at this
        rw [tasksB, HR.out, this]
        simp; omega)
      go_wp2_with fail
      go_ret
      exact ⟨by simp [HT2.out], HB.out⟩
end Go.Proofs.Ytcmampicgdobcaa
