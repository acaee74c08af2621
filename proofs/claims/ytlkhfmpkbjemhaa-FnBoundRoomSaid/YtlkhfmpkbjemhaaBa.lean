/- Tasks that are apart: BoundApart, BoundBest. No condition but on sizes. -/
import Derived.Test.YtlkhfmpkbjemhaaBd
import Derived.Test.YtlkhfmpkbjemhaaDu
namespace Go.Proofs.Ytlkhfmpkbjemhaa
open Go.RowKit
theorem cell_below {B b o : Nat} {w w' : World} {v : Value} (h : Below B w w') (hq : b < B) (hc : w.cell? ⟨b, o, none⟩ = some v) : w'.cell? ⟨b, o, none⟩ = some v := (h.cell (p := ⟨b, o, none⟩) hq).trans hc
theorem apart_step {room : List Int} {ts tk : List TaskV} {k : Nat} {t : TaskV} (h : needs tk = apartL room (needs (ts.take k))) (ht : ts[k]? = some t) :
    apartL room (needs (ts.take (k + 1))) = if (needs tk).all (fun y => clashB room t.need y) then needs (tk ++ [t]) else needs tk := by
  rw [apartL_snoc (needs_snoc ht), ← h, apartF]
  simp [needs]
theorem needs_at {ts : List TaskV} {k : Nat} {t : TaskV} (h : ts[k]? = some t) : (needs ts)[k]? = some t.need := by
  rw [needs, List.getElem?_map, h]; rfl
theorem all_take_snoc' {α : Type} {l : List α} {k : Nat} {y : α} {p : α → Bool} (h : l[k]? = some y) : (l.take (k + 1)).all p = ((l.take k).all p && p y) := by
  rw [take_succ_some h, List.all_append]; simp
theorem all_false_mem {α : Type} {l : List α} {k : Nat} {y : α} {p : α → Bool} (h : l[k]? = some y) (hp : p y = false) : l.all p = false := by
  rw [List.all_eq_false]; exact ⟨y, List.mem_of_getElem? h, by simp [hp]⟩
theorem apartI_yes {room : List Int} {ts : List TaskV} (h : tasksB room (ts.map pv) = true) : apartI room (ts.map pv) = ((apartL room (needs ts)).length : Int) := by rw [apartI, if_pos h, needs_pv]
theorem apartI_no {room : List Int} {ts : List TaskV} (h : tasksB room (ts.map pv) = false) : apartI room (ts.map pv) = -1 := by rw [apartI, if_neg (by simp [h])]
theorem l5Apart_any (A : Option Addr) (c lo hi : Nat) (ys : List Int) (B : Option Addr) (d lo' hi' : Nat) (ts : List TaskV) (w : World) (hI : Ints w lo hi A c ys) (hT : Tasks w lo' hi' B d ts)
    (hr : tasksB ys (ts.map pv) = true) (h1 : hi ≤ w.heap.size) (h2 : hi' ≤ w.heap.size) :
    Calls Try.prog 42 #[.slice A ys.length c, .slice B ts.length d] w fun e w' => e = .returned (.int .i64 ((apartL ys (needs ts)).length : Int)) ∧ Below w.heap.size w w' := by
  have HI := Lib.hid hI; clear hI
  have HT := Lib.hid hT; clear hT
  have HR := Lib.hid hr; clear hr
  have h14 := tasks_len14 HR.out
  have HG := Lib.hid (tasks_good HR.out)
  have HY := Lib.hid (vec_len (room_vec (tasks_room HR.out)).1)
  go_enter Try.func42, Try.ntmps42
  go_wp2_with fail
  obtain ⟨w0, hw0⟩ : ∃ W, W = w.alloc (.cells #[] 31) := ⟨_, rfl⟩
  rw [← hw0]
  have hb : Below w.heap.size w w0 := by rw [hw0]; exact (Below.refl _ _).alloc (Nat.le_refl _) _
  have HW0 : Hid (w0.ownsRow w.heap.size 31 2 (.slice (some ⟨w.heap.size, 0, none⟩) 0 0) 0 []) := Lib.hid (by rw [hw0]; exact ownsRow_empty w _ 2)
  have hs0 := hb.size
  have HB := Lib.hid hb; clear hb hw0
  go_loopw [5, 6] (fun v i wr => ∃ k : Nat, ∃ A' c', ∃ tk : List TaskV, k ≤ ts.length ∧ i = .int .i64 k ∧ v = .slice A' tk.length c' ∧ needs tk = apartL ys (needs (ts.take k)) ∧ (∀ t, t ∈ tk → t ∈ ts) ∧ tk.length ≤ k ∧
      wr.ownsRow w.heap.size 31 2 (.slice A' tk.length c') tk.length (trow tk) ∧ Below w.heap.size w wr) (fun _ i _ => ts.length - (intOf i).toNat)
  case atStart => exact ⟨0, _, 0, [], by omega, rfl, rfl, by simp [needs, apartL], by simp, by simp, HW0.out, HB.out⟩
  case round =>
    obtain ⟨k, A', c', tk, hk, rfl, rfl, hn, hm, htl, hown, hb⟩ := hrel
    obtain ⟨w1, rfl⟩ : ∃ W, W = wr := ⟨_, rfl⟩
    have HN := Lib.hid hn; clear hn
    have HM := Lib.hid hm; clear hm
    have HW := Lib.hid hown; clear hown
    have hsr := hb.size
    replace HB := Lib.hid hb
    clear hb
    replace HI := Lib.hid (HI.out.below HB.out h1)
    replace HT := Lib.hid (HT.out.below HB.out h2)
    by_cases hlt : k < ts.length
    · obtain ⟨t, ht⟩ : ∃ t, ts[k]? = some t := ⟨_, List.getElem?_eq_getElem hlt⟩
      have HTk := Lib.hid ht; clear ht
      have hK : Tasks w1 0 w1.heap.size A' c' tk := by
        obtain ⟨A9, c9, he, hT9⟩ := Tasks.of_own (ownsRow_base HW.out (Nat.zero_le _)) (fun u hu => ((HT.out.2 u (HM.out u hu)).mono (Nat.zero_le _) (by omega)))
        simp only [Value.slice.injEq] at he
        obtain ⟨rfl, -, rfl⟩ := he
        exact hT9
      have HK := Lib.hid hK; clear hK
      go_wp2_with fail
      go_loopw [7, 8] (fun f q wi => ∃ m : Nat, m ≤ tk.length ∧ q = .int .i64 m ∧ f = .bool ((tk.take m).all (fun y => clashB ys t.need y.need)) ∧ Below w1.heap.size w1 wi) (fun _ q _ => tk.length - (intOf q).toNat)
      case atStart => exact ⟨0, by omega, rfl, by simp, Below.refl _ _⟩
      case round =>
        obtain ⟨m, hmk, rfl, rfl, hb⟩ := hrel
        have hsi := hb.size
        obtain ⟨f, hf⟩ : ∃ f, (tk.take m).all (fun y => clashB ys t.need y.need) = f := ⟨_, rfl⟩
        rw [hf]
        have HF := Lib.hid hf; clear hf
        have HL := Lib.hid hb
        replace HI := Lib.hid (HI.out.below hb (by omega))
        replace HT := Lib.hid (HT.out.below hb (by omega))
        replace HK := Lib.hid (HK.out.below hb (by omega))
        replace HW := Lib.hid (ownsRow_below HW.out hb)
        replace HB := Lib.hid (HB.out.trans (hb.mono (by omega)))
        clear hb
        obtain ⟨b1, off1, t', rfl, ht', hc1, hc2, _, hbh1, hN1⟩ := HT.out.at_ hlt
        obtain rfl : t = t' := by have := HTk.out; rw [ht'] at this; exact (Option.some.inj this).symm
        have HN1 := Lib.hid hN1; clear hN1 ht'
        have hkl' : (k : Int) < ts.length := by omega
        have HGt := Lib.hid (HG.out t (List.mem_of_getElem? HTk.out))
        by_cases hmt : m < tk.length
        · obtain ⟨b2, off2, y, rfl, hy, hd1, hd2, _, hbh2, hN2⟩ := HK.out.at_ hmt
          have HGy := Lib.hid (HG.out y (HM.out y (List.mem_of_getElem? hy)))
          have HA := Lib.hid (all_take_snoc' (p := fun y => clashB ys t.need y.need) hy)
          have HN2 := Lib.hid hN2; clear hN2 hy
          have hml' : (m : Int) < tk.length := by omega
          have hsw : w.heap.size ≤ wr.heap.size := by omega
          have hq1 : b1 < wr.drew.heap.size := by show b1 < wr.heap.size; omega
          have hq2 : b2 < wr.drew.heap.size := by show b2 < wr.heap.size; omega
          have H9 := Lib.hid (clashS_any y.id t.id A y.a t.a c y.c t.c _ _ _ _ _ _ ys y.need t.need wr.drew (HI.out.drewN 1) (HN2.out.drewN 1) (HN1.out.drewN 1) HY.out HGy.out HGt.out (Nat.le_trans h1 hsw) (Nat.le_trans hsi (Nat.le_refl _)) (Nat.le_trans h2 hsw))
          cases f
          · go_wp2_with fail
            go_quiet (fail)
            go_wp2_with fail
            exact ⟨⟨m + 1, by omega, by go_num, by rw [HA.out, HF.out]; simp, Below.drewN HL.out _⟩, by simp [intOf]; omega⟩
          · go_wp2_with fail
            go_region_held3 (fun w' => w'.cell? ⟨b1, off1 + k * 2, none⟩ = some (.int .i64 t.id) ∧ w'.cell? ⟨b1, off1 + k * 2 + 1, none⟩ = some (.slice t.a t.need.length t.c) ∧ w'.cell? ⟨b2, off2 + m * 2, none⟩ = some (.int .i64 y.id) ∧ w'.cell? ⟨b2, off2 + m * 2 + 1, none⟩ = some (.slice y.a y.need.length y.c))
              (go_keep)
              (first | (go_at_call 66; refine H9.out.mono ?_; rintro e w5 ⟨rfl, hb5⟩; have g1 : w5.cell? ⟨b1, off1 + k * 2, none⟩ = some (.int .i64 t.id) := cell_below hb5 hq1 hc1; have g2 : w5.cell? ⟨b1, off1 + k * 2 + 1, none⟩ = some (.slice t.a t.need.length t.c) := cell_below hb5 hq1 hc2; have g3 : w5.cell? ⟨b2, off2 + m * 2, none⟩ = some (.int .i64 y.id) := cell_below hb5 hq2 hd1; have g4 : w5.cell? ⟨b2, off2 + m * 2 + 1, none⟩ = some (.slice y.a y.need.length y.c) := cell_below hb5 hq2 hd2; replace HL := Lib.hid ((Below.drewN HL.out 1).trans (hb5.mono hsi)); clear hb5))
            go_wp2_with fail
            exact ⟨⟨m + 1, by omega, by go_num, by rw [HA.out, HF.out, clashB_comm]; simp, HL.out⟩, by simp [intOf]; omega⟩
        · have htt : tk.take m = tk := List.take_of_length_le (by omega)
          have HS := Lib.hid (apart_step HN.out HTk.out)
          have HF2 : Hid ((needs tk).all (fun y => clashB ys t.need y) = f) := Lib.hid (by rw [← HF.out, htt, needs, List.all_map]; rfl)
          clear htt
          have hml' : ¬ ((m : Int) < tk.length) := by omega
          cases f
          · go_wp2_with fail
            refine ⟨⟨k + 1, A', c', tk, by omega, by go_num, rfl, by rw [HS.out, HF2.out]; rfl, HM.out, by omega, HW.out, HB.out⟩, by simp [intOf]; omega⟩
          · go_wp2_with (at_builtin; refine wpList_app1 elT rfl (.tmp 36) (.tmp 41) rfl wr _ HW.out [.int .i64 t.id, .slice t.a t.need.length t.c] rfl rfl ⟨rfl, rfl, rfl, rfl⟩ rfl (trow_one [t]) (by omega) (by simp only [maxLen]; omega) (by omega) ?_; intro gg cap2 w9 hown2 hb2 hg2 _ _; have HW2 := Lib.hid hown2; have HB2 := Lib.hid hb2; clear hown2 hg2 hb2)
            have hel : tk.length + 1 = (tk ++ [t]).length := by simp
            have hown9 := HW2.out
            rw [hel] at hown9
            refine ⟨⟨k + 1, _, cap2, tk ++ [t], by omega, by go_num, by rw [← hel], by rw [HS.out, HF2.out]; rfl, ?_, by rw [← hel]; omega, by rw [trow_app]; exact hown9, HB.out.trans HB2.out⟩, by simp [intOf]; omega⟩
            intro u hu
            rcases List.mem_append.1 hu with h | h
            · exact HM.out u h
            · obtain rfl := List.mem_singleton.1 h
              exact List.mem_of_getElem? HTk.out
    · have hkl : ts.take k = ts := List.take_of_length_le (by omega)
      have HE : Hid ((apartL ys (needs ts)).length = tk.length) := Lib.hid (by rw [← hkl, ← HN.out]; simp [needs])
      clear hkl
      go_wp2_with fail
      go_ret
      exact ⟨by simp [HE.out], HB.out⟩
theorem boundApartS_any (A : Option Addr) (c lo hi : Nat) (ys : List Int) (B : Option Addr) (d lo' hi' : Nat) (ts : List TaskV) (w : World) (hI : Ints w lo hi A c ys) (hl : ys.length ≤ 1048576) (hT : Tasks w lo' hi' B d ts) (hm : ts.length ≤ 1048576)
    (hn : ∀ t, t ∈ ts → t.need.length ≤ 1048576) (h1 : hi ≤ w.heap.size) (h2 : hi' ≤ w.heap.size) :
    Calls Try.prog 16 #[.slice A ys.length c, .slice B ts.length d] w fun e w' => e = .returned (.int .i64 (apartI ys (ts.map pv))) ∧ Below w.heap.size w w' := by
  have HI := Lib.hid hI; clear hI
  have HT := Lib.hid hT; clear hT
  have HN := Lib.hid hn; clear hn
  go_enter Try.func16, Try.ntmps16
  go_wp2_with fail
  refine (tasksValidS_any A c lo hi ys B d lo' hi' ts w HI.out hl HT.out hm HN.out h1 h2).mono ?_; rintro e w1 ⟨rfl, hb⟩
  have hs1 := hb.size
  first | replace HT := Lib.hid (Tasks.only HT.out hb (by omega) (by omega)) | replace HT := Lib.hid (Tasks.below HT.out hb (by omega))
  first | replace HI := Lib.hid (Ints.only HI.out hb (by omega) (by omega)) | replace HI := Lib.hid (Ints.below HI.out hb (by omega))
  have HB := Lib.hid hb; clear hb
  cases hr : tasksB ys (ts.map pv)
  · have HR := Lib.hid hr; clear hr
    go_wp2_with fail
    go_ret
    exact ⟨by simp [apartI_no HR.out], HB.out⟩
  · have HR := Lib.hid hr; clear hr
    go_wp2_with fail
    refine (l5Apart_any A c lo hi ys B d lo' hi' ts w1 HI.out HT.out HR.out (by omega) (by omega)).mono ?_; rintro e w2 ⟨rfl, hb⟩
    first | replace HB := Lib.hid (Below.trans HB.out (Below.mono hb (by omega))) | replace HB := Lib.hid (Below.trans HB.out (Only.below hb (by omega) (by omega)))
    clear hb
    go_wp2_with fail
    go_ret
    exact ⟨by simp [apartI_yes HR.out], HB.out⟩
theorem boundApart_any (A : Option Addr) (c lo hi : Nat) (ys : List Int) (B : Option Addr) (d lo' hi' : Nat) (ts : List TaskV) (w : World) (hI : Ints w lo hi A c ys) (hl : ys.length ≤ 1048576) (hT : Tasks w lo' hi' B d ts) (hm : ts.length ≤ 1048576)
    (hn : ∀ t, t ∈ ts → t.need.length ≤ 1048576) (hw : ∀ t, t ∈ ts → (Lit.int .i64 t.id).wf = true) (h1 : hi ≤ w.heap.size) (h2 : hi' ≤ w.heap.size) :
    Calls Try.prog 15 #[.slice A ys.length c, .slice B ts.length d] w fun e w' => e = .returned (.int .i64 (apartI ys (ts.map pv))) ∧ Below w.heap.size w w' := by
  have HI := Lib.hid hI; clear hI
  have HT := Lib.hid hT; clear hT
  have HN := Lib.hid hn; clear hn
  have HWf := Lib.hid hw; clear hw
  go_enter Try.func15, Try.ntmps15
  go_wp2
  go_step3
  go_wp2_with fail
  refine (tasksValid_any A c lo hi ys B d lo' hi' ts w HI.out hl HT.out hm HN.out HWf.out h1 h2).mono ?_; rintro e w1 ⟨rfl, hb⟩
  have hs1 := hb.size
  first | replace HT := Lib.hid (Tasks.only HT.out hb (by omega) (by omega)) | replace HT := Lib.hid (Tasks.below HT.out hb (by omega))
  first | replace HI := Lib.hid (Ints.only HI.out hb (by omega) (by omega)) | replace HI := Lib.hid (Ints.below HI.out hb (by omega))
  have HB := Lib.hid hb; clear hb
  cases hr : tasksB ys (ts.map pv)
  · have HR := Lib.hid hr; clear hr
    go_wp2_with fail
    try rw [Exit.noGoto_ret]
    go_ret
    exact ⟨by simp [apartI_no HR.out], HB.out⟩
  · have HR := Lib.hid hr; clear hr
    have h14 := tasks_len14 HR.out
    have HG := Lib.hid (tasks_good HR.out)
    have HY := Lib.hid (vec_len (room_vec (tasks_room HR.out)).1)
    go_wp2_with fail
    obtain ⟨w2, hw2⟩ : ∃ W, W = w1.alloc (.cells #[] 31) := ⟨_, rfl⟩
    rw [← hw2]
    have hb : Below w1.heap.size w1 w2 := by rw [hw2]; exact (Below.refl _ _).alloc (Nat.le_refl _) _
    have HW0 : Hid (w2.ownsRow w.heap.size 31 2 (.slice (some ⟨w1.heap.size, 0, none⟩) 0 0) 0 []) := Lib.hid (by rw [hw2]; exact ownsRow_base (ownsRow_empty w1 _ 2) hs1)
    have hs2 := hb.size
    replace HB := Lib.hid (HB.out.trans (hb.mono hs1))
    replace HI := Lib.hid (HI.out.below hb (by omega))
    replace HT := Lib.hid (HT.out.below hb (by omega))
    clear hb hw2
    go_step3
    go_wp2_with fail
    go_loopw [5, 17] (fun v i wr => ∃ k : Nat, ∃ A' c', ∃ tk : List TaskV, k ≤ ts.length ∧ i = .int .i64 k ∧ v = .slice A' tk.length c' ∧ needs tk = apartL ys (needs (ts.take k)) ∧ (∀ t, t ∈ tk → t ∈ ts) ∧ tk.length ≤ k ∧
        wr.ownsRow w.heap.size 31 2 (.slice A' tk.length c') tk.length (trow tk) ∧ Below w.heap.size w wr ∧ Below w.heap.size w2 wr) (fun _ i _ => ts.length - (intOf i).toNat)
    case atStart => exact ⟨0, _, 0, [], by omega, rfl, rfl, by simp [needs, apartL], by simp, by simp, HW0.out, HB.out, Below.refl _ _⟩
    case round =>
      obtain ⟨k, A', c', tk, hk, rfl, rfl, hn, hm, htl, hown, hb, hb2⟩ := hrel
      have HNn := Lib.hid hn; clear hn
      have HM := Lib.hid hm; clear hm
      have HW := Lib.hid hown; clear hown
      have hsr := hb2.size
      replace HB := Lib.hid hb
      replace HI := Lib.hid (HI.out.below hb2 (by omega))
      replace HT := Lib.hid (HT.out.below hb2 (by omega))
      have HB2 := Lib.hid hb2
      clear hb hb2
      by_cases hlt : k < ts.length
      · obtain ⟨b1, off1, t, rfl, ht, hc1, hc2, _, hbh1, hN1⟩ := HT.out.at_ hlt
        have HTk := Lib.hid ht; clear ht
        have HN1 := Lib.hid hN1; clear hN1
        have HGt := Lib.hid (HG.out t (List.mem_of_getElem? HTk.out))
        have hK : Tasks wr 0 wr.heap.size A' c' tk := by
          obtain ⟨A9, c9, he, hT9⟩ := Tasks.of_own (ownsRow_base HW.out (Nat.zero_le _)) (fun u hu => ((HT.out.2 u (HM.out u hu)).mono (Nat.zero_le _) (by omega)))
          simp only [Value.slice.injEq] at he
          obtain ⟨rfl, -, rfl⟩ := he
          exact hT9
        have HK := Lib.hid hK; clear hK
        have hkl' : (k : Int) < ts.length := by omega
        obtain ⟨w5, hw5⟩ : ∃ W, W = wr := ⟨_, rfl⟩
        rw [← hw5] at HI HT HB HB2 HW HN1 HK hc1 hc2 hsr ⊢
        clear hw5
        go_wp2_with fail
        obtain ⟨w6, hw6⟩ : ∃ W, W = w5.alloc (.cells #[.int .i64 t.id, .slice t.a t.need.length t.c] 31) := ⟨_, rfl⟩
        rw [← hw6]
        have hb : Below w5.heap.size w5 w6 := by rw [hw6]; exact (Below.refl _ _).alloc (Nat.le_refl _) _
        have HP : Hid (Blk w6 w5.heap.size 31 [.int .i64 t.id, .slice t.a t.need.length t.c]) := Lib.hid (by rw [hw6]; exact Blk.new w5 _ _)
        obtain ⟨ha6, hb6⟩ := le_le (show w6.heap.size = w5.heap.size + 1 by rw [hw6]; simp)
        replace HI := Lib.hid (HI.out.below hb (by omega))
        replace HT := Lib.hid (HT.out.below hb (by omega))
        replace HN1 := Lib.hid (HN1.out.below hb (by omega))
        replace HK := Lib.hid (HK.out.below hb (by omega))
        replace HW := Lib.hid (ownsRow_below HW.out hb)
        replace HB := Lib.hid (HB.out.trans (hb.mono (by omega)))
        replace HB2 := Lib.hid (HB2.out.trans (hb.mono (by omega)))
        clear hb hw6 hc1 hc2
        go_loopw [23] (fun q wi => ∃ m : Nat, m ≤ tk.length ∧ q = .int .i64 m ∧ (tk.take m).all (fun y => clashB ys t.need y.need) = true ∧ Below w6.heap.size w6 wi) (fun q _ => tk.length - (intOf q).toNat)
        case atStart => exact ⟨0, by omega, rfl, by simp, Below.refl _ _⟩
        case round =>
          obtain ⟨m, hmk, rfl, hf, hb⟩ := hrel
          have HF := Lib.hid hf; clear hf
          have hsi := hb.size
          have HL := Lib.hid hb
          replace HI := Lib.hid (HI.out.below hb (by omega))
          replace HT := Lib.hid (HT.out.below hb (by omega))
          replace HN1 := Lib.hid (HN1.out.below hb (by omega))
          replace HK := Lib.hid (HK.out.below hb (by omega))
          replace HW := Lib.hid (ownsRow_below HW.out hb)
          replace HP := Lib.hid (HP.out.below hb (by omega))
          replace HB := Lib.hid (HB.out.trans (hb.mono (by omega)))
          replace HB2 := Lib.hid (HB2.out.trans (hb.mono (by omega)))
          clear hb
          by_cases hmt : m < tk.length
          · obtain ⟨b2, off2, y, rfl, hy, hd1, hd2, _, hbh2, hN2⟩ := HK.out.at_ hmt
            have HGy := Lib.hid (HG.out y (HM.out y (List.mem_of_getElem? hy)))
            have HA := Lib.hid (all_take_snoc' (p := fun y => clashB ys t.need y.need) hy)
            have HY9 := Lib.hid (fun h => all_false_mem (p := fun y => clashB ys t.need y.need) hy h)
            have HN2 := Lib.hid hN2; clear hN2 hy
            have hml' : (m : Int) < tk.length := by omega
            have hp0 := (HP.out.alloc (.cells #[.int .i64 y.id, .slice y.a y.need.length y.c] 31)).cell (i := 0) rfl
            have hp1 := (HP.out.alloc (.cells #[.int .i64 y.id, .slice y.a y.need.length y.c] 31)).cell (i := 1) rfl
            obtain ⟨u, hu⟩ : ∃ u, clashB ys t.need y.need = u := ⟨_, rfl⟩
            have HU := Lib.hid hu; clear hu
            obtain ⟨w7, hw7⟩ : ∃ W, W = wr.alloc (.cells #[.int .i64 y.id, .slice y.a y.need.length y.c] 31) := ⟨_, rfl⟩
            go_wp2_with fail
            rw [← hw7]
            clear hp0 hp1
            have hb : Below wr.heap.size wr w7 := by rw [hw7]; exact (Below.refl _ _).alloc (Nat.le_refl _) _
            have hs7 := hb.size
            replace HI := Lib.hid (HI.out.below hb (by omega))
            replace HN1 := Lib.hid (HN1.out.below hb (by omega))
            replace HN2 := Lib.hid (HN2.out.below hb (by omega))
            replace HW := Lib.hid (ownsRow_below HW.out hb)
            replace HB := Lib.hid (HB.out.trans (hb.mono (by omega)))
            replace HB2 := Lib.hid (HB2.out.trans (hb.mono (by omega)))
            replace HL := Lib.hid (HL.out.trans (hb.mono (by omega)))
            clear hb hw7
            refine (clash_any t.id y.id A t.a y.a c t.c y.c _ _ _ _ _ _ ys t.need y.need w7 HI.out HN1.out HN2.out HY.out HGt.out HGy.out (by omega) (by omega) (by omega)).mono ?_; rintro e w8 ⟨rfl, hb⟩
            rw [HU.out]
            have hs8 := hb.size
            replace HW := Lib.hid (ownsRow_below HW.out hb)
            replace HB := Lib.hid (HB.out.trans (hb.mono (by omega)))
            replace HB2 := Lib.hid (HB2.out.trans (hb.mono (by omega)))
            replace HL := Lib.hid (HL.out.trans (hb.mono (by omega)))
            clear hb
            cases u
            · have HS := Lib.hid (apart_step HNn.out HTk.out)
              have HF2 : Hid ((needs tk).all (fun y => clashB ys t.need y) = false) := Lib.hid (by have := HY9.out HU.out; rw [needs, List.all_map]; exact this)
              go_wp2_with fail
              refine ⟨⟨k + 1, _, c', tk, by omega, by go_num, rfl, by rw [HS.out, HF2.out]; rfl, HM.out, by omega, HW.out, HB.out, HB2.out⟩, by simp [intOf]; omega⟩
            · go_wp2_with fail
              exact ⟨⟨m + 1, by omega, by go_num, by rw [HA.out, HF.out, HU.out]; rfl, HL.out⟩, by simp [intOf]; omega⟩
          · have htt : tk.take m = tk := List.take_of_length_le (by omega)
            have HS := Lib.hid (apart_step HNn.out HTk.out)
            have HF2 : Hid ((needs tk).all (fun y => clashB ys t.need y) = true) := Lib.hid (by rw [← HF.out, htt, needs, List.all_map]; rfl)
            clear htt
            have hml' : ¬ ((m : Int) < tk.length) := by omega
            have hp0 := HP.out.cell (i := 0) rfl
            have hp1 := HP.out.cell (i := 1) rfl
            go_wp2_with (at_builtin; refine wpList_app1 elT rfl (.tmp 33) (.tmp 35) rfl wr _ HW.out [.int .i64 t.id, .slice t.a t.need.length t.c] rfl rfl ⟨rfl, rfl, rfl, rfl⟩ rfl (trow_one [t]) (by omega) (by simp only [maxLen]; omega) (by omega) ?_; intro gg cap2 w9 hown2 hb2 hg2 _ _; have HW2 := Lib.hid hown2; have HB3 := Lib.hid hb2; clear hown2 hg2 hb2)
            have hel : tk.length + 1 = (tk ++ [t]).length := by simp
            have hown9 := HW2.out
            rw [hel] at hown9
            refine ⟨⟨k + 1, _, cap2, tk ++ [t], by omega, by go_num, by rw [← hel], by rw [HS.out, HF2.out]; rfl, ?_, by rw [← hel]; omega, by rw [trow_app]; exact hown9, HB.out.trans HB3.out, HB2.out.trans HB3.out⟩, by simp [intOf]; omega⟩
            intro u hu
            rcases List.mem_append.1 hu with h | h
            · exact HM.out u h
            · obtain rfl := List.mem_singleton.1 h
              exact List.mem_of_getElem? HTk.out
      · have hkl : ts.take k = ts := List.take_of_length_le (by omega)
        have HE : Hid ((apartL ys (needs ts)).length = tk.length) := Lib.hid (by rw [← hkl, ← HNn.out]; simp [needs])
        clear hkl
        go_wp2_with fail
        try rw [Exit.noGoto_ret]
        go_ret
        exact ⟨by simp [HE.out, apartI_yes HR.out], HB.out⟩
def bestI (room : List Int) (ps : List (Int × List Int)) : Int := max (boundS room ps) (apartI room ps)
theorem bestI_no {room : List Int} {ps : List (Int × List Int)} (h : tasksB room ps = false) : bestI room ps = -1 := by
  rw [bestI, boundS, apartI, if_neg (by simp [h]), if_neg (by simp [h])]; rfl
theorem boundBest_any (A : Option Addr) (c lo hi : Nat) (ys : List Int) (B : Option Addr) (d lo' hi' : Nat) (ts : List TaskV) (w : World) (hI : Ints w lo hi A c ys) (hl : ys.length ≤ 1048576) (hT : Tasks w lo' hi' B d ts) (hm : ts.length ≤ 1048576)
    (hn : ∀ t, t ∈ ts → t.need.length ≤ 1048576) (hw : ∀ t, t ∈ ts → (Lit.int .i64 t.id).wf = true) (h1 : hi ≤ w.heap.size) (h2 : hi' ≤ w.heap.size) :
    Calls Try.prog 36 #[.slice A ys.length c, .slice B ts.length d] w fun e w' => e = .returned (.int .i64 (bestI ys (ts.map pv))) ∧ Below w.heap.size w w' := by
  have HI := Lib.hid hI; clear hI
  have HT := Lib.hid hT; clear hT
  have HN := Lib.hid hn; clear hn
  have HW := Lib.hid hw; clear hw
  go_enter Try.func36, Try.ntmps36
  go_wp2_with fail
  refine (boundSum_any A c lo hi ys B d lo' hi' ts w HI.out hl HT.out hm HN.out HW.out h1 h2).mono ?_; rintro e w1 ⟨rfl, hb⟩
  have hs1 := hb.size
  first | replace HT := Lib.hid (Tasks.only HT.out hb (by omega) (by omega)) | replace HT := Lib.hid (Tasks.below HT.out hb (by omega))
  first | replace HI := Lib.hid (Ints.only HI.out hb (by omega) (by omega)) | replace HI := Lib.hid (Ints.below HI.out hb (by omega))
  have HB := Lib.hid hb; clear hb
  go_wp2_with fail
  refine (boundApart_any A c lo hi ys B d lo' hi' ts w1 HI.out hl HT.out hm HN.out HW.out (by omega) (by omega)).mono ?_; rintro e w2 ⟨rfl, hb⟩
  first | replace HB := Lib.hid (Below.trans HB.out (Below.mono hb (by omega))) | replace HB := Lib.hid (Below.trans HB.out (Only.below hb (by omega) (by omega)))
  clear hb
  go_wp2_with fail
  all_goals
    go_ret
    exact ⟨by simp [bestI] <;> omega, HB.out⟩
theorem boundBestS_any (A : Option Addr) (c lo hi : Nat) (ys : List Int) (B : Option Addr) (d lo' hi' : Nat) (ts : List TaskV) (w : World) (hI : Ints w lo hi A c ys) (hl : ys.length ≤ 1048576) (hT : Tasks w lo' hi' B d ts) (hm : ts.length ≤ 1048576)
    (hn : ∀ t, t ∈ ts → t.need.length ≤ 1048576) (h1 : hi ≤ w.heap.size) (h2 : hi' ≤ w.heap.size) :
    Calls Try.prog 37 #[.slice A ys.length c, .slice B ts.length d] w fun e w' => e = .returned (.int .i64 (bestI ys (ts.map pv))) ∧ Below w.heap.size w w' := by
  have HI := Lib.hid hI; clear hI
  have HT := Lib.hid hT; clear hT
  have HN := Lib.hid hn; clear hn
  go_enter Try.func37, Try.ntmps37
  go_wp2_with fail
  refine (tasksValidS_any A c lo hi ys B d lo' hi' ts w HI.out hl HT.out hm HN.out h1 h2).mono ?_; rintro e w1 ⟨rfl, hb⟩
  have hs1 := hb.size
  first | replace HT := Lib.hid (Tasks.only HT.out hb (by omega) (by omega)) | replace HT := Lib.hid (Tasks.below HT.out hb (by omega))
  first | replace HI := Lib.hid (Ints.only HI.out hb (by omega) (by omega)) | replace HI := Lib.hid (Ints.below HI.out hb (by omega))
  have HB := Lib.hid hb; clear hb
  cases hr : tasksB ys (ts.map pv)
  · have HR := Lib.hid hr; clear hr
    go_wp2_with fail
    go_ret
    exact ⟨by simp [bestI_no HR.out], HB.out⟩
  · have HR := Lib.hid hr; clear hr
    go_wp2_with fail
    refine (l5Sum_any A c lo hi ys B d lo' hi' ts w1 HI.out HT.out HR.out (by omega) (by omega)).mono ?_; rintro e w2 ⟨rfl, hb⟩
    rw [← boundS_yes HR.out]
    have hs2 := hb.size
    first | replace HB := Lib.hid (Below.trans HB.out (Below.mono hb (by omega))) | replace HB := Lib.hid (Below.trans HB.out (Only.below hb (by omega) (by omega)))
    first | replace HT := Lib.hid (Tasks.only HT.out hb (by omega) (by omega)) | replace HT := Lib.hid (Tasks.below HT.out hb (by omega))
    first | replace HI := Lib.hid (Ints.only HI.out hb (by omega) (by omega)) | replace HI := Lib.hid (Ints.below HI.out hb (by omega))
    clear hb
    go_wp2_with fail
    refine (l5Apart_any A c lo hi ys B d lo' hi' ts w2 HI.out HT.out HR.out (by omega) (by omega)).mono ?_; rintro e w3 ⟨rfl, hb⟩
    rw [← apartI_yes HR.out]
    first | replace HB := Lib.hid (Below.trans HB.out (Below.mono hb (by omega))) | replace HB := Lib.hid (Below.trans HB.out (Only.below hb (by omega) (by omega)))
    clear hb
    go_wp2_with fail
    all_goals
      go_ret
      exact ⟨by simp [bestI] <;> omega, HB.out⟩
end Go.Proofs.Ytlkhfmpkbjemhaa
