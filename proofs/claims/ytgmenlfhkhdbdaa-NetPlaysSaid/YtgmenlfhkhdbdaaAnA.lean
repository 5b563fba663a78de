/- An agenda's Drop; a nil agenda. -/
import Derived.Test.YtgmenlfhkhdbdaaAn9
namespace Go.Proofs.Ytgmenlfhkhdbdaa.Ag
open Go.RowKit Mem
set_option linter.unusedSimpArgs false
set_option linter.unusedVariables false
set_option maxRecDepth 100000

theorem is_calls (x : It) (id : Int) (b : Nat) (w : World) (hb : w.cell? ⟨b, 0, none⟩ = some (.int .i64 id)) :
    Calls Try.prog 88 #[itV x, .pointer (some ⟨b, 0, none⟩)] w fun e w' => e = .returned (.bool (x.2.1 == id)) ∧ Mod w w' [] := by
  obtain ⟨x1, x2, x3⟩ := x
  have HM := Lib.hid ((Mod.refl w []).alloc (.cells #[.int .i64 x1, .int .i64 x2, .int .i64 x3] 102))
  have hlt := Rw.cell_lt hb
  have hlt : b < w.heap.size := hlt
  show Calls _ _ #[.agg #[.int .i64 x1, .int .i64 x2, .int .i64 x3], _] _ _
  go_enter Try.func88, Try.ntmps88
  go_wp2_with fail
  go_ret
  exact ⟨rfl, HM.out⟩
def idxI (l : List It) (id : Int) : Int := match l.findIdx? (fun s => s.2.1 == id) with | some i => (i : Int) | none => -1
theorem idx_some {l : List It} {id : Int} {i : Nat} (hi : i < l.length) (h : l[i].2.1 = id) (hb : ∀ t (ht : t < l.length), t < i → l[t].2.1 ≠ id) : idxI l id = i := by
  have : l.findIdx? (fun s => s.2.1 == id) = some i := by
    rw [List.findIdx?_eq_some_iff_getElem]
    exact ⟨hi, by simpa using h, fun t ht => by simpa using hb t (by omega) ht⟩
  unfold idxI
  rw [this]
theorem idx_none {l : List It} {id : Int} (hb : ∀ t (ht : t < l.length), l[t].2.1 ≠ id) : idxI l id = -1 := by
  have : l.findIdx? (fun s => s.2.1 == id) = none := by
    rw [List.findIdx?_eq_none_iff]
    intro s hs
    obtain ⟨t, ht, rfl⟩ := List.getElem_of_mem hs
    simpa using hb t ht
  unfold idxI
  rw [this]
set_option maxHeartbeats 2000000 in
theorem idx_calls (base : Nat) (v : Value) (l : List It) (id : Int) (b : Nat) (w : World) (h : ItAt w base v l) (hb : w.cell? ⟨b, 0, none⟩ = some (.int .i64 id)) (hn : l.length ≤ 90000) :
    Calls Try.prog 87 #[v, .func (.func 88) #[] #[.pointer (some ⟨b, 0, none⟩)]] w fun e w' => e = .returned (.int .i64 (idxI l id)) ∧ Mod w w' [] := by
  have HR := Lib.hid h
  obtain ⟨a, c, rfl⟩ := Rw.own_slice h
  have hn' : (l.length : Int) ≤ 90000 := by omega
  have IC := Lib.hid (fun x w hb => is_calls x id b w hb)
  have HB := Lib.hid hb
  clear h hb
  go_enter Try.func87, Try.ntmps87
  go_wp2_with fail
  go_loopw [8] (fun vi wr => ∃ i : Nat, i ≤ l.length ∧ vi = .int .i64 (i : Int) ∧ Mod w wr [] ∧ Hid (∀ t (ht : t < l.length), t < i → l[t].2.1 ≠ id)) (fun vi _ => l.length + 1 - (intOf vi).toNat)
  case atStart => exact ⟨0, Nat.zero_le _, rfl, Mod.refl _ _, Lib.hid (fun t _ h => by omega)⟩
  case round =>
    obtain ⟨i, hi, rfl, hm, HJ⟩ := hrel
    have HM := Lib.hid hm
    clear hm
    by_cases hlt : i < l.length
    · have hlt' : (i : Int) < l.length := by omega
      rcases HR.out.shape with ⟨_, h0⟩ | ⟨g, cap, hv, _, _, _, hgl, _, h4⟩
      · rw [h0] at hlt; simp at hlt
      · obtain ⟨d0, d1, d2⟩ := h4 i hlt
        have e0 := keepC HM.out d0
        have e1 := keepC HM.out d1
        have e2 := keepC HM.out d2
        injection hv with q1 q2 q3
        subst q1 q3
        have HX := Lib.hid (fun h => idx_some (id := id) hlt h HJ.out)
        have HY : Hid (l[i].2.1 ≠ id → ∀ t (ht : t < l.length), t < i + 1 → l[t].2.1 ≠ id) := Lib.hid (fun h t ht hti => by
          by_cases e : t = i
          · subst e; exact h
          · exact HJ.out t ht (by omega))
        have IC1 := Lib.hid (IC.out l[i] wr (keepC HM.out HB.out))
        clear d0 d1 d2 h4 q2 HJ HR IC
        generalize l[i] = x at *
        obtain ⟨x1, x2, x3⟩ := x
        have IC2 : Hid (Calls Try.prog 88 #[.agg #[.int .i64 x1, .int .i64 x2, .int .i64 x3], .pointer (some ⟨b, 0, none⟩)] wr fun e w' => e = .returned (.bool (x2 == id)) ∧ Mod wr w' []) := IC1
        simp only at e0 e1 e2
        by_cases hx : x2 = id
        · have hr := Lib.hid (HX.out hx).symm
          have hxb : (x2 == id) = true := by simpa using hx
          rw [hxb] at IC2
          clear HX HY IC1 hx hxb
          go_wp2_with fail
          (with_reducible refine IC2.out.mono ?_)
          rintro e w1 ⟨rfl, hm1⟩
          have HM1 := Lib.hid (HM.out.trans0 hm1)
          clear hm1
          go_wp2_with fail
          go_ret
          exact ⟨int_ret hr.out, HM1.out⟩
        · have hr := Lib.hid (HY.out hx)
          have hxb : (x2 == id) = false := by simpa using hx
          rw [hxb] at IC2
          clear HX HY IC1 hx hxb
          go_wp2_with fail
          (with_reducible refine IC2.out.mono ?_)
          rintro e w1 ⟨rfl, hm1⟩
          have HM1 := Lib.hid (HM.out.trans0 hm1)
          clear hm1
          go_wp2_with fail
          go_roundw
          case rel => exact ⟨i + 1, by omega, by go_num, HM1.out, hr⟩
          case measure => simp [intOf]; omega
    · have hge : (l.length : Int) ≤ i := by omega
      have hr := Lib.hid (idx_none (id := id) (fun t ht => HJ.out t ht (by omega))).symm
      clear HJ
      go_wp2_with fail
      go_ret
      exact ⟨int_ret hr.out, HM.out⟩

def DropP (w0 : World) (g : Nat) (last : Int) (S : List It) (id : Int) (w : World) (e : Ending) (w' : World) : Prop :=
  e = .returned (.bool (hasI S id)) ∧ AgW w0 w' g last (woI S id) ∧ Keep w w'
set_option maxHeartbeats 2000000 in
theorem drop_calls (w0 w : World) (g : Nat) (last : Int) (S : List It) (id : Int) (h : AgW w0 w g last S) (hn : S.length ≤ 4096) :
    Calls Try.prog 40 #[.pointer (some ⟨g, 0, none⟩), .int .i64 id] w (DropP w0 g last S id w) := by
  have hma := (Mod.refl w []).alloc (.cells #[.int .i64 id] 3)
  have HW := Lib.hid (h.mod hma)
  have HKA := Lib.hid (Keep.mod hma)
  obtain ⟨v, l, h1, h2, h3⟩ := HW.out.at_
  have hl := h3.length_eq
  have HMEM : Hid (hasI S id = true ↔ ∃ s ∈ l, s.2.1 = id) := Lib.hid (by rw [hasI_iff]; exact ⟨fun ⟨s, hs, e⟩ => ⟨s, h3.mem_iff.2 hs, e⟩, fun ⟨s, hs, e⟩ => ⟨s, h3.mem_iff.1 hs, e⟩⟩)
  have hb := (Blk.new w #[.int .i64 id] 3).cell 0
  have IC := Lib.hid (idx_calls (g + 1) v l id w.heap.size _ h1.2 hb (by omega))
  have hn' : (l.length : Int) ≤ 4096 := by omega
  obtain ⟨ho, hg0⟩ : g < w.heap.size ∧ w.cell? ⟨g, 0, none⟩ = some v := by
    obtain ⟨vv, ll, p1, _, _⟩ := h.at_
    have hk := p1.1.alloc (.cells #[.int .i64 id] 3)
    have := hk.symm.trans h1.1
    injection this with this
    injection this with e1 _ _
    have e2 : vv = v := by
      have := congrArg (fun a => a[0]?) e1
      simpa using this
    exact ⟨p1.1.lt, by have := p1.1.cell 0; rw [e2] at this; exact this⟩
  have HP := Lib.hid h1
  have HH := Lib.hid h2
  have HPM := Lib.hid h3
  by_cases hex : ∃ i, ∃ hi : i < l.length, l[i].2.1 = id ∧ ∀ t (ht : t < l.length), t < i → l[t].2.1 ≠ id
  · obtain ⟨i, hi, hx, hbf⟩ := hex
    have hidx := idx_some hi hx hbf
    have hhas : hasI S id = true := HMEM.out.2 ⟨_, List.getElem_mem hi, hx⟩
    rw [hidx] at IC
    have hi0 : (0 : Int) ≤ i := by omega
    have hil : (i : Int) < l.length := by omega
    have RC := Lib.hid (fun w hp => hremove_calls g v last l (l.length - 1) i w hp h2 (by omega) (by omega) (by omega))
    have HF : Hid (∀ w1 w2, Mod (w.alloc (.cells #[.int .i64 id] 3)) w1 [] → HqP g v last l (gt l i) w1 w2 → DropP w0 g last S id w (.returned (.bool true)) w2) := Lib.hid (fun w1 w2 m hq => by
      obtain ⟨h', q1, q2, q3⟩ := hq
      have hp1 := HP.out.mod m (by simp) (by simp)
      have hgi : (gt l i).2.1 = id := by rw [gt_eq hi]; exact hx
      have hpw := wo_perm HW.out.ok (q1.trans h3)
      rw [hgi] at hpw
      obtain ⟨k1, k2⟩ := ag_step (HW.out.md.trans0 m) HW.out.gl hp1 q3 q2 hpw (ok_wo HW.out.ok id)
      refine ⟨by rw [hhas], k1, (HKA.out.trans (Keep.mod m)).trans k2⟩)
    clear h h1 h2 h3 hl hidx hbf hx hma hb HMEM HKA
    obtain ⟨a, c, rfl⟩ := HP.out.slice
    go_enter Try.func40, Try.ntmps40
    go_wp2_with fail
    (with_reducible refine IC.out.mono ?_)
    rintro e w1 ⟨rfl, hm1⟩
    have HM1 := Lib.hid hm1
    have RC1 := Lib.hid (RC.out w1 (HP.out.mod hm1 (by simp) (by simp)))
    clear hm1 IC RC
    go_wp2_with fail
    (with_reducible refine RC1.out.mono ?_)
    rintro e w2 ⟨rfl, hq⟩
    have HFF := Lib.hid (HF.out _ _ HM1.out hq)
    clear hq HF RC1
    go_wp2_with fail
    go_ret
    exact HFF.out
  · have hno : ∀ t (ht : t < l.length), l[t].2.1 ≠ id := by
      intro t
      induction t using Nat.strongRecOn with
      | _ t ih =>
        intro ht he
        exact hex ⟨t, ht, he, fun u hu hut => ih u hut hu⟩
    have hidx := idx_none hno
    have hhas : hasI S id = false := by
      cases hh : hasI S id with
      | false => rfl
      | true =>
        obtain ⟨s, hs, e⟩ := HMEM.out.1 hh
        obtain ⟨t, ht, rfl⟩ := List.getElem_of_mem hs
        exact absurd e (hno t ht)
    rw [hidx] at IC
    have HF : Hid (∀ w1, Mod (w.alloc (.cells #[.int .i64 id] 3)) w1 [] → DropP w0 g last S id w (.returned (.bool false)) w1) := Lib.hid (fun w1 m =>
      ⟨by rw [hhas], by rw [wo_not hhas]; exact HW.out.mod m, HKA.out.trans (Keep.mod m)⟩)
    clear h h1 h2 h3 hl hidx hma hb HMEM HKA hno hex
    obtain ⟨a, c, rfl⟩ := HP.out.slice
    go_enter Try.func40, Try.ntmps40
    go_wp2_with fail
    (with_reducible refine IC.out.mono ?_)
    rintro e w1 ⟨rfl, hm1⟩
    have HFF := Lib.hid (HF.out _ hm1)
    clear hm1 IC HF
    go_wp2_with fail
    go_ret
    exact HFF.out

theorem drop_nil (id : Int) (w : World) : Calls Try.prog 40 #[.pointer none, .int .i64 id] w fun e w' => e = .returned (.bool false) ∧ Mod w w' [] := by
  go_enter Try.func40, Try.ntmps40
  go_wp2_with fail
  go_ret
  exact ⟨rfl, (Mod.refl _ _).alloc _⟩
theorem all_nil (w : World) : Calls Try.prog 93 #[.pointer none] w fun e w' => e = .returned (.slice none 0 0) ∧ w = w' := by
  go_enter Try.func93, Try.ntmps93
  go_wp2_with fail
  go_ret
  exact ⟨rfl, rfl⟩
set_option maxHeartbeats 1000000 in
theorem due_nil (now : Int) (w : World) : Calls Try.prog 37 #[.pointer none, .int .i64 now] w fun e w' => e = .returned (.slice none 0 0) ∧ Mod w w' [] := by
  have FC : Hid (∀ w, Calls Try.prog 80 #[.pointer none] w fun e w' => e = .returned (.tuple #[.agg #[.int .i64 0, .int .i64 0, .int .i64 0], .bool false]) ∧ Mod w w' []) := Lib.hid first_nilp
  go_enter Try.func37, Try.ntmps37
  go_wp2_with fail
  go_loopw [5] (fun vo wr => vo = .slice none 0 0 ∧ Mod w wr []) (fun _ _ => 1)
  case atStart => exact ⟨rfl, Mod.refl _ _⟩
  case round =>
    obtain ⟨rfl, hm⟩ := hrel
    have HM := Lib.hid hm
    clear hm
    go_wp2_with fail
    (with_reducible refine (FC.out _).mono ?_)
    rintro e w1 ⟨rfl, hm1⟩
    have HM1 := Lib.hid ((HM.out.trans0 hm1).alloc (.cells #[.int .i64 0, .int .i64 0, .int .i64 0] 102))
    clear hm1
    go_wp2_with fail
    go_ret
    exact ⟨rfl, HM1.out⟩
end Go.Proofs.Ytgmenlfhkhdbdaa.Ag
