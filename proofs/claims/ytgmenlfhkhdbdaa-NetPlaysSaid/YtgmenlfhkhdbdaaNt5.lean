/- A net's Lose, Twice, Cut; messages that ask for a vote. -/
import Derived.Test.YtgmenlfhkhdbdaaNt4
import Derived.Test.YtgmenlfhkhdbdaaHe
namespace Go.Proofs.Ytgmenlfhkhdbdaa.Nt
open Go.RowKit Mem Nm Ra
open Ag (It AgW AgT Keep insI woI dueI leftI hasI AddP ItAt)
set_option linter.unusedSimpArgs false
set_option linter.unusedVariables false
set_option maxRecDepth 100000

theorem ids_wo {S : List It} {M : Int → Option Ms} (id : Int) (h : ∀ k, (M k).isSome = true ↔ ∃ s ∈ S, s.2.1 = k) : ∀ k, (delM M id k).isSome = true ↔ ∃ s ∈ woI S id, s.2.1 = k := by
  intro k
  unfold delM woI
  by_cases hk : k = id
  · rw [if_pos hk]
    constructor
    · intro h; cases h
    · rintro ⟨s, hs, e⟩
      rw [List.mem_filter] at hs
      exact absurd (e.trans hk) (by simpa using hs.2)
  · rw [if_neg hk, h k]
    constructor
    · rintro ⟨s, hs, e⟩
      exact ⟨s, List.mem_filter.2 ⟨hs, by rw [e]; simpa using hk⟩, e⟩
    · rintro ⟨s, hs, e⟩
      exact ⟨s, (List.mem_filter.1 hs).1, e⟩
theorem delM_ok {M : Int → Option Ms} {id : Int} (h : ∀ k m, M k = some m → checkB m = true) : ∀ k m, delM M id k = some m → checkB m = true := by
  intro k m hm
  unfold delM at hm
  split at hm
  · cases hm
  · exact h k m hm
theorem delM_same {M : Int → Option Ms} {id : Int} (h : M id = none) : delM M id = M := by
  funext k
  unfold delM
  by_cases hk : k = id
  · rw [if_pos hk, hk, h]
  · rw [if_neg hk]
theorem wo_len (S : List It) (id : Int) : (woI S id).length ≤ S.length := List.length_filter_le _ _
def LoseP (w0 : World) (g ag mb : Nat) (last : Int) (S : List It) (n : Nat) (M : Int → Option Ms) (C : Nat → Nat → Bool) (id : Int) (w : World) (e : Ending) (w' : World) : Prop :=
  e = .returned (.bool (hasI S id)) ∧ NetW w0 w' g ag mb last (woI S id) n (delM M id) C ∧ KpN w w'
set_option maxHeartbeats 4000000 in
theorem lose_calls (w0 w : World) (g ag mb : Nat) (last : Int) (S : List It) (n : Nat) (M : Int → Option Ms) (C : Nat → Nat → Bool) (h : NetW w0 w g ag mb last S n M C) (id : Int) (hid1 : -9223372036854775808 ≤ id) (hid2 : id ≤ 9223372036854775807) :
    Calls Try.prog 17 #[.pointer (some ⟨g, 0, none⟩), .int .i64 id] w (LoseP w0 g ag mb last S n M C id w) := by
  have HN := Lib.hid h
  have DC : Hid (Calls Try.prog 40 #[.pointer (some ⟨ag, 0, none⟩), .int .i64 id] w (fun e w' => e = .returned (.bool (hasI S id)) ∧ AgW w0 w' ag last (woI S id) ∧ Keep w w')) := Lib.hid (Ag.drop_calls w0 w ag last S id h.agw h.sl)
  have c0 : w.cell? ⟨g, 0, none⟩ = some (.pointer (some ⟨ag, 0, none⟩)) := by rw [h.net.cell]; rfl
  have HP : Hid (∀ e w', LoseP w0 g ag mb last S n M C id w e w' ↔ e = .returned (.bool (hasI S id)) ∧ NetW w0 w' g ag mb last (woI S id) n (delM M id) C ∧ KpN w w') := Lib.hid (fun _ _ => Iff.rfl)
  have HNO : Hid (hasI S id = false → woI S id = S ∧ delM M id = M) := Lib.hid (fun hh => ⟨Ag.wo_not hh, delM_same (by
    cases hm : M id with
    | none => rfl
    | some m =>
      obtain ⟨s, hs, e⟩ := (h.ids id).1 (by rw [hm]; rfl)
      rw [Ag.hasI_iff.2 ⟨s, hs, e⟩] at hh
      cases hh)⟩)
  have HIW := Lib.hid (ids_wo (S := S) (M := M) id h.ids)
  generalize LoseP w0 g ag mb last S n M C id w = LP at *
  clear h
  generalize hasI S id = H at *
  generalize hS' : woI S id = S' at *
  have HSL : Hid (S'.length ≤ S.length) := Lib.hid (by rw [← hS']; exact wo_len S id)
  clear hS'
  cases H
  · obtain ⟨hn1, hn2⟩ := HNO.out rfl
    have HN1 := Lib.hid hn1
    have HN2 := Lib.hid hn2
    clear hn1 hn2
    go_enter Try.func17, Try.ntmps17
    go_wp2_with fail
    (with_reducible refine (DC.out).mono ?_)
    rintro e w1 ⟨rfl, ha, hk⟩
    have HF := Lib.hid (HN.out.agSame (by rw [HN1.out] at ha; exact ha) hk)
    clear ha hk
    go_wp2_with fail
    exact (HP.out _ _).2 ⟨rfl, by rw [HN1.out, HN2.out]; exact HF.out.1, HF.out.2⟩
  · go_enter Try.func17, Try.ntmps17
    go_wp2_with fail
    (with_reducible refine (DC.out).mono ?_)
    rintro e w1 ⟨rfl, ha, hk⟩
    have hmp1 : MapS w1 mb n (fun k => (M k).map writeS) := HN.out.mp.same (fun es cl he => hk.map he)
    obtain ⟨w2, hr, hm2, hmod2⟩ := hmp1.drop id hid1 hid2 0
    rw [map_del] at hm2
    have c1 : w1.cell? ⟨g, 1, none⟩ = some (.map (some mb)) := by rw [(hk.blk HN.out.net tN_ag).cell]; rfl
    have HF := Lib.hid (HN.out.put ha hk hm2 hmod2 (Nat.le_trans HSL.out HN.out.sl) (delM_ok HN.out.ok) HIW.out)
    clear ha hk hmp1 hm2 hmod2
    go_wp2_with fail
    exact (HP.out _ _).2 ⟨rfl, HF.out.1, HF.out.2⟩
theorem SendP.start {w0 : World} {g ag mb : Nat} {last : Int} {S : List It} {n : Nat} {M : Int → Option Ms} {C : Nat → Nat → Bool} {now : Int} {m : Ms} {delay : Int} {w w1 : World} {e : Ending} {w' : World} (hk : KpN w w1) (h : SendP w0 g ag mb last S n M C now m delay w1 e w') : SendP w0 g ag mb last S n M C now m delay w e w' := by
  unfold SendP at *
  by_cases c1 : (ixB now && (ixB delay && checkB m)) = true
  · rw [if_pos c1] at h ⊢
    by_cases c2 : C m.frm.toNat m.dst.toNat = true
    · rw [if_pos c2] at h ⊢
      exact ⟨h.1, h.2.1, hk.trans h.2.2⟩
    · rw [if_neg c2] at h ⊢
      by_cases c3 : 4096 ≤ S.length
      · rw [if_pos c3] at h ⊢
        exact ⟨h.1, h.2.1, hk.trans h.2.2⟩
      · rw [if_neg c3] at h ⊢
        exact ⟨h.1, h.2.1, hk.trans h.2.2⟩
  · rw [if_neg c1] at h ⊢
    exact ⟨h.1, h.2.1, hk.trans h.2.2⟩
def TwiceP (w0 : World) (g ag mb : Nat) (last : Int) (S : List It) (n : Nat) (M : Int → Option Ms) (C : Nat → Nat → Bool) (id now delay : Int) (w : World) (e : Ending) (w' : World) : Prop :=
  match M id with
  | none => e = .returned (.tuple #[.int .i64 0, .int .i64 4]) ∧ NetW w0 w' g ag mb last S n M C ∧ KpN w w'
  | some m => SendP w0 g ag mb last S n M C now m delay w e w'
theorem SendP.shape {w0 : World} {g ag mb : Nat} {last : Int} {S : List It} {n : Nat} {M : Int → Option Ms} {C : Nat → Nat → Bool} {now : Int} {m : Ms} {delay : Int} {w : World} {e : Ending} {w' : World} (h : SendP w0 g ag mb last S n M C now m delay w e w') : ∃ a b, e = .returned (.tuple #[.int .i64 a, .int .i64 b]) := by
  unfold SendP at h
  split at h
  · split at h
    · exact ⟨_, _, h.1⟩
    · split at h
      · exact ⟨_, _, h.1⟩
      · exact ⟨_, _, h.1⟩
  · exact ⟨_, _, h.1⟩
set_option maxHeartbeats 16000000 in
theorem twice_calls (w0 w : World) (g ag mb : Nat) (last : Int) (S : List It) (n : Nat) (M : Int → Option Ms) (C : Nat → Nat → Bool) (h : NetW w0 w g ag mb last S n M C) (hl : 0 ≤ last ∧ last ≤ 1000000) (hnn : n ≤ 10000000) (id : Int) (hid1 : -9223372036854775808 ≤ id) (hid2 : id ≤ 9223372036854775807) (now delay : Int) :
    Calls Try.prog 16 #[.pointer (some ⟨g, 0, none⟩), .int .i64 id, .int .i64 now, .int .i64 delay] w (TwiceP w0 g ag mb last S n M C id now delay w) := by
  have HN := Lib.hid h
  have c1 : w.cell? ⟨g, 1, none⟩ = some (.map (some mb)) := by rw [h.net.cell]; rfl
  have hr := h.mp.look_ok id hid1 hid2
  have HP : Hid (∀ e w', TwiceP w0 g ag mb last S n M C id now delay w e w' ↔ (match M id with
  | none => e = .returned (.tuple #[.int .i64 0, .int .i64 4]) ∧ NetW w0 w' g ag mb last S n M C ∧ KpN w w'
  | some m => SendP w0 g ag mb last S n M C now m delay w e w')) := Lib.hid (fun _ _ => Iff.rfl)
  generalize TwiceP w0 g ag mb last S n M C id now delay w = TP at *
  cases hM : M id with
  | none =>
    rw [hM] at hr
    simp only [hM] at HP
    replace hr : (Instr.lookup mT (.map (some mb)) (.int .i64 id) true).run Try.prog w = .ok (.tuple #[.string ⟨#[]⟩, .bool false]) w := hr
    clear h hM
    go_enter Try.func16, Try.ntmps16
    go_wp2_with fail
    exact (HP.out _ _).2 ⟨rfl, HN.out, KpN.mod (Mod.refl _ _)⟩
  | some m =>
    rw [hM] at hr
    simp only [hM] at HP
    have hck := h.ok id m hM
    replace hr : (Instr.lookup mT (.map (some mb)) (.int .i64 id) true).run Try.prog w = .ok (.tuple #[.string (writeS m), .bool true]) w := hr
    have RC : Hid (∀ W, Calls Try.prog 38 #[.string (writeS m)] W fun e w' => ∃ v, e = .returned (.tuple #[msV m v, .int .i64 0]) ∧ Mod W w' [] ∧ w'.ownsRow W.heap.size 77 4 v m.es.length (rowsE m.es)) := Lib.hid (fun W => by
      have h := read_calls (writeS m) W (by have := writeS_size m hck; omega)
      unfold ReadP at h
      rw [readS_write m hck, (read_write m hck).1] at h
      exact h)
    have hes : m.es.length ≤ 16 := (checkB_ok hck).len
    have SC := Lib.hid (fun W (hW : NetW w0 W g ag mb last S n M C) v (hv : EnsV W v m.es) => send_calls w0 W g ag mb last S n M C hW hl hnn now m v delay hv (by omega))
    generalize writeS m = WS at *
    have HSH := Lib.hid (fun W e w' => @SendP.shape w0 g ag mb last S n M C now m delay W e w')
    have HST := Lib.hid (fun W e w' => @SendP.start w0 g ag mb last S n M C now m delay w W e w')
    generalize hSP : SendP w0 g ag mb last S n M C now m delay = SP at *
    clear hSP h hM hck
    obtain ⟨k0, k1, k2, k3, k4, k5, k6, k7, es, k9, k10, k11, k12⟩ := m
    simp only at hes
    replace RC : Hid (∀ W, Calls Try.prog 38 #[.string WS] W fun e w' => ∃ v, e = .returned (.tuple #[.agg #[.int .i64 k0, .int .i64 k1, .int .i64 k2, .int .i64 k3, .int .i64 k4, .int .i64 k5, .int .i64 k6, .bool k7, v, .int .i64 k9, .int .i64 k10, .int .i64 k11, .string k12], .int .i64 0]) ∧ Mod W w' [] ∧ w'.ownsRow W.heap.size 77 4 v es.length (rowsE es)) := RC
    replace SC : Hid (∀ W, NetW w0 W g ag mb last S n M C → ∀ v, EnsV W v es → Calls Try.prog 12 #[.pointer (some ⟨g, 0, none⟩), .int .i64 now, .agg #[.int .i64 k0, .int .i64 k1, .int .i64 k2, .int .i64 k3, .int .i64 k4, .int .i64 k5, .int .i64 k6, .bool k7, v, .int .i64 k9, .int .i64 k10, .int .i64 k11, .string k12], .int .i64 delay] W (SP W)) := SC
    go_enter Try.func16, Try.ntmps16
    go_wp2_with fail
    (with_reducible refine (RC.out _).mono ?_)
    rintro e w1 ⟨v, rfl, hm1, hu⟩
    obtain ⟨ka, kc, rfl⟩ := Rw.own_slice hu
    have HM1 := Lib.hid hm1
    have HU := Lib.hid hu
    clear hm1 hu RC hr c1
    have HMz := Lib.hid (HM1.out.alloc (.cells #[.int .i64 k0, .int .i64 k1, .int .i64 k2, .int .i64 k3, .int .i64 k4, .int .i64 k5, .int .i64 k6, .bool k7, .slice ka es.length kc, .int .i64 k9, .int .i64 k10, .int .i64 k11, .string k12] 33))
    have HUz := Lib.hid (own_mod HU.out ((Mod.refl w1 []).alloc (.cells #[.int .i64 k0, .int .i64 k1, .int .i64 k2, .int .i64 k3, .int .i64 k4, .int .i64 k5, .int .i64 k6, .bool k7, .slice ka es.length kc, .int .i64 k9, .int .i64 k10, .int .i64 k11, .string k12] 33)) (by simp))
    clear HU
    have SC3 := Lib.hid (SC.out _ (HN.out.mod HMz.out) _ (ensV_own HUz.out))
    go_wp2_with fail
    (with_reducible refine (SC3.out).mono ?_)
    rintro e w4 hsp
    obtain ⟨a, b, rfl⟩ := HSH.out _ _ _ hsp
    have HF := Lib.hid ((HP.out _ _).2 (HST.out _ _ _ (KpN.mod HMz.out) hsp))
    clear hsp
    go_wp2_with fail
    exact HF.out
end Go.Proofs.Ytgmenlfhkhdbdaa.Nt
