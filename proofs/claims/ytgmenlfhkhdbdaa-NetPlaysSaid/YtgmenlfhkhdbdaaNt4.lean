/- A net's Due. (Printed by mkNt4.py.) -/
import Derived.Test.YtgmenlfhkhdbdaaNt3
import Derived.Deep.DeepCutAuto
namespace Go.Proofs.Ytgmenlfhkhdbdaa.Nt
open Go.RowKit Mem Nm Ra
open Ag (It AgW AgT Keep insI woI dueI leftI hasI AddP ItAt)
set_option linter.unusedSimpArgs false
set_option linter.unusedVariables false
set_option maxRecDepth 100000

/-- Amid a round: the map, the net's cell and the item's, what was told. -/
structure DX (w2 : World) (base g ag mb xb : Nat) (x0 id x2 : Int) (n : Nat) (M : Int → Option Ms) (C : Nat → Nat → Bool) (vo : Value) (xs : List (Ms × Value)) (W : World) : Prop where
  md : Mod w2 W [mb]
  net : Blk W g (netC ag mb C) tN
  mp : MapS W mb n (fun k => (M k).map writeS)
  xc : Blk W xb #[.int .i64 x0, .int .i64 id, .int .i64 x2] 102
  out : OutW base W vo xs
abbrev SX (g mb xb : Nat) (id : Int) (s : ByteArray) (W : World) : Prop := W.cell? ⟨g, 1, none⟩ = some (.map (some mb)) ∧ W.cell? ⟨xb, 1, none⟩ = some (.int .i64 id) ∧ (Instr.lookup mT (.map (some mb)) (.int .i64 id) false).run Try.prog W = .ok (.string s) W
section
variable {w2 : World} {base g ag mb xb : Nat} {x0 id x2 : Int} {n : Nat} {M : Int → Option Ms} {C : Nat → Nat → Bool} {vo : Value} {xs : List (Ms × Value)} {A B : World}
theorem DX.mod (h : DX w2 base g ag mb xb x0 id x2 n M C vo xs A) (m : Mod A B []) : DX w2 base g ag mb xb x0 id x2 n M C vo xs B :=
  ⟨h.md.trans0 m, h.net.mod m (by simp), h.mp.mod m (by simp), h.xc.mod m (by simp), h.out.kp (KpO.mod m)⟩
theorem DX.S (h : DX w2 base g ag mb xb x0 id x2 n M C vo xs A) {m : Ms} (hm : M id = some m) (h1 : -9223372036854775808 ≤ id) (h2 : id ≤ 9223372036854775807) : SX g mb xb id (writeS m) A := by
  refine ⟨by rw [h.net.cell]; rfl, h.xc.cell 1, ?_⟩
  have := h.mp.look id h1 h2
  simp only [hm] at this
  exact this
end
def DueN (w0 : World) (g ag mb : Nat) (last : Int) (S : List It) (n : Nat) (M : Int → Option Ms) (C : Nat → Nat → Bool) (now : Int) (w : World) (e : Ending) (w' : World) : Prop :=
  ∃ vo xs, e = .returned vo ∧ NetW w0 w' g ag mb last (leftI S now) n (delL M (dueI S now)) C ∧ KpN w w' ∧ OutW w0.heap.size w' vo xs ∧ xs.map Prod.fst = outM C M (dueI S now)
theorem own_low {W : World} {base base' : Nat} {e : TypeId} {size : Nat} {v : Value} {n : Nat} {xs : List Value} (h : W.ownsRow base e size v n xs) (hb : base' ≤ base) : W.ownsRow base' e size v n xs := by
  obtain ⟨o0, o1⟩ := h
  exact ⟨o0, o1.imp id (fun ⟨g, cap, cur, e, hg, r⟩ => ⟨g, cap, cur, e, by omega, r⟩)⟩
theorem OutW.low {base base' : Nat} {W : World} {v : Value} {xs : List (Ms × Value)} (h : OutW base W v xs) (hb : base' ≤ base) : OutW base' W v xs := ⟨own_low h.own hb, fun x hx => own_low (h.ens x hx) hb⟩
theorem delL_at {M : Int → Option Ms} {D : List It} (hd : D.Pairwise (fun a b => a.2.1 ≠ b.2.1)) (i : Nat) (hi : i < D.length) : delL M (D.take i) D[i].2.1 = M D[i].2.1 := by
  unfold delL
  rw [if_neg]
  rw [List.any_eq_true]
  rintro ⟨s, hs, e⟩
  obtain ⟨j, hj, rfl⟩ := List.getElem_of_mem hs
  rw [List.getElem_take] at e
  rw [List.length_take] at hj
  have := List.pairwise_iff_getElem.1 hd j i (by omega) hi (by omega)
  exact this (by simpa using e)
theorem left_ids {S : List It} {last now : Int} {M : Int → Option Ms} (hs : Ag.Ok S last) (h : ∀ k, (M k).isSome = true ↔ ∃ s ∈ S, s.2.1 = k) : ∀ k, (delL M (dueI S now) k).isSome = true ↔ ∃ s ∈ leftI S now, s.2.1 = k := by
  intro k
  have hS : dueI S now ++ leftI S now = S := List.takeWhile_append_dropWhile
  have hp := hs.ids
  rw [← hS, List.pairwise_append] at hp
  unfold delL
  by_cases hk : ((dueI S now).any (fun s => s.2.1 == k)) = true
  · rw [if_pos hk]
    constructor
    · intro h; cases h
    · rintro ⟨s, hs, e⟩
      obtain ⟨t, ht, e'⟩ := List.any_eq_true.1 hk
      have e' : t.2.1 = k := by simpa using e'
      exact absurd (e'.trans e.symm) (hp.2.2 t ht s hs)
  · rw [if_neg hk, h k]
    constructor
    · rintro ⟨s, hs, e⟩
      rw [← hS, List.mem_append] at hs
      rcases hs with hs | hs
      · exact absurd (List.any_eq_true.2 ⟨s, hs, by simpa using e⟩) hk
      · exact ⟨s, hs, e⟩
    · rintro ⟨s, hs, e⟩
      exact ⟨s, by rw [← hS]; exact List.mem_append_right _ hs, e⟩
theorem delL_ok {M : Int → Option Ms} {l : List It} (h : ∀ k m, M k = some m → checkB m = true) : ∀ k m, delL M l k = some m → checkB m = true := by
  intro k m hm
  unfold delL at hm
  split at hm
  · cases hm
  · exact h k m hm
theorem due_mem {S : List It} {now : Int} {s : It} (h : s ∈ dueI S now) : s ∈ S := (List.takeWhile_sublist _).subset h
theorem left_len (S : List It) (now : Int) : (leftI S now).length ≤ S.length := (List.dropWhile_sublist _).length_le
set_option maxHeartbeats 16000000 in
theorem due_calls (w0 w : World) (g ag mb : Nat) (last : Int) (S : List It) (n : Nat) (M : Int → Option Ms) (C : Nat → Nat → Bool) (h : NetW w0 w g ag mb last S n M C) (hl : 0 ≤ last ∧ last ≤ 1000000) (now : Int) :
    Calls Try.prog 14 #[.pointer (some ⟨g, 0, none⟩), .int .i64 now] w (DueN w0 g ag mb last S n M C now w) := by
  have HN := Lib.hid h
  have DC : Hid (Calls Try.prog 37 #[.pointer (some ⟨ag, 0, none⟩), .int .i64 now] w (fun e w' => ∃ v', e = .returned v' ∧ AgW w0 w' ag last (leftI S now) ∧ ItAt w' w.heap.size v' (dueI S now) ∧ Keep w w')) := Lib.hid (Ag.due_calls w0 w ag last S now h.agw h.sl)
  have c0 : w.cell? ⟨g, 0, none⟩ = some (.pointer (some ⟨ag, 0, none⟩)) := by rw [h.net.cell]; rfl
  have HDM : Hid (∀ s ∈ dueI S now, (1 ≤ s.2.1 ∧ s.2.1 ≤ last) ∧ ∃ m, M s.2.1 = some m ∧ checkB m = true) := Lib.hid (fun s hs => by
    have hs := due_mem hs
    refine ⟨h.agw.ok.rg s hs, ?_⟩
    obtain ⟨m, hm⟩ := Option.isSome_iff_exists.1 ((h.ids s.2.1).2 ⟨s, hs, rfl⟩)
    exact ⟨m, hm, h.ok _ m hm⟩)
  have HDP : Hid ((dueI S now).Pairwise (fun a b => a.2.1 ≠ b.2.1)) := Lib.hid (h.agw.ok.ids.sublist (List.takeWhile_sublist _))
  have hdl : (dueI S now).length ≤ 4096 := Nat.le_trans (List.takeWhile_sublist _).length_le h.sl
  have HFIN : Hid (∀ (w2 W : World) (vo : Value) (xs : List (Ms × Value)), AgW w0 w2 ag last (leftI S now) → Keep w w2 → Mod w2 W [mb] → MapS W mb n (fun k => (delL M (dueI S now) k).map writeS) → OutW w2.heap.size W vo xs → xs.map Prod.fst = outM C M (dueI S now) → DueN w0 g ag mb last S n M C now w (.returned vo) W) := Lib.hid (fun w2 W vo xs ha hk m hm ho hx => by
    obtain ⟨h1, h2⟩ := HN.out.put ha hk hm m (Nat.le_trans (left_len S now) HN.out.sl) (delL_ok HN.out.ok) (left_ids HN.out.agw.ok HN.out.ids)
    exact ⟨vo, xs, rfl, h1, h2, ho.low ha.md.size, hx⟩)
  have HMP := Lib.hid h.mp
  have HNT := Lib.hid h.net
  clear h
  generalize dueI S now = D at *
  obtain ⟨i0, hi0, hz0, hz1, hz2⟩ := info_parts info_ms
  have A7 := alen7b
  have E7 := ael7b
  have A77 := alen77
  have E77 := ael77
  go_enter Try.func14, Try.ntmps14
  go_wp2_with fail
  (with_reducible refine (DC.out).mono ?_)
  rintro e w2 ⟨dv, rfl, hag, hit, hkp⟩
  have HAG := Lib.hid hag
  have HKP := Lib.hid hkp
  have HNT2 := Lib.hid (hkp.blk HNT.out tN_ag)
  have HMP2 := Lib.hid (HMP.out.same (fun es cl he => hkp.map he))
  have HIT := Lib.hid hit
  obtain ⟨da, dc, rfl⟩ : ∃ a c, dv = .slice a D.length c := by
    rcases hit.shape with ⟨h1, h2⟩ | ⟨q, cap, h1, _⟩
    · exact ⟨none, 0, by rw [h1, h2]; rfl⟩
    · exact ⟨_, _, h1⟩
  clear hag hkp hit DC c0 HNT HMP
  have hdl' : (D.length : Int) ≤ 4096 := by omega
  go_wp2_with fail
  go_loopw [5, 19] (fun vo vi wr => ∃ (i : Nat) (xs : List (Ms × Value)), vi = .int .i64 (i : Int) ∧ i ≤ D.length ∧ Mod w2 wr [mb] ∧ MapS wr mb n (fun k => (delL M (D.take i) k).map writeS) ∧ OutW w2.heap.size wr vo xs ∧ xs.map Prod.fst = outM C M (D.take i)) (fun _ vi _ => D.length + 1 - (intOf vi).toNat)
  case atStart => exact ⟨0, [], rfl, Nat.zero_le _, Mod.refl _ _, by rw [List.take_zero, delL_nil]; exact HMP2.out, OutW.nil _ _, rfl⟩
  case round =>
    obtain ⟨i, xs, rfl, hi, hm, hmp, hou, hxs⟩ := hrel
    have HM := Lib.hid hm
    have HMPr := Lib.hid hmp
    have HOU := Lib.hid hou
    have HXS := Lib.hid hxs
    have HNTr := Lib.hid (HNT2.out.mod hm (by rw [List.mem_singleton]; exact (HMP2.out.notBlk HNT2.out).symm))
    clear hm hmp hou hxs
    by_cases hlt : i < D.length
    · have hlt' : (i : Int) < D.length := by omega
      have HITr : Hid (ItAt wr w.heap.size (.slice da D.length dc) D) := Lib.hid (HIT.out.mod HM.out (fun k hk => by
        obtain ⟨cur, hc⟩ := Ag.own_blk HIT.out k hk
        rw [List.mem_singleton]
        exact (HMP2.out.notBlk hc).symm))
      obtain ⟨ib, icap, hv, hge, _, _, hilt, _, hcs⟩ : ∃ q cap, Value.slice da D.length dc = .slice (some ⟨q, 0, none⟩) D.length cap ∧ w.heap.size ≤ q ∧ D.length ≤ cap ∧ cap ≤ maxLen ∧ q < w2.heap.size ∧ (∀ k, wr.frozen? ⟨q, k, none⟩ = false) ∧ ∀ i (hi : i < D.length), wr.cell? ⟨q, i * 3, none⟩ = some (.int .i64 D[i].1) ∧ wr.cell? ⟨q, i * 3 + 1, none⟩ = some (.int .i64 D[i].2.1) ∧ wr.cell? ⟨q, i * 3 + 2, none⟩ = some (.int .i64 D[i].2.2) := by
        rcases HITr.out.shape with ⟨_, h0⟩ | ⟨q, cap, a1, a2, a3, a4, a5, a6, a7⟩
        · rw [h0] at hlt; simp at hlt
        · rcases HIT.out.shape with ⟨_, h0⟩ | ⟨q', cap', b1, b2, b3, b4, b5, _⟩
          · rw [h0] at hlt; simp at hlt
          · rw [b1] at a1
            injection a1 with e1 e2 e3
            injection e1 with e1
            injection e1 with e1
            subst e1
            exact ⟨q', cap, by rw [b1, e3], a2, a3, a4, b5, a6, a7⟩
      injection hv with hv1 hv2 hv3
      subst hv1 hv3
      clear hv2
      obtain ⟨e0, e1, e2⟩ := hcs i hlt
      obtain ⟨⟨hid1', hid2'⟩, m, hMm, hck⟩ := HDM.out _ (List.getElem_mem hlt)
      have HMI : Hid (delL M (D.take i) (D[i]'hlt).2.1 = some m) := Lib.hid (by rw [delL_at HDP.out i hlt]; exact hMm)
      have HTK : Hid (D.take (i + 1) = D.take i ++ [D[i]'hlt]) := Lib.hid (by rw [List.take_add_one, List.getElem?_eq_getElem hlt]; rfl)
      have HDS : Hid (delL M (D.take (i + 1)) = delM (delL M (D.take i)) (D[i]'hlt).2.1) := Lib.hid (by rw [HTK.out]; exact delL_snoc _ _ _)
      have HOS : Hid (outM C M (D.take (i + 1)) = if C m.frm.toNat m.dst.toNat = true then outM C M (D.take i) else outM C M (D.take i) ++ [m]) := Lib.hid (by rw [HTK.out]; exact outM_snoc C M _ _ m hMm)
      clear hcs hMm HTK HITr
      generalize D[i]'hlt = x at *
      obtain ⟨x0, id, x2⟩ := x
      simp only at e0 e1 e2 HMI HDS hid1' hid2'
      have hid1 : -9223372036854775808 ≤ id := by omega
      have hid2 : id ≤ 9223372036854775807 := by omega
      generalize hMi : delL M (D.take i) = Mi at *
      have hok := checkB_ok hck
      have hes : m.es.length ≤ 16 := hok.len
      have RC : Hid (∀ W, Calls Try.prog 38 #[.string (writeS m)] W fun e w' => ∃ v, e = .returned (.tuple #[msV m v, .int .i64 0]) ∧ Mod W w' [] ∧ w'.ownsRow W.heap.size 77 4 v m.es.length (rowsE m.es)) := Lib.hid (fun W => by
        have h := read_calls (writeS m) W (by have := writeS_size m hck; omega)
        unfold ReadP at h
        rw [readS_write m hck, (read_write m hck).1] at h
        exact h)
      obtain ⟨f, hf⟩ : ∃ f : Nat, m.frm = f := ⟨m.frm.toNat, by have := hok.frm; omega⟩
      obtain ⟨d, hd⟩ : ∃ d : Nat, m.dst = d := ⟨m.dst.toNat, by have := hok.dst; omega⟩
      have hf7 : f < 7 := by have := hok.frm; omega
      have hd7 : d < 7 := by have := hok.dst; omega
      have hf7' : (f : Int) < 7 := by omega
      have hd7' : (d : Int) < 7 := by omega
      have hf0 : (0 : Int) ≤ f := by omega
      have hd0 : (0 : Int) ≤ d := by omega
      clear hok hck
      obtain ⟨k0, k1, k2, k3, k4, k5, k6, k7, es, k9, k10, k11, k12⟩ := m
      simp only at hf hd hes HOS
      subst hf hd
      replace RC : Hid (∀ W, Calls Try.prog 38 #[.string (writeS ⟨k0, (f : Int), (d : Int), k3, k4, k5, k6, k7, es, k9, k10, k11, k12⟩)] W fun e w' => ∃ v, e = .returned (.tuple #[.agg #[.int .i64 k0, .int .i64 (f : Int), .int .i64 (d : Int), .int .i64 k3, .int .i64 k4, .int .i64 k5, .int .i64 k6, .bool k7, v, .int .i64 k9, .int .i64 k10, .int .i64 k11, .string k12], .int .i64 0]) ∧ Mod W w' [] ∧ w'.ownsRow W.heap.size 77 4 v es.length (rowsE es)) := RC
      have HX : Hid (DX w2 w2.heap.size g ag mb wr.heap.size x0 id x2 n Mi C u5 xs (wr.alloc (.cells #[.int .i64 x0, .int .i64 id, .int .i64 x2] 102))) := Lib.hid
        ⟨HM.out.alloc _, HNTr.out.alloc _, HMPr.out.mod ((Mod.refl _ []).alloc _) (by simp), Blk.new _ _ _, HOU.out.kp (KpO.mod ((Mod.refl _ []).alloc _))⟩
      have hwz2 : w.heap.size ≤ w2.heap.size := by omega
      clear HNTr HMPr HOU HM
      go_upto_region 7 with (fail)
      generalize hxb : wr.heap.size = xb at *
      generalize hwa : wr.alloc _ = wa at *
      clear hxb hwa e0 e1 e2
      go_cut [8] (fun s8 wx => ∃ q ka kc, s8 = .pointer (some ⟨q, 0, none⟩) ∧ DX w2 w2.heap.size g ag mb xb x0 id x2 n Mi C u5 xs wx ∧ Blk wx q #[.int .i64 k0, .int .i64 (f : Int), .int .i64 (d : Int), .int .i64 k3, .int .i64 k4, .int .i64 k5, .int .i64 k6, .bool k7, .slice ka es.length kc, .int .i64 k9, .int .i64 k10, .int .i64 k11, .string k12] 33 ∧ wx.ownsRow w2.heap.size 77 4 (.slice ka es.length kc) es.length (rowsE es))
      case first =>
        have HLK := Lib.hid HMI.out
        refine He.wp_region_e 13 (fun w' => (w'.cell? ⟨g, 1, none⟩ = some (.map (some mb)) ∧ w'.cell? ⟨xb, 1, none⟩ = some (.int .i64 id) ∧ (Instr.lookup mT (.map (some mb)) (.int .i64 id) false).run Try.prog w' = .ok (.string (writeS ⟨k0, (f : Int), (d : Int), k3, k4, k5, k6, k7, es, k9, k10, k11, k12⟩)) w')) (by kernel_rfl) ((HX.out.mod ((Mod.refl wa []).drew)).S HMI.out hid1 hid2) (fun S0 => ?_)
        have HXd := Lib.hid (HX.out.mod ((Mod.refl wa []).drew))
        clear HX
        generalize wa.drew = wd at *
        have hzd : w2.heap.size ≤ wd.heap.size := HXd.out.md.size
        refine He.wpE_take (i := 0) (v := ?_) rfl (by kernel_rfl) (by kernel_rfl) (by kernel_rfl) (by kernel_rfl) (by kernel_rfl) (fun _ _ _ h => h) (by rfl) ?_ (by assumption) ?_
        rotate_left
        · (intro w' hSw; (try dsimp only at hSw); go_simp; first | done | with_reducible rfl)
        try simp only [List.getElem_toArray, List.getElem_cons_succ, List.getElem_cons_zero, Act.put, List.setIfInBounds_toArray, List.set_cons_zero, List.set_cons_succ]
        refine He.wpE_take (i := 1) (v := ?_) rfl (by kernel_rfl) (by kernel_rfl) (by kernel_rfl) (by kernel_rfl) (by kernel_rfl) (fun _ _ _ h => h) (by rfl) ?_ (by assumption) ?_
        rotate_left
        · (intro w' hSw; (try dsimp only at hSw); go_simp; first | done | with_reducible rfl)
        try simp only [List.getElem_toArray, List.getElem_cons_succ, List.getElem_cons_zero, Act.put, List.setIfInBounds_toArray, List.set_cons_zero, List.set_cons_succ]
        refine He.wpE_take (i := 2) (v := ?_) rfl (by kernel_rfl) (by kernel_rfl) (by kernel_rfl) (by kernel_rfl) (by kernel_rfl) (fun _ _ _ h => h) (by rfl) ?_ (by assumption) ?_
        rotate_left
        · (intro w' hSw; (try dsimp only at hSw); go_simp; first | done | with_reducible rfl)
        try simp only [List.getElem_toArray, List.getElem_cons_succ, List.getElem_cons_zero, Act.put, List.setIfInBounds_toArray, List.set_cons_zero, List.set_cons_succ]
        refine He.wpE_take (i := 3) (v := ?_) rfl (by kernel_rfl) (by kernel_rfl) (by kernel_rfl) (by kernel_rfl) (by kernel_rfl) (fun _ _ _ h => h) (by rfl) ?_ (by assumption) ?_
        rotate_left
        · (intro w' hSw; (try dsimp only at hSw); go_simp; first | done | with_reducible rfl)
        try simp only [List.getElem_toArray, List.getElem_cons_succ, List.getElem_cons_zero, Act.put, List.setIfInBounds_toArray, List.set_cons_zero, List.set_cons_succ]
        refine He.wpE_take (i := 4) (v := ?_) rfl (by kernel_rfl) (by kernel_rfl) (by kernel_rfl) (by kernel_rfl) (by kernel_rfl) (fun _ _ _ h => h) (by rfl) ?_ (by assumption) ?_
        rotate_left
        · (intro w' hSw; (try dsimp only at hSw); go_simp; first | done | with_reducible rfl)
        try simp only [List.getElem_toArray, List.getElem_cons_succ, List.getElem_cons_zero, Act.put, List.setIfInBounds_toArray, List.set_cons_zero, List.set_cons_succ]
        refine He.wpE_take (i := 5) (v := ?_) rfl (by kernel_rfl) (by kernel_rfl) (by kernel_rfl) (by kernel_rfl) (by kernel_rfl) (fun _ _ _ h => h) (by rfl) ?_ (by assumption) ?_
        rotate_left
        · (intro w' hSw; (try dsimp only at hSw); go_simp; first | done | with_reducible rfl)
        try simp only [List.getElem_toArray, List.getElem_cons_succ, List.getElem_cons_zero, Act.put, List.setIfInBounds_toArray, List.set_cons_zero, List.set_cons_succ]
        refine He.wpE_take (i := 6) (v := ?_) rfl (by kernel_rfl) (by kernel_rfl) (by kernel_rfl) (by kernel_rfl) (by kernel_rfl) (fun _ _ _ h => h) (by rfl) ?_ (by assumption) ?_
        rotate_left
        · (intro w' hSw; (try dsimp only at hSw); go_simp; first | done | with_reducible rfl)
        try simp only [List.getElem_toArray, List.getElem_cons_succ, List.getElem_cons_zero, Act.put, List.setIfInBounds_toArray, List.set_cons_zero, List.set_cons_succ]
        refine He.wpE_two (i := 7) (j := 11) (by kernel_rfl) rfl rfl (by rfl) (by rfl) (fun K hK => ?_) (fun K hK => ?_)
        · go_simp
          (with_reducible refine (RC.out _).mono ?_)
          rintro e wf ⟨v, rfl, hmf, hu⟩
          obtain ⟨ka, kc, rfl⟩ := Rw.own_slice hu
          have HU := Lib.hid (own_low hu hzd)
          have HXb := Lib.hid (HXd.out.mod hmf)
          have SF : (wf.cell? ⟨g, 1, none⟩ = some (.map (some mb)) ∧ wf.cell? ⟨xb, 1, none⟩ = some (.int .i64 id) ∧ (Instr.lookup mT (.map (some mb)) (.int .i64 id) false).run Try.prog wf = .ok (.string (writeS ⟨k0, (f : Int), (d : Int), k3, k4, k5, k6, k7, es, k9, k10, k11, k12⟩)) wf) := HXb.out.S HMI.out hid1 hid2
          refine hK.out _ _ (fun _ => SF) ?_
          clear hK K hmf hu S0 HXd
          try simp only [Act.put, List.setIfInBounds_toArray, List.set_cons_zero, List.set_cons_succ]
          refine He.wpE_take (i := 8) (v := ?_) rfl (by kernel_rfl) (by kernel_rfl) (by kernel_rfl) (by kernel_rfl) (by kernel_rfl) (fun _ _ _ h => h) (by rfl) ?_ (by assumption) ?_
          rotate_left
          · (intro w' hSw; (try dsimp only at hSw); go_simp; first | done | with_reducible rfl)
          try simp only [List.getElem_toArray, List.getElem_cons_succ, List.getElem_cons_zero, Act.put, List.setIfInBounds_toArray, List.set_cons_zero, List.set_cons_succ]
          refine He.wpE_take (i := 9) (v := ?_) rfl (by kernel_rfl) (by kernel_rfl) (by kernel_rfl) (by kernel_rfl) (by kernel_rfl) (fun _ _ _ h => h) (by rfl) ?_ (by assumption) ?_
          rotate_left
          · (intro w' hSw; (try dsimp only at hSw); go_simp; first | done | with_reducible rfl)
          try simp only [List.getElem_toArray, List.getElem_cons_succ, List.getElem_cons_zero, Act.put, List.setIfInBounds_toArray, List.set_cons_zero, List.set_cons_succ]
          refine He.wpE_take (i := 10) (v := ?_) rfl (by kernel_rfl) (by kernel_rfl) (by kernel_rfl) (by kernel_rfl) (by kernel_rfl) (fun _ _ _ h => h) (by rfl) ?_ (by assumption) ?_
          rotate_left
          · (intro w' hSw; (try dsimp only at hSw); go_simp; first | done | with_reducible rfl)
          try simp only [List.getElem_toArray, List.getElem_cons_succ, List.getElem_cons_zero, Act.put, List.setIfInBounds_toArray, List.set_cons_zero, List.set_cons_succ]
          refine He.wpE_one (i := 11) (by kernel_rfl) rfl (by rfl) (fun K hK => ?_)
          go_simp
          have HZ := Lib.hid (Blk.new wf zc 33)
          have HMz := Lib.hid ((Mod.refl wf []).alloc (.cells zc 33))
          have HXz := Lib.hid (HXb.out.mod HMz.out)
          have HUz := Lib.hid (own_mod HU.out HMz.out (by simp))
          obtain ⟨q, hq⟩ : ∃ q, wf.heap.size = q := ⟨_, rfl⟩
          rw [hq] at HZ ⊢
          have hqf : wf.heap.size ≤ q := by omega
          generalize wf.alloc _ = wz at *
          refine hK.out _ _ (fun _ => HXz.out.S HMI.out hid1 hid2) ?_
          clear hK K SF
          try simp only [Act.put, List.setIfInBounds_toArray, List.set_cons_zero, List.set_cons_succ]
          refine He.wpE_one (i := 12) (by kernel_rfl) rfl (by rfl) (fun K hK => ?_)
          have z0 := HZ.out.cell 0
          have fz0 := HZ.out.free 0
          have z1 := HZ.out.cell 1
          have fz1 := HZ.out.free 1
          have z2 := HZ.out.cell 2
          have fz2 := HZ.out.free 2
          have z3 := HZ.out.cell 3
          have fz3 := HZ.out.free 3
          have z4 := HZ.out.cell 4
          have fz4 := HZ.out.free 4
          have z5 := HZ.out.cell 5
          have fz5 := HZ.out.free 5
          have z6 := HZ.out.cell 6
          have fz6 := HZ.out.free 6
          have z7 := HZ.out.cell 7
          have fz7 := HZ.out.free 7
          have z8 := HZ.out.cell 8
          have fz8 := HZ.out.free 8
          have z9 := HZ.out.cell 9
          have fz9 := HZ.out.free 9
          have z10 := HZ.out.cell 10
          have fz10 := HZ.out.free 10
          have z11 := HZ.out.cell 11
          have fz11 := HZ.out.free 11
          have z12 := HZ.out.cell 12
          have fz12 := HZ.out.free 12
          go_simp
          have HZ2 := Lib.hid (put13 HZ.out (.int .i64 k0) (.int .i64 (f : Int)) (.int .i64 (d : Int)) (.int .i64 k3) (.int .i64 k4) (.int .i64 k5) (.int .i64 k6) (.bool k7) (.slice ka es.length kc) (.int .i64 k9) (.int .i64 k10) (.int .i64 k11) (.string k12))
          have hmz := mod13 wz q (.int .i64 k0) (.int .i64 (f : Int)) (.int .i64 (d : Int)) (.int .i64 k3) (.int .i64 k4) (.int .i64 k5) (.int .i64 k6) (.bool k7) (.slice ka es.length kc) (.int .i64 k9) (.int .i64 k10) (.int .i64 k11) (.string k12)
          have HX3 := Lib.hid (HXb.out.mod ((HMz.out.trans hmz (by intro r hr; simp only [List.mem_singleton] at hr; subst hr; exact .inr hqf))))
          have HU3 := Lib.hid (own_mod HUz.out hmz (fun k hk hm => by obtain ⟨cur, hc⟩ := own_ty HUz.out k hk; rw [List.mem_singleton] at hm; subst hm; exact absurd (blk_uni hc HZ.out) (by decide)))
          refine hK.out _ _ (fun _ => HX3.out.S HMI.out hid1 hid2) ?_
          clear hK K z0 fz0 z1 fz1 z2 fz2 z3 fz3 z4 fz4 z5 fz5 z6 fz6 z7 fz7 z8 fz8 z9 fz9 z10 fz10 z11 fz11 z12 fz12 hmz
          try simp only [Act.put, List.setIfInBounds_toArray, List.set_cons_zero, List.set_cons_succ]
          generalize World.setCell _ ⟨q, 12, none⟩ _ = w13 at *
          refine He.wpE_one (i := 13) (by kernel_rfl) rfl (by rfl) (fun K hK => ?_)
          go_simp
          refine hK.out _ _ (fun h => absurd rfl h) ?_
          clear hK K
          refine He.wpE_done (by kernel_rfl) ?_
          try simp only [Act.put, List.setIfInBounds_toArray, List.set_cons_zero, List.set_cons_succ]
          go_wp2_with fail
          go_meet
          exact ⟨q, ka, kc, rfl, HX3.out, HZ2.out, HU3.out⟩
        · go_simp
          have HZ0 := Lib.hid (Blk.new wd zc 33)
          have HMz0 := Lib.hid ((Mod.refl wd []).alloc (.cells zc 33))
          have HXz0 := Lib.hid (HXd.out.mod HMz0.out)
          obtain ⟨q, hq⟩ : ∃ q, wd.heap.size = q := ⟨_, rfl⟩
          rw [hq] at HZ0 ⊢
          have hqf : wd.heap.size ≤ q := by omega
          generalize wd.alloc _ = wf at *
          have SF : (wf.cell? ⟨g, 1, none⟩ = some (.map (some mb)) ∧ wf.cell? ⟨xb, 1, none⟩ = some (.int .i64 id) ∧ (Instr.lookup mT (.map (some mb)) (.int .i64 id) false).run Try.prog wf = .ok (.string (writeS ⟨k0, (f : Int), (d : Int), k3, k4, k5, k6, k7, es, k9, k10, k11, k12⟩)) wf) := HXz0.out.S HMI.out hid1 hid2
          refine hK.out _ _ (fun _ => SF) ?_
          clear hK K S0
          try simp only [Act.put, List.setIfInBounds_toArray, List.set_cons_zero, List.set_cons_succ]
          refine He.wpE_one (i := 7) (by kernel_rfl) rfl (by rfl) (fun K hK => ?_)
          go_simp
          (with_reducible refine (RC.out _).mono ?_)
          rintro e wz ⟨v, rfl, hmf, hu⟩
          obtain ⟨ka, kc, rfl⟩ := Rw.own_slice hu
          have HUz := Lib.hid (own_low hu (Nat.le_trans hzd HMz0.out.size))
          have HZ := Lib.hid (HZ0.out.mod hmf (by simp))
          have HMz := Lib.hid (HMz0.out.trans0 hmf)
          have HXz := Lib.hid (HXz0.out.mod hmf)
          have HXb := HXd
          have SZ : (wz.cell? ⟨g, 1, none⟩ = some (.map (some mb)) ∧ wz.cell? ⟨xb, 1, none⟩ = some (.int .i64 id) ∧ (Instr.lookup mT (.map (some mb)) (.int .i64 id) false).run Try.prog wz = .ok (.string (writeS ⟨k0, (f : Int), (d : Int), k3, k4, k5, k6, k7, es, k9, k10, k11, k12⟩)) wz) := HXz.out.S HMI.out hid1 hid2
          refine hK.out _ _ (fun _ => SZ) ?_
          clear hK K hmf hu SF HXz0 HZ0 HMz0
          try simp only [Act.put, List.setIfInBounds_toArray, List.set_cons_zero, List.set_cons_succ]
          refine He.wpE_take (i := 8) (v := ?_) rfl (by kernel_rfl) (by kernel_rfl) (by kernel_rfl) (by kernel_rfl) (by kernel_rfl) (fun _ _ _ h => h) (by rfl) ?_ (by assumption) ?_
          rotate_left
          · (intro w' hSw; (try dsimp only at hSw); go_simp; first | done | with_reducible rfl)
          try simp only [List.getElem_toArray, List.getElem_cons_succ, List.getElem_cons_zero, Act.put, List.setIfInBounds_toArray, List.set_cons_zero, List.set_cons_succ]
          refine He.wpE_take (i := 9) (v := ?_) rfl (by kernel_rfl) (by kernel_rfl) (by kernel_rfl) (by kernel_rfl) (by kernel_rfl) (fun _ _ _ h => h) (by rfl) ?_ (by assumption) ?_
          rotate_left
          · (intro w' hSw; (try dsimp only at hSw); go_simp; first | done | with_reducible rfl)
          try simp only [List.getElem_toArray, List.getElem_cons_succ, List.getElem_cons_zero, Act.put, List.setIfInBounds_toArray, List.set_cons_zero, List.set_cons_succ]
          refine He.wpE_take (i := 10) (v := ?_) rfl (by kernel_rfl) (by kernel_rfl) (by kernel_rfl) (by kernel_rfl) (by kernel_rfl) (fun _ _ _ h => h) (by rfl) ?_ (by assumption) ?_
          rotate_left
          · (intro w' hSw; (try dsimp only at hSw); go_simp; first | done | with_reducible rfl)
          try simp only [List.getElem_toArray, List.getElem_cons_succ, List.getElem_cons_zero, Act.put, List.setIfInBounds_toArray, List.set_cons_zero, List.set_cons_succ]
          refine He.wpE_one (i := 12) (by kernel_rfl) rfl (by rfl) (fun K hK => ?_)
          have z0 := HZ.out.cell 0
          have fz0 := HZ.out.free 0
          have z1 := HZ.out.cell 1
          have fz1 := HZ.out.free 1
          have z2 := HZ.out.cell 2
          have fz2 := HZ.out.free 2
          have z3 := HZ.out.cell 3
          have fz3 := HZ.out.free 3
          have z4 := HZ.out.cell 4
          have fz4 := HZ.out.free 4
          have z5 := HZ.out.cell 5
          have fz5 := HZ.out.free 5
          have z6 := HZ.out.cell 6
          have fz6 := HZ.out.free 6
          have z7 := HZ.out.cell 7
          have fz7 := HZ.out.free 7
          have z8 := HZ.out.cell 8
          have fz8 := HZ.out.free 8
          have z9 := HZ.out.cell 9
          have fz9 := HZ.out.free 9
          have z10 := HZ.out.cell 10
          have fz10 := HZ.out.free 10
          have z11 := HZ.out.cell 11
          have fz11 := HZ.out.free 11
          have z12 := HZ.out.cell 12
          have fz12 := HZ.out.free 12
          go_simp
          have HZ2 := Lib.hid (put13 HZ.out (.int .i64 k0) (.int .i64 (f : Int)) (.int .i64 (d : Int)) (.int .i64 k3) (.int .i64 k4) (.int .i64 k5) (.int .i64 k6) (.bool k7) (.slice ka es.length kc) (.int .i64 k9) (.int .i64 k10) (.int .i64 k11) (.string k12))
          have hmz := mod13 wz q (.int .i64 k0) (.int .i64 (f : Int)) (.int .i64 (d : Int)) (.int .i64 k3) (.int .i64 k4) (.int .i64 k5) (.int .i64 k6) (.bool k7) (.slice ka es.length kc) (.int .i64 k9) (.int .i64 k10) (.int .i64 k11) (.string k12)
          have HX3 := Lib.hid (HXb.out.mod ((HMz.out.trans hmz (by intro r hr; simp only [List.mem_singleton] at hr; subst hr; exact .inr hqf))))
          have HU3 := Lib.hid (own_mod HUz.out hmz (fun k hk hm => by obtain ⟨cur, hc⟩ := own_ty HUz.out k hk; rw [List.mem_singleton] at hm; subst hm; exact absurd (blk_uni hc HZ.out) (by decide)))
          refine hK.out _ _ (fun _ => HX3.out.S HMI.out hid1 hid2) ?_
          clear hK K z0 fz0 z1 fz1 z2 fz2 z3 fz3 z4 fz4 z5 fz5 z6 fz6 z7 fz7 z8 fz8 z9 fz9 z10 fz10 z11 fz11 z12 fz12 hmz
          try simp only [Act.put, List.setIfInBounds_toArray, List.set_cons_zero, List.set_cons_succ]
          generalize World.setCell _ ⟨q, 12, none⟩ _ = w13 at *
          refine He.wpE_one (i := 13) (by kernel_rfl) rfl (by rfl) (fun K hK => ?_)
          go_simp
          refine hK.out _ _ (fun h => absurd rfl h) ?_
          clear hK K
          refine He.wpE_done (by kernel_rfl) ?_
          try simp only [Act.put, List.setIfInBounds_toArray, List.set_cons_zero, List.set_cons_succ]
          go_wp2_with fail
          go_meet
          exact ⟨q, ka, kc, rfl, HX3.out, HZ2.out, HU3.out⟩
      case rest =>
        clear HX RC
        obtain ⟨q, ka, kc, rfl, hx3, hbq, hu3⟩ := hcut
        have HX3 := Lib.hid hx3
        have HBQ := Lib.hid hbq
        have HU3 := Lib.hid hu3
        clear hx3 hbq hu3
        -- the text is struck
        have HXd := Lib.hid (HX3.out.mod ((Mod.refl wc []).drew))
        have HBd := Lib.hid (HBQ.out.mod ((Mod.refl wc []).drew) (by simp))
        have HUd := Lib.hid (own_mod HU3.out ((Mod.refl wc []).drew) (by simp))
        have e1 : wc.drew.cell? ⟨xb, 1, none⟩ = some (.int .i64 id) := HXd.out.xc.cell 1
        have e2 : wc.drew.cell? ⟨g, 1, none⟩ = some (.map (some mb)) := by rw [HXd.out.net.cell]; rfl
        clear HX3 HBQ HU3
        go_wp2_with fail
        refine He.wp_region_e 6 (fun w' => w'.cell? ⟨g, 1, none⟩ = some (.map (some mb)) ∧ w'.cell? ⟨xb, 1, none⟩ = some (.int .i64 id)) (by kernel_rfl) ⟨e2, e1⟩ (fun S0 => ?_)
        generalize wc.drew = wd at *
        obtain ⟨w4, hr, hm4, hmod4⟩ := HXd.out.mp.drop id hid1 hid2 0
        rw [map_del] at hm4
        refine He.wpE_take (i := 0) (v := ?_) rfl (by kernel_rfl) (by kernel_rfl) (by kernel_rfl) (by kernel_rfl) (by kernel_rfl) (fun _ _ _ h => h) (by rfl) ?_ (by assumption) ?_
        rotate_left
        · (intro w' hSw; (try dsimp only at hSw); go_simp; first | done | with_reducible rfl)
        try simp only [List.getElem_toArray, List.getElem_cons_succ, List.getElem_cons_zero, Act.put, List.setIfInBounds_toArray, List.set_cons_zero, List.set_cons_succ]
        refine He.wpE_take (i := 1) (v := ?_) rfl (by kernel_rfl) (by kernel_rfl) (by kernel_rfl) (by kernel_rfl) (by kernel_rfl) (fun _ _ _ h => h) (by rfl) ?_ (by assumption) ?_
        rotate_left
        · (intro w' hSw; (try dsimp only at hSw); go_simp; first | done | with_reducible rfl)
        try simp only [List.getElem_toArray, List.getElem_cons_succ, List.getElem_cons_zero, Act.put, List.setIfInBounds_toArray, List.set_cons_zero, List.set_cons_succ]
        refine He.wpE_take (i := 2) (v := ?_) rfl (by kernel_rfl) (by kernel_rfl) (by kernel_rfl) (by kernel_rfl) (by kernel_rfl) (fun _ _ _ h => h) (by rfl) ?_ (by assumption) ?_
        rotate_left
        · (intro w' hSw; (try dsimp only at hSw); go_simp; first | done | with_reducible rfl)
        try simp only [List.getElem_toArray, List.getElem_cons_succ, List.getElem_cons_zero, Act.put, List.setIfInBounds_toArray, List.set_cons_zero, List.set_cons_succ]
        refine He.wpE_take (i := 3) (v := ?_) rfl (by kernel_rfl) (by kernel_rfl) (by kernel_rfl) (by kernel_rfl) (by kernel_rfl) (fun _ _ _ h => h) (by rfl) ?_ (by assumption) ?_
        rotate_left
        · (intro w' hSw; (try dsimp only at hSw); go_simp; first | done | with_reducible rfl)
        try simp only [List.getElem_toArray, List.getElem_cons_succ, List.getElem_cons_zero, Act.put, List.setIfInBounds_toArray, List.set_cons_zero, List.set_cons_succ]
        refine He.wpE_take (i := 4) (v := ?_) rfl (by kernel_rfl) (by kernel_rfl) (by kernel_rfl) (by kernel_rfl) (by kernel_rfl) (fun _ _ _ h => h) (by rfl) ?_ (by assumption) ?_
        rotate_left
        · (intro w' hSw; (try dsimp only at hSw); go_simp; first | done | with_reducible rfl)
        try simp only [List.getElem_toArray, List.getElem_cons_succ, List.getElem_cons_zero, Act.put, List.setIfInBounds_toArray, List.set_cons_zero, List.set_cons_succ]
        refine He.wpE_take (i := 5) (v := ?_) rfl (by kernel_rfl) (by kernel_rfl) (by kernel_rfl) (by kernel_rfl) (by kernel_rfl) (fun _ _ _ h => h) (by rfl) ?_ (by assumption) ?_
        rotate_left
        · (intro w' hSw; (try dsimp only at hSw); go_simp; first | done | with_reducible rfl)
        try simp only [List.getElem_toArray, List.getElem_cons_succ, List.getElem_cons_zero, Act.put, List.setIfInBounds_toArray, List.set_cons_zero, List.set_cons_succ]
        refine He.wpE_one (i := 6) (by kernel_rfl) rfl (by rfl) (fun K hK => ?_)
        go_simp
        refine hK.out _ _ (fun h => absurd rfl h) ?_
        clear hK K
        refine He.wpE_done (by kernel_rfl) ?_
        try simp only [Act.put, List.setIfInBounds_toArray, List.set_cons_zero, List.set_cons_succ]
        have HM4 := Lib.hid (HXd.out.md.trans hmod4 (by simp))
        have HMP4 := Lib.hid hm4
        have HO4 := Lib.hid (HXd.out.out.kp (KpO.map HXd.out.mp hmod4))
        have HN4 := Lib.hid (HXd.out.net.mod hmod4 (by rw [List.mem_singleton]; exact (HXd.out.mp.notBlk HXd.out.net).symm))
        have HB4 := Lib.hid (HBd.out.mod hmod4 (by rw [List.mem_singleton]; exact (HXd.out.mp.notBlk HBd.out).symm))
        have HU4 := Lib.hid (own_mod HUd.out hmod4 (fun k hk => by obtain ⟨cur, hc⟩ := own_ty HUd.out k hk; rw [List.mem_singleton]; exact (HXd.out.mp.notBlk hc).symm))
        clear hr hm4 hmod4 HXd HBd HUd S0 e1 e2
        -- who is cut off?
        have b1 := HB4.out.cell 1
        have b2 := HB4.out.cell 2
        have n0 : w4.cell? ⟨g, 2 + f * 7 + d, none⟩ = some (.bool (C f d)) := by rw [HN4.out.cell, netC_get _ _ _ _ _ hf7 hd7]
        go_wp2_with fail
        go_quiet (fail)
        have hmq : Mod w4 (w4.drewN nq) [] := (Mod.refl w4 []).drewN nq
        have HMq := Lib.hid (HM4.out.trans0 hmq)
        have HMPq := Lib.hid (HMP4.out.mod hmq (by simp))
        have HOq := Lib.hid (HO4.out.kp (KpO.mod hmq))
        have HBq := Lib.hid (HB4.out.mod hmq (by simp))
        have HUq := Lib.hid (own_mod HU4.out hmq (by simp))
        have hzq : w2.heap.size ≤ (w4.drewN nq).heap.size := HMq.out.size
        clear b1 b2 n0 hmq HM4 HMP4 HO4 HN4 HB4 HU4
        generalize World.drewN _ nq = wq at *
        rw [show ((f : Int)).toNat = f from Int.toNat_natCast f, show ((d : Int)).toNat = d from Int.toNat_natCast d] at HOS
        by_cases hcut : C f d = true
        · rw [if_pos hcut] at HOS
          simp only [hcut]
          go_wp2_with fail
          go_roundw
          case rel => exact ⟨i + 1, xs, by go_num, by omega, HMq.out, by rw [HDS.out]; exact HMPq.out, HOq.out, by rw [HOS.out]; exact HXS.out⟩
          case measure => simp [intOf]; omega
        · have hcut' : C f d = false := by simpa using hcut
          rw [if_neg hcut] at HOS
          simp only [hcut']
          have hxl : xs.length ≤ i := by
            have h1 := congrArg List.length HXS.out
            rw [List.length_map] at h1
            have h2 : (outM C M (D.take i)).length ≤ (D.take i).length := List.length_filterMap_le _ _
            rw [List.length_take] at h2
            omega
          have HBn := Lib.hid (Blk.new wq #[.int .i64 k0, .int .i64 (f : Int), .int .i64 (d : Int), .int .i64 k3, .int .i64 k4, .int .i64 k5, .int .i64 k6, .bool k7, .slice ka es.length kc, .int .i64 k9, .int .i64 k10, .int .i64 k11, .string k12] 33)
          have HOn := Lib.hid (HOq.out.kp (KpO.mod ((Mod.refl wq []).alloc (.cells #[.int .i64 k0, .int .i64 (f : Int), .int .i64 (d : Int), .int .i64 k3, .int .i64 k4, .int .i64 k5, .int .i64 k6, .bool k7, .slice ka es.length kc, .int .i64 k9, .int .i64 k10, .int .i64 k11, .string k12] 33))))
          have HUn := Lib.hid (own_mod HUq.out ((Mod.refl wq []).alloc (.cells #[.int .i64 k0, .int .i64 (f : Int), .int .i64 (d : Int), .int .i64 k3, .int .i64 k4, .int .i64 k5, .int .i64 k6, .bool k7, .slice ka es.length kc, .int .i64 k9, .int .i64 k10, .int .i64 k11, .string k12] 33)) (by simp))
          have HMn := Lib.hid (HMq.out.alloc (.cells #[.int .i64 k0, .int .i64 (f : Int), .int .i64 (d : Int), .int .i64 k3, .int .i64 k4, .int .i64 k5, .int .i64 k6, .bool k7, .slice ka es.length kc, .int .i64 k9, .int .i64 k10, .int .i64 k11, .string k12] 33))
          have HMPn := Lib.hid (HMPq.out.mod ((Mod.refl wq []).alloc (.cells #[.int .i64 k0, .int .i64 (f : Int), .int .i64 (d : Int), .int .i64 k3, .int .i64 k4, .int .i64 k5, .int .i64 k6, .bool k7, .slice ka es.length kc, .int .i64 k9, .int .i64 k10, .int .i64 k11, .string k12] 33)) (by simp))
          have q0 := HBq.out.cell 0
          have q1 := HBq.out.cell 1
          have q2 := HBq.out.cell 2
          have q3 := HBq.out.cell 3
          have q4 := HBq.out.cell 4
          have q5 := HBq.out.cell 5
          have q6 := HBq.out.cell 6
          have q7' := HBq.out.cell 7
          have q8 := HBq.out.cell 8
          have q9 := HBq.out.cell 9
          have q10 := HBq.out.cell 10
          have q11 := HBq.out.cell 11
          have q12 := HBq.out.cell 12
          go_wp2_with (at_builtin; refine wpList_append_lies _ rfl _ _ 36 rfl w2.heap.size 33 i0 _ 13 128 Try.underlying36 hi0 hz0 hz1 hz2 rfl (by decide) u5 xs.length (rowsM xs) rfl HOn.out.own ⟨wq.heap.size, 0, none⟩ 1 1 [.int .i64 k0, .int .i64 (f : Int), .int .i64 (d : Int), .int .i64 k3, .int .i64 k4, .int .i64 k5, .int .i64 k6, .bool k7, .slice ka es.length kc, .int .i64 k9, .int .i64 k10, .int .i64 k11, .string k12] rfl rfl (World.news_of_block (cs := #[.int .i64 k0, .int .i64 (f : Int), .int .i64 (d : Int), .int .i64 k3, .int .i64 k4, .int .i64 k5, .int .i64 k6, .bool k7, .slice ka es.length kc, .int .i64 k9, .int .i64 k10, .int .i64 k11, .string k12]) (t := 33) (fr := (0, 0)) (heap_alloc_new wq _)) (by simp [Value.oneCell']) (by omega) (by unfold maxLen; omega) (by omega) (by simp; omega) (wq.heap.size + 1) (by simp) ?_; intro gg gcap w5 hown5 hgrow hat hlt5; have HO5 := Lib.hid (HOn.out.app (m := ⟨k0, (f : Int), (d : Int), k3, k4, k5, k6, k7, es, k9, k10, k11, k12⟩) (u := .slice ka es.length kc) HUn.out hgrow hown5); have HM5 := Lib.hid (HMn.out.grown hgrow (fun k hk => by obtain ⟨cur, hc⟩ := own_ty HOn.out.own k hk; exact .inr (own_ge HOn.out.own k hk))); have HMP5 := Lib.hid (HMPn.out.same (fun es' cl he => (hgrow.block mb HMPn.out.lt (fun e => by obtain ⟨cur, hc⟩ := own_ty HOn.out.own mb e.symm; exact HMPn.out.notBlk hc rfl)).trans he)); clear hown5 hgrow hat hlt5)
          go_roundw
          case rel => exact ⟨i + 1, xs ++ [(⟨k0, (f : Int), (d : Int), k3, k4, k5, k6, k7, es, k9, k10, k11, k12⟩, .slice ka es.length kc)], by go_num, by omega, HM5.out, by rw [HDS.out]; exact HMP5.out, HO5.out, by rw [HOS.out, List.map_append, HXS.out]; rfl⟩
          case measure => simp [intOf]; omega
    · have hge : (D.length : Int) ≤ i := by omega
      have HTK : Hid (D.take i = D) := Lib.hid (List.take_of_length_le (by omega))
      rw [HTK.out] at HMPr HXS
      have HD := Lib.hid (HFIN.out w2 wr u5 xs HAG.out HKP.out HM.out HMPr.out HOU.out HXS.out)
      clear HTK
      go_wp2_with fail
      go_ret
      exact HD.out
end Go.Proofs.Ytgmenlfhkhdbdaa.Nt
