/- Tables of sessions: Text. -/
import Derived.Test.YtcbafomhifdgpaaSs5
import Derived.Test.YtcbafomhifdgpaaKe3
import Derived.Test.YtcbafomhifdgpaaFx
namespace Go.Proofs.Ytcbafomhifdgpaa.Ss
open Go.RowKit Mem Si Bits
open Ke (numI numI_size AtS strCells_app)
set_option linter.unusedSimpArgs false
set_option linter.unusedVariables false
set_option maxRecDepth 100000

def SB (l : List Sn) : Prop := ∀ s ∈ l, (0 ≤ s.1 ∧ s.1 ≤ 549755813888) ∧ (0 ≤ s.2 ∧ s.2 ≤ 549755813888)
def rowT (x : Sn) : ByteArray := numI x.1 ++ numI x.2
/-- The text of a table, as far as its first k sessions. -/
def txtK (l : List Sn) (k : Nat) : ByteArray := (l.take k).foldl (fun s x => s ++ rowT x) (numI (l.length : Int))
def txt (l : List Sn) : ByteArray := txtK l l.length
theorem txtK_succ (l : List Sn) (k : Nat) (hk : k < l.length) : txtK l (k + 1) = txtK l k ++ rowT l[k] := by
  unfold txtK
  rw [List.take_succ_eq_append_getElem hk, List.foldl_append]; rfl
theorem rowT_size (x : Sn) : (rowT x).size ≤ 18 := by
  have h1 := (numI_size x.1).2
  have h2 := (numI_size x.2).2
  unfold rowT
  rw [ByteArray.size_append]; omega
theorem txtK_size (l : List Sn) : ∀ k, k ≤ l.length → 1 ≤ (txtK l k).size ∧ (txtK l k).size ≤ 9 + 18 * k
  | 0, _ => by
    have := numI_size (l.length : Int)
    show 1 ≤ (numI (l.length : Int)).size ∧ (numI (l.length : Int)).size ≤ 9 + 18 * 0
    omega
  | k + 1, hk => by
    have ih := txtK_size l k (by omega)
    have := rowT_size (l[k]'(by omega))
    rw [txtK_succ l k (by omega), ByteArray.size_append]
    omega

theorem rows_wr {B b : Nat} {w w' : World} {base : Nat} {v : Value} {l : List Sn} (h : RowsAt w base v l) (hw : Sb.Wr B b w w') (hb : b < base) : RowsAt w' base v l := by
  obtain ⟨h0, ⟨rfl, h1⟩ | ⟨g, cap, cur, rfl, hg, hc, h2⟩⟩ := h
  · exact ⟨h0, .inl ⟨rfl, h1⟩⟩
  · exact ⟨h0, .inr ⟨g, cap, cur, rfl, hg, hw.keep g cur _ hc (by decide) (by omega), h2⟩⟩
theorem blk2 {w : World} {g : Nat} {a b : Value} {t : TypeId} (h : Blk w g #[a, b] t) : w.cell? ⟨g, 0, none⟩ = some a ∧ w.cell? ⟨g, 1, none⟩ = some b := ⟨h.cell 0, h.cell 1⟩

/-- The worlds of Text's inner region: before WriteString, and behind it. -/
structure TxC (w0 : World) (B b x : Nat) (cs : Array Value) (S0 S1 : ByteArray) (base : Nat) (v : Value) (l : List Sn) (m : Nat) (w : World) : Prop where
  bl : Below B w0 w
  sz : B ≤ w.heap.size
  at_ : AtS w B b (if m = 0 then S0 else S1)
  xb : Blk w x cs 107
  rw_ : RowsAt w base v l
theorem TxC.mod {w0 : World} {B b x : Nat} {cs : Array Value} {S0 S1 : ByteArray} {base : Nat} {v : Value} {l : List Sn} {m : Nat} {w w' : World} (h : TxC w0 B b x cs S0 S1 base v l m w) (hm : Mod w w' []) : TxC w0 B b x cs S0 S1 base v l m w' :=
  ⟨h.bl.trans (hm.below h.sz (by simp)), Nat.le_trans h.sz hm.size, Sb.at_mod h.at_ hm, h.xb.mod hm (by simp), h.rw_.mod hm (by simp)⟩
theorem TxC.wr {w0 : World} {B b x : Nat} {cs : Array Value} {S0 S1 : ByteArray} {base : Nat} {v : Value} {l : List Sn} {w w' : World} (h : TxC w0 B b x cs S0 S1 base v l 0 w) (hw : Sb.Wr B b w w') (hb : b < base) (hx : x ≠ b) (ha : AtS w' B b S1) : TxC w0 B b x cs S0 S1 base v l 1 w' :=
  ⟨h.bl.trans hw.below, Nat.le_trans h.sz hw.below.size, ha, hw.keep _ _ _ h.xb (by decide) hx, rows_wr h.rw_ hw hb⟩

theorem numI_calls (x : Int) (hx : 0 ≤ x ∧ x ≤ 549755813888) (w : World) : Calls Try.prog 39 #[.int .u64 x] w fun e w' => e = .returned (.string (numI x)) ∧ Mod w w' [] := by
  have h := num_calls x.toNat (by omega) w
  rw [Int.toNat_of_nonneg hx.1] at h
  exact h

set_option maxHeartbeats 4000000 in
theorem text_walk (q : Option Addr) (l : List Sn) (w : World) (hn : l.length ≤ 1000) (hb : SB l)
    (hall : ∀ w1, Mod w w1 [] → Calls Try.prog 27 #[.pointer q] w1 fun e w' => ∃ v', e = .returned v' ∧ Mod w1 w' [] ∧ RowsAt w' w1.heap.size v' l) :
    Calls Try.prog 24 #[.pointer q] w fun e w' => e = .returned (.string (txt l)) ∧ Mod w w' [] := by
  have NC := Lib.hid numI_calls
  have SUCC := Lib.hid (txtK_succ l)
  have SIZE := Lib.hid (txtK_size l)
  have HB := Lib.hid hb
  have HZ : Hid (numI (l.length : Int) = txtK l 0) := Lib.hid rfl
  have HE : Hid (txtK l l.length = txt l) := Lib.hid rfl
  have hn' : (l.length : Int) ≤ 1000 := by omega
  have hwl := IntWalk.u64_in (l.length : Int) (by omega)
  have HA0 : Hid (AtS (w.alloc (.cells #[.pointer none, .slice none 0 0] Sb.tB)) w.heap.size w.heap.size ⟨#[]⟩) := Lib.hid (.inl ⟨Nat.le_refl _, .slice none 0 0, Blk.new w _ _, World.ownsRow_nil _ _ _ _, by simp [Value.ownBlock]⟩)
  have HM0 := Lib.hid ((Mod.refl w []).alloc (.cells #[.pointer none, .slice none 0 0] Sb.tB))
  have AC := Lib.hid (hall _ HM0.out)
  clear hall hb
  go_enter Try.func24, Try.ntmps24
  go_wp2_with fail
  (with_reducible refine AC.out.mono ?_)
  rintro e w1 ⟨v', rfl, hm1, hr1⟩
  have HM1 := Lib.hid (HM0.out.trans0 hm1)
  have HA1 := Lib.hid (Sb.at_mod HA0.out hm1)
  have HR1 := Lib.hid (show RowsAt w1 (w.heap.size + 1) v' l by rw [World.size_alloc] at hr1; exact hr1)
  clear hm1 hr1 HA0 AC HM0
  obtain ⟨a, c, hva⟩ := Rw.own_slice HR1.out
  have HVA := Lib.hid hva
  subst hva
  go_wp2_with fail
  (with_reducible refine (NC.out _ ?_ _).mono ?_)
  · exact ⟨by omega, by omega⟩
  rintro e w2 ⟨rfl, hm2⟩
  have HM2 := Lib.hid (HM1.out.trans0 hm2)
  have HA2 := Lib.hid (Sb.at_mod HA1.out hm2)
  have HR2 := Lib.hid (HR1.out.mod hm2 (by simp))
  clear hm2 HM1 HA1 HR1
  rw [HZ.out]
  have hz0 := SIZE.out 0 (Nat.zero_le _)
  have WC := Lib.hid (Sb.write_calls w.heap.size w.heap.size (Lib.strCells ⟨#[]⟩) (txtK l 0) w2 HA2.out (by rw [Lib.strCells_length]; show 0 + _ ≤ _; omega) HM2.out.size)
  go_wp2_with fail
  (with_reducible refine WC.out.mono ?_)
  rintro e w3 ⟨rfl, ha3, hw3⟩
  have HA3 : Hid (AtS w3 w.heap.size w.heap.size (txtK l 0)) := Lib.hid (by have h := ha3; rw [← strCells_app, Ke.nil_app] at h; exact h)
  have HL3 := Lib.hid (HM2.out.below0.trans hw3.below)
  have HR3 := Lib.hid (rows_wr HR2.out hw3 (by omega))
  clear ha3 hw3 WC HA2 HM2 HR2 hz0
  go_wp2_with fail
  go_loopw [16] (fun vi wr => ∃ i : Nat, i ≤ l.length ∧ vi = .int .i64 (i : Int) ∧ AtS wr w.heap.size w.heap.size (txtK l i) ∧ Below w.heap.size w wr ∧ RowsAt wr (w.heap.size + 1) (.slice a l.length c) l) (fun vi _ => l.length + 1 - (intOf vi).toNat)
  case atStart => exact ⟨0, Nat.zero_le _, rfl, HA3.out, HL3.out, HR3.out⟩
  case round =>
    obtain ⟨i, hi, rfl, hat, hbl, hrw⟩ := hrel
    have HA := Lib.hid hat
    have HL := Lib.hid hbl
    have HR := Lib.hid hrw
    have hzr := Sb.at_lt hat
    clear hat hbl hrw HA3 HL3 HR3
    by_cases hlt : i < l.length
    · have hlt' : (i : Int) < l.length := by omega
      have hbi := HB.out _ (List.getElem_mem hlt)
      have HS := Lib.hid (SUCC.out i hlt)
      have hsz := SIZE.out i (by omega)
      have hrs := rowT_size (l[i]'hlt)
      have HRT : Hid (rowT (l[i]'hlt) = numI (l[i]'hlt).1 ++ numI (l[i]'hlt).2) := Lib.hid rfl
      rcases HR.out.shape with ⟨_, h0⟩ | ⟨g, cap, hv, h1, h2, h3, h4⟩
      · rw [h0] at hlt; simp at hlt
      · obtain ⟨d0, d1⟩ := h4 i hlt
        injection hv with e1 e2 e3
        subst e1 e3
        obtain ⟨T1, hT1⟩ : ∃ T1, T1 = txtK l (i + 1) := ⟨_, rfl⟩
        rw [← hT1] at HS
        have HT1 := Lib.hid hT1
        clear hT1 h4 e2
        generalize l[i]'hlt = x at *
        obtain ⟨x1, x2⟩ := x
        simp only at d0 d1 hbi HRT
        obtain ⟨hb1, hb2⟩ := hbi
        generalize txtK l i = T at *
        go_wp2_with fail
        have HXB := Lib.hid (Blk.new wr #[.int .i64 x1, .int .i64 x2] 107)
        have HMX := Lib.hid ((Mod.refl wr []).alloc (.cells #[.int .i64 x1, .int .i64 x2] 107))
        have HAX := Lib.hid (Sb.at_mod HA.out HMX.out)
        have HLX := Lib.hid (HL.out.trans (HMX.out.below (by omega) (by simp)))
        have HRX := Lib.hid (HR.out.mod HMX.out (by simp))
        have hwr : w.heap.size < wr.heap.size := hzr
        have hw1 := IntWalk.u64_in x1 (by omega)
        have hw2 := IntWalk.u64_in x2 (by omega)
        have hcat : ¬ (9223372036854775807 < (numI x1).size + (numI x2).size) := by
          have h1 := (numI_size x1).2
          have h2 := (numI_size x2).2
          omega
        clear d0 d1
        generalize wr.alloc _ = W at HXB HMX HAX HLX HRX ⊢
        have hWs : w.heap.size ≤ W.heap.size := HLX.out.size
        refine Fx.wp_region_f [9] (TxC w w.heap.size w.heap.size wr.heap.size #[.int .i64 x1, .int .i64 x2] T (T ++ (numI x1 ++ numI x2)) (w.heap.size + 1) (.slice (some ⟨g, 0, none⟩) l.length c) l) (by kernel_rfl) (by decide) (TxC.mod ⟨HLX.out, hWs, HAX.out, HXB.out, HRX.out⟩ (Mod.refl _ _).drew) ?_
        have hSS : ∀ m' w', TxC w w.heap.size w.heap.size wr.heap.size #[.int .i64 x1, .int .i64 x2] T (T ++ (numI x1 ++ numI x2)) (w.heap.size + 1) (.slice (some ⟨g, 0, none⟩) l.length c) l m' w' → _ := fun m' w' h => blk2 h.xb
        refine Fx.take (i := 0) (v := ?_) _ rfl (by kernel_rfl) (by kernel_rfl) (by rfl) hSS ?_ ?_
        rotate_left
        · (intro w' hSw; (try dsimp only at hSw); go_simp; first | done | with_reducible rfl)
        try simp only [List.getElem_toArray, List.getElem_cons_succ, List.getElem_cons_zero, Act.put, List.setIfInBounds_toArray, List.set_cons_zero, List.set_cons_succ]
        refine Fx.take (i := 1) (v := ?_) _ rfl (by kernel_rfl) (by kernel_rfl) (by rfl) hSS ?_ ?_
        rotate_left
        · (intro w' hSw; (try dsimp only at hSw); go_simp; first | done | with_reducible rfl)
        try simp only [List.getElem_toArray, List.getElem_cons_succ, List.getElem_cons_zero, Act.put, List.setIfInBounds_toArray, List.set_cons_zero, List.set_cons_succ]
        refine Fx.take (i := 2) (v := ?_) _ rfl (by kernel_rfl) (by kernel_rfl) (by rfl) hSS ?_ ?_
        rotate_left
        · (intro w' hSw; (try dsimp only at hSw); go_simp; first | done | with_reducible rfl)
        try simp only [List.getElem_toArray, List.getElem_cons_succ, List.getElem_cons_zero, Act.put, List.setIfInBounds_toArray, List.set_cons_zero, List.set_cons_succ]
        refine Fx.take (i := 4) (v := ?_) _ rfl (by kernel_rfl) (by kernel_rfl) (by rfl) hSS ?_ ?_
        rotate_left
        · (intro w' hSw; (try dsimp only at hSw); go_simp; first | done | with_reducible rfl)
        try simp only [List.getElem_toArray, List.getElem_cons_succ, List.getElem_cons_zero, Act.put, List.setIfInBounds_toArray, List.set_cons_zero, List.set_cons_succ]
        refine Fx.take (i := 5) (v := ?_) _ rfl (by kernel_rfl) (by kernel_rfl) (by rfl) hSS ?_ ?_
        rotate_left
        · (intro w' hSw; (try dsimp only at hSw); go_simp; first | done | with_reducible rfl)
        try simp only [List.getElem_toArray, List.getElem_cons_succ, List.getElem_cons_zero, Act.put, List.setIfInBounds_toArray, List.set_cons_zero, List.set_cons_succ]
        refine Fx.take (i := 6) (v := ?_) _ rfl (by kernel_rfl) (by kernel_rfl) (by rfl) hSS ?_ ?_
        rotate_left
        · (intro w' hSw; (try dsimp only at hSw); go_simp; first | done | with_reducible rfl)
        try simp only [List.getElem_toArray, List.getElem_cons_succ, List.getElem_cons_zero, Act.put, List.setIfInBounds_toArray, List.set_cons_zero, List.set_cons_succ]
        refine Fx.call' (i := 3) rfl (by kernel_rfl) (by kernel_rfl) (by rfl) ?_
        apply Exists.intro
        apply Exists.intro
        apply Exists.intro
        refine ⟨?_, ?_, ?_⟩
        · (intro w'; go_simp; first | done | (refine ⟨?_, ?_⟩ <;> with_reducible rfl) | with_reducible rfl)
        · (exact fun m w' h => (NC.out _ hb1 w').mono fun _ _ ⟨he, hm⟩ => ⟨he, h.mod hm⟩)
        try simp only [List.getElem_toArray, List.getElem_cons_succ, List.getElem_cons_zero, Act.put, List.setIfInBounds_toArray, List.set_cons_zero, List.set_cons_succ]
        refine Fx.call' (i := 7) rfl (by kernel_rfl) (by kernel_rfl) (by rfl) ?_
        apply Exists.intro
        apply Exists.intro
        apply Exists.intro
        refine ⟨?_, ?_, ?_⟩
        · (intro w'; go_simp; first | done | (refine ⟨?_, ?_⟩ <;> with_reducible rfl) | with_reducible rfl)
        · (exact fun m w' h => (NC.out _ hb2 w').mono fun _ _ ⟨he, hm⟩ => ⟨he, h.mod hm⟩)
        try simp only [List.getElem_toArray, List.getElem_cons_succ, List.getElem_cons_zero, Act.put, List.setIfInBounds_toArray, List.set_cons_zero, List.set_cons_succ]
        refine Fx.take (i := 8) (v := ?_) _ rfl (by kernel_rfl) (by kernel_rfl) (by rfl) hSS ?_ ?_
        rotate_left
        · (intro w' hSw; (try dsimp only at hSw); go_simp; first | done | with_reducible rfl)
        try simp only [List.getElem_toArray, List.getElem_cons_succ, List.getElem_cons_zero, Act.put, List.setIfInBounds_toArray, List.set_cons_zero, List.set_cons_succ]
        refine Fx.eff' (i := 9) 0 rfl (by kernel_rfl) (by kernel_rfl) (by rfl) (by kernel_rfl) (by kernel_rfl) ?_
        apply Exists.intro
        apply Exists.intro
        apply Exists.intro
        refine ⟨?_, ?_, ?_⟩
        · (intro w'; go_simp; first | done | (refine ⟨?_, ?_⟩ <;> with_reducible rfl) | with_reducible rfl)
        · (exact fun w' h => (Sb.write_calls w.heap.size w.heap.size (Lib.strCells T) (numI x1 ++ numI x2) w' h.at_ (by rw [Lib.strCells_length, ← HRT.out]; omega) h.sz).mono fun _ _ ⟨he, ha, hw⟩ => ⟨he, h.wr hw (by omega) (by omega) (by show Sb.At _ _ _ (Lib.strCells (T ++ _)); rw [strCells_app]; exact ha)⟩)
        try simp only [List.getElem_toArray, List.getElem_cons_succ, List.getElem_cons_zero, Act.put, List.setIfInBounds_toArray, List.set_cons_zero, List.set_cons_succ]
        refine Fx.done 1 (by kernel_rfl) (by kernel_rfl) (fun w4 hC => ?_)
        have hat4 := hC.at_
        rw [if_neg (by decide)] at hat4
        have HA4 : Hid (AtS w4 w.heap.size w.heap.size (txtK l (i + 1))) := Lib.hid (by rw [← HT1.out, HS.out, HRT.out]; exact hat4)
        have HL4 := Lib.hid hC.bl
        have HR4 := Lib.hid hC.rw_
        clear hC hat4
        go_wp2_with fail
        go_roundw
        case rel => exact ⟨i + 1, by omega, by go_num, HA4.out, HL4.out, HR4.out⟩
        case measure => simp [intOf]; omega
    · have hge : (l.length : Int) ≤ i := by omega
      have hii : i = l.length := by omega
      subst hii
      have hpos := (SIZE.out l.length (Nat.le_refl _)).1
      rw [HE.out] at HA hpos
      have hne : (txt l).data.toList ≠ [] := by
        intro h
        have h2 : (txt l).data.toList.length = (txt l).size := by simp
        rw [h] at h2
        simp at h2; omega
      have SC := Lib.hid (Sb.string_calls w.heap.size w.heap.size _ _ HA.out hne)
      have HSS : Hid ((⟨(txt l).data.toList.toArray⟩ : ByteArray) = txt l) := Lib.hid rfl
      rw [HSS.out] at SC
      clear hne HSS
      go_wp2_with fail
      (with_reducible refine SC.out.mono ?_)
      rintro e w9 ⟨rfl, hb9⟩
      have HL9 := Lib.hid (HL.out.trans hb9)
      clear hb9
      go_wp2_with fail
      go_ret
      exact ⟨rfl, Mod.of_below HL9.out⟩

theorem text_calls (t : Nat) (v : Value) (l : List Sn) (w : World) (h : TabAt w t v l) (hn : l.length ≤ 1000) (hb : SB l) :
    Calls Try.prog 24 #[.pointer (some ⟨t, 0, none⟩)] w fun e w' => e = .returned (.string (txt l)) ∧ Mod w w' [] :=
  text_walk _ l w hn hb (fun w1 hm => all_calls t v l w1 (h.mod hm (by simp) (by simp)) hn)
theorem text_nil (w : World) : Calls Try.prog 24 #[.pointer none] w fun e w' => e = .returned (.string (txt [])) ∧ Mod w w' [] :=
  text_walk _ [] w (by simp) (fun s hs => by cases hs) (fun w1 _ => (all_nil w1).mono fun e w' ⟨he, hw⟩ => ⟨_, he, hw ▸ Mod.refl _ _, World.ownsRow_nil _ _ _ _⟩)
end Go.Proofs.Ytcbafomhifdgpaa.Ss
