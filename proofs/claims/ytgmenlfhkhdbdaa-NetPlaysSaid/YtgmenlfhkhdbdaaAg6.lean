/- The heap's Push, Pop and Remove. -/
import Derived.Test.YtgmenlfhkhdbdaaAg5
namespace Go.Proofs.Ytgmenlfhkhdbdaa.Ag
open Go.RowKit Mem
set_option linter.unusedSimpArgs false
set_option linter.unusedVariables false
set_option maxRecDepth 100000

theorem last_split {l : List It} {n : Nat} (h : l.length = n + 1) : l = l.take n ++ [gt l n] := by
  rw [gt_eq (by omega)]
  have := List.take_succ_eq_append_getElem (l := l) (i := n) (by omega)
  rw [← this, ← h, List.take_length]
theorem PlAt.not_own {w : World} {g : Nat} {v : Value} {last : Int} {l : List It} (h : PlAt w g v last l) : g ∉ v.ownBlock.toList := fun hh => by have := (h.own g (by simpa using hh)).1; omega
theorem PlAt.slice {w : World} {g : Nat} {v : Value} {last : Int} {l : List It} (h : PlAt w g v last l) : ∃ a c, v = .slice a l.length c := Rw.own_slice h.2

def HpP (g : Nat) (v : Value) (last : Int) (h : List It) (x : It) (w : World) (w' : World) : Prop := ∃ h', h'.Perm (h ++ [x]) ∧ IsHeap h' h'.length ∧ AgP g v last h' w w'
set_option maxHeartbeats 2000000 in
theorem hpush_calls (g : Nat) (v : Value) (last : Int) (h : List It) (x : It) (w : World) (hp : PlAt w g v last h) (hh : IsHeap h h.length) (hn : h.length ≤ 90000) :
    Calls Try.prog 79 #[.iface 155 (.pointer (some ⟨g, 0, none⟩)), .iface 102 (itV x)] w fun e w' => e = .returned (.tuple #[]) ∧ HpP g v last h x w w' := by
  have PC := Lib.hid (push_calls g v last h x w hp (by omega))
  have HU := Lib.hid (UpH.push hh x)
  have LN := Lib.hid len_calls
  have mP := m_push w ⟨g, 0, none⟩
  have hn2 : (h.length : Int) ≤ 90000 := by omega
  clear hp hh
  go_enter Try.func79, Try.ntmps79
  go_wp2_with fail
  (with_reducible refine PC.out.mono ?_)
  rintro e w1 ⟨rfl, hag⟩
  obtain ⟨v1, hp1, hm1, ho1⟩ := hag
  have HP1 := Lib.hid hp1
  have HM1 := Lib.hid hm1
  have HO1 := Lib.hid ho1
  obtain ⟨a, c, hv⟩ := hp1.slice
  have hl1 : (h ++ [x]).length = h.length + 1 := by simp
  rw [hl1] at hv
  subst hv
  clear hp1 hm1 ho1 mP PC
  have mN := m_len w1 ⟨g, 0, none⟩ (HP1.out.1.cell 0)
  have UC := Lib.hid (up_calls g (.slice a (h.length + 1) c) last (h ++ [x]) (h.length + 1) h.length w1 HP1.out (by omega) (by omega) (by omega) HU.out)
  go_wp2_with fail
  (with_reducible refine (LN.out _ _ _ _).mono ?_)
  rintro e w2 ⟨rfl, rfl⟩
  go_wp2_with fail
  (with_reducible refine UC.out.mono ?_)
  rintro e w3 ⟨rfl, l', q1, q2, q3, q4, q5, q6⟩
  have HF : Hid (HpP g v last h x w w3) := Lib.hid (by
    refine ⟨l', q1, by rw [q2, hl1]; exact q3, .slice a (h.length + 1) c, q5, HM1.out.trans q6 (fun r hr => ?_), fun k hk => HO1.out k hk⟩
    rcases HO1.out r (by simpa using hr) with hr | hr
    · exact .inl (by simp [hr])
    · exact .inr hr)
  clear q1 q2 q3 q4 q5 q6
  go_wp2_with fail
  go_end0
  exact ⟨rfl, HF.out⟩

/-- What Pop and Remove leave: x is gone. -/
def HqP (g : Nat) (v : Value) (last : Int) (h : List It) (x : It) (w : World) (w' : World) : Prop := ∃ h', (x :: h').Perm h ∧ IsHeap h' h'.length ∧ AgP g v last h' w w'
theorem hq_of {g : Nat} {v : Value} {last : Int} {h l' : List It} {x : It} {n : Nat} {w w1 w2 : World} (hl : l'.length = n + 1) (hp : l'.Perm h) (hx : gt l' n = x) (hh : IsHeap l' n) (hm : Mod w w1 v.ownBlock.toList) (hpl : PlAt w1 g v last l') (ha : AgP g v last (l'.take n) w1 w2) : HqP g v last h x w w2 := by
  have hs := last_split hl
  have hlt : (l'.take n).length = n := by rw [List.length_take]; omega
  refine ⟨l'.take n, ?_, ?_, AgP.trans hpl ((hm.weak (R' := g :: v.ownBlock.toList) (fun r hr => .inl (List.mem_cons_of_mem _ hr)))) (fun k hk => .inl hk) ha⟩
  · refine List.Perm.trans ?_ hp
    conv => rhs; rw [hs]
    rw [hx]
    exact (List.perm_append_comm (l₁ := [x]) (l₂ := l'.take n))
  · rw [hlt]
    refine heap_mono hh (Nat.le_refl _) (fun t ht => ?_)
    rw [gt_eq (by omega), gt_eq (by omega), List.getElem_take]

set_option maxHeartbeats 2000000 in
theorem hpop_calls (g : Nat) (v : Value) (last : Int) (h : List It) (n : Nat) (w : World) (hp : PlAt w g v last h) (hh : IsHeap h h.length) (hn : h.length ≤ 90000) (hl : h.length = n + 1) :
    Calls Try.prog 81 #[.iface 155 (.pointer (some ⟨g, 0, none⟩))] w fun e w' => e = .returned (.iface 102 (itV (gt h 0))) ∧ HqP g v last h (gt h 0) w w' := by
  have HP := Lib.hid hp
  have LN := Lib.hid len_calls
  have mN := m_len w ⟨g, 0, none⟩ (hp.1.cell 0)
  have mS := m_swap w ⟨g, 0, none⟩ (hp.1.cell 0)
  obtain ⟨a, c, hv⟩ := hp.slice
  rw [hl] at hv
  subst hv
  have hn2 : (n : Int) ≤ 90000 := by omega
  have SC := Lib.hid (swap_calls (g + 1) (.slice a (n + 1) c) h 0 n (by omega) (by omega) w hp.2 (by omega))
  have HD : Hid (DnH (sw h 0 n) n 0 0) := Lib.hid (by
    rcases Nat.eq_zero_or_pos n with h0 | h0
    · exact ⟨fun k k1 kn => by omega, fun k k1 kn => by omega⟩
    · refine DnH.start (m := h) (heap_mono (l := h) hh (by omega) (fun t _ => rfl)) (fun k hk k0 => ?_) h0
      rw [gt_sw (by omega) (by omega), if_neg (by omega), if_neg k0])
  have hgn : gt (sw h 0 n) n = gt h 0 := by rw [gt_sw (by omega) (by omega), if_pos rfl]
  have HPN := Lib.hid (sw_perm (l := h) (i := 0) (j := n) (by omega) (by omega))
  have hsl := sw_len h 0 n
  rw [show ((0 : Nat) : Int) = 0 from rfl] at SC
  clear hp hh
  go_enter Try.func81, Try.ntmps81
  go_wp2_with fail
  (with_reducible refine (LN.out _ _ _ _).mono ?_)
  rintro e w2 ⟨rfl, rfl⟩
  go_wp2_with fail
  (with_reducible refine SC.out.mono ?_)
  rintro e w2 ⟨rfl, hm2, hit2⟩
  have HP2 : Hid (PlAt w2 g (.slice a (n + 1) c) last (sw h 0 n)) := Lib.hid ⟨HP.out.1.mod hm2 HP.out.not_own, hit2⟩
  have HM2 := Lib.hid hm2
  have DC := Lib.hid (down_calls g (.slice a (n + 1) c) last (sw h 0 n) n 0 w2 HP2.out (by omega) (by omega) (by omega) HD.out)
  rw [show ((0 : Nat) : Int) = 0 from rfl] at DC
  clear hm2 hit2 mN mS SC HD HP
  go_wp2_with fail
  (with_reducible refine DC.out.mono ?_)
  rintro e w3 ⟨b, l', rfl, q1, q2, q3, q4, q5, q6, q7⟩
  have HP3 := Lib.hid q4
  have HM3 := Lib.hid (HM2.out.trans q5 (R := (Value.slice a (n + 1) c).ownBlock.toList) (fun r hr => .inl hr))
  have HH : Hid (IsHeap l' n) := Lib.hid (by
    cases b with
    | true => exact q6 rfl
    | false => obtain ⟨e1, e2⟩ := q7 rfl; rw [e1]; exact e2.zero)
  have HX : Hid (gt l' n = gt h 0) := Lib.hid (by rw [q3 n (Nat.le_refl _), hgn])
  have HPR := Lib.hid (q1.trans HPN.out)
  have hll : l'.length = n + 1 := by omega
  have mP := m_pop w3 ⟨g, 0, none⟩
  have PC := Lib.hid (pop_calls g (.slice a (n + 1) c) last (l'.take n) (gt h 0) w3 (by rw [← HX.out, ← last_split hll]; exact HP3.out) (by rw [List.length_take]; omega))
  clear q1 q2 q3 q4 q5 q6 q7 DC HP2 HM2 HPN hgn hsl
  go_wp2_with fail
  (with_reducible refine PC.out.mono ?_)
  rintro e w4 ⟨rfl, ha⟩
  have HF := Lib.hid (hq_of hll HPR.out HX.out HH.out HM3.out HP3.out ha)
  clear ha
  go_wp2_with fail
  go_ret
  exact ⟨rfl, HF.out⟩

set_option maxHeartbeats 4000000 in
theorem hremove_calls (g : Nat) (v : Value) (last : Int) (h : List It) (n i : Nat) (w : World) (hp : PlAt w g v last h) (hh : IsHeap h h.length) (hn : h.length ≤ 90000) (hl : h.length = n + 1) (hi : i ≤ n) :
    Calls Try.prog 89 #[.iface 155 (.pointer (some ⟨g, 0, none⟩)), .int .i64 (i : Int)] w fun e w' => e = .returned (.iface 102 (itV (gt h i))) ∧ HqP g v last h (gt h i) w w' := by
  have HP := Lib.hid hp
  have LN := Lib.hid len_calls
  have mN := m_len w ⟨g, 0, none⟩ (hp.1.cell 0)
  obtain ⟨a, c, hv⟩ := hp.slice
  rw [hl] at hv
  subst hv
  have hn2 : (n : Int) ≤ 90000 := by omega
  have hi2 : (i : Int) ≤ n := by omega
  by_cases hin : i = n
  · subst hin
    have mP := m_pop w ⟨g, 0, none⟩
    have hs := last_split hl
    have PC := Lib.hid (pop_calls g (.slice a (i + 1) c) last (h.take i) (gt h i) w (by rw [← hs]; exact hp) (by rw [List.length_take]; omega))
    have HH := Lib.hid (heap_mono (l := h) (m := h) (n := h.length) (k := i) hh (by omega) (fun t _ => rfl))
    have hne : ((i : Int) != (i : Int)) = false := by simp
    clear hp hh hs
    go_enter Try.func89, Try.ntmps89
    go_wp2_with fail
    (with_reducible refine (LN.out _ _ _ _).mono ?_)
    rintro e w2 ⟨rfl, rfl⟩
    go_wp2_with fail
    (with_reducible refine PC.out.mono ?_)
    rintro e w4 ⟨rfl, ha⟩
    have HF := Lib.hid (hq_of hl (List.Perm.refl _) rfl HH.out (Mod.refl _ _) HP.out ha)
    clear ha
    go_wp2_with fail
    go_ret
    exact ⟨rfl, HF.out⟩
  · have hne : ((n : Int) != (i : Int)) = true := by rw [bne_iff_ne]; omega
    have hilt : i < n := by omega
    have mS := m_swap w ⟨g, 0, none⟩ (hp.1.cell 0)
    have SC := Lib.hid (swap_calls (g + 1) (.slice a (n + 1) c) h i n (by omega) (by omega) w hp.2 (by omega))
    have HD : Hid (DnH (sw h i n) n i i) := Lib.hid (by
      refine DnH.start (m := h) (heap_mono (l := h) hh (by omega) (fun t _ => rfl)) (fun k hk k0 => ?_) hilt
      rw [gt_sw (by omega) (by omega), if_neg (by omega), if_neg k0])
    have hgn : gt (sw h i n) n = gt h i := by rw [gt_sw (by omega) (by omega), if_pos rfl]
    have HPN := Lib.hid (sw_perm (l := h) (i := i) (j := n) (by omega) (by omega))
    have hsl := sw_len h i n
    clear hp hh hin
    go_enter Try.func89, Try.ntmps89
    go_wp2_with fail
    (with_reducible refine (LN.out _ _ _ _).mono ?_)
    rintro e w2 ⟨rfl, rfl⟩
    go_wp2_with fail
    (with_reducible refine SC.out.mono ?_)
    rintro e w2 ⟨rfl, hm2, hit2⟩
    have HP2 : Hid (PlAt w2 g (.slice a (n + 1) c) last (sw h i n)) := Lib.hid ⟨HP.out.1.mod hm2 HP.out.not_own, hit2⟩
    have HM2 := Lib.hid hm2
    have DC := Lib.hid (down_calls g (.slice a (n + 1) c) last (sw h i n) n i w2 HP2.out (by omega) (by omega) (by omega) HD.out)
    clear hm2 hit2 mN mS SC HP
    go_wp2_with fail
    (with_reducible refine DC.out.mono ?_)
    rintro e w3 ⟨b, l', rfl, q1, q2, q3, q4, q5, q6, q7⟩
    have HP3 := Lib.hid q4
    have HM3 := Lib.hid (HM2.out.trans q5 (R := (Value.slice a (n + 1) c).ownBlock.toList) (fun r hr => .inl hr))
    have HX : Hid (gt l' n = gt h i) := Lib.hid (by rw [q3 n (Nat.le_refl _), hgn])
    have HPR := Lib.hid (q1.trans HPN.out)
    have hll : l'.length = n + 1 := by omega
    cases b with
    | true =>
      have HH := Lib.hid (q6 rfl)
      have mP := m_pop w3 ⟨g, 0, none⟩
      have PC := Lib.hid (pop_calls g (.slice a (n + 1) c) last (l'.take n) (gt h i) w3 (by rw [← HX.out, ← last_split hll]; exact HP3.out) (by rw [List.length_take]; omega))
      clear q1 q2 q3 q4 q5 q6 q7 DC HP2 HM2 HPN hgn hsl HD
      go_wp2_with fail
      (with_reducible refine PC.out.mono ?_)
      rintro e w4 ⟨rfl, ha⟩
      have HF := Lib.hid (hq_of hll HPR.out HX.out HH.out HM3.out HP3.out ha)
      clear ha
      go_wp2_with fail
      go_ret
      exact ⟨rfl, HF.out⟩
    | false =>
      obtain ⟨e1, e2⟩ := q7 rfl
      have UC := Lib.hid (up_calls g (.slice a (n + 1) c) last l' n i w3 q4 (by omega) (by omega) hilt (by rw [e1]; exact HD.out.toUp e2))
      clear q1 q2 q3 q4 q5 q6 q7 DC HP2 HM2 HPN hgn hsl HD e1 e2
      go_wp2_with fail
      (with_reducible refine UC.out.mono ?_)
      rintro e w4 ⟨rfl, l2, r1, r2, r3, r4, r5, r6⟩
      have HP4 := Lib.hid r5
      have HM4 := Lib.hid (HM3.out.trans r6 (R := (Value.slice a (n + 1) c).ownBlock.toList) (fun r hr => .inl hr))
      have HX4 : Hid (gt l2 n = gt h i) := Lib.hid (by rw [r4 n (Nat.le_refl _), HX.out])
      have HPR4 := Lib.hid (r1.trans HPR.out)
      have HH4 := Lib.hid r3
      have hll4 : l2.length = n + 1 := by omega
      have mP := m_pop w4 ⟨g, 0, none⟩
      have PC := Lib.hid (pop_calls g (.slice a (n + 1) c) last (l2.take n) (gt h i) w4 (by rw [← HX4.out, ← last_split hll4]; exact HP4.out) (by rw [List.length_take]; omega))
      clear r1 r2 r3 r4 r5 r6 UC HP3 HM3 HX HPR
      go_wp2_with fail
      (with_reducible refine PC.out.mono ?_)
      rintro e w5 ⟨rfl, ha⟩
      have HF := Lib.hid (hq_of hll4 HPR4.out HX4.out HH4.out HM4.out HP4.out ha)
      clear ha
      go_wp2_with fail
      go_ret
      exact ⟨rfl, HF.out⟩
end Go.Proofs.Ytgmenlfhkhdbdaa.Ag
