/- Tables of sessions: New, find, Open. -/
import Derived.Test.YtcbafomhifdgpaaSs2
namespace Go.Proofs.Ytcbafomhifdgpaa.Ss
open Go.RowKit Mem Si
set_option linter.unusedSimpArgs false
set_option linter.unusedVariables false
set_option maxRecDepth 100000

theorem search_nil (id : Int) (w : World) :
    Calls Try.prog 70 #[.slice none 0 0, .int .i64 id, .func (.func 71) #[] #[]] w
      fun e w' => e = .returned (.tuple #[.int .i64 (0 : Nat), .bool false]) ∧ w = w' := by
  go_enter Try.func70, Try.ntmps70
  go_wp2_with fail
  go_loopw [9, 10] (fun vl vh wr => vl = .int .i64 0 ∧ vh = .int .i64 0 ∧ w = wr) (fun vl vh _ => (intOf vh - intOf vl).toNat)
  case atStart => exact ⟨rfl, rfl, rfl⟩
  case round =>
    obtain ⟨rfl, rfl, rfl⟩ := hrel
    go_wp2
    go_ret2
    exact ⟨rfl, rfl⟩

def T1 : Nat := 101
/-- A table in memory: its own block t, and its row v. -/
def TabAt (w : World) (t : Nat) (v : Value) (l : List Sn) : Prop := Blk w t #[v] 101 ∧ RowsAt w (t + 1) v l
theorem TabAt.mod {w w' : World} {t : Nat} {v : Value} {l : List Sn} {R : List Nat} (h : TabAt w t v l) (m : Mod w w' R) (ht : t ∉ R) (hR : ∀ k, v.ownBlock = some k → k ∉ R) : TabAt w' t v l := ⟨h.1.mod m ht, h.2.mod m hR⟩
theorem TabAt.own {w : World} {t : Nat} {v : Value} {l : List Sn} (h : TabAt w t v l) : ∀ k, v.ownBlock = some k → t < k ∧ k < w.heap.size := fun k hk => ⟨by have := own_ge h.2 k hk; omega, Rw.own_lt h.2 k hk⟩
def TabP (t : Nat) (v : Value) (l' : List Sn) (w w' : World) : Prop :=
  ∃ v', TabAt w' t v' l' ∧ Mod w w' (t :: v.ownBlock.toList) ∧ ∀ k, v'.ownBlock = some k → v.ownBlock = some k ∨ w.heap.size ≤ k
theorem TabP.same {w w' : World} {t : Nat} {v : Value} {l : List Sn} (h : TabAt w t v l) (m : Mod w w' []) : TabP t v l w w' :=
  ⟨v, h.mod m (by simp) (by simp), m.weak0, fun k hk => .inl hk⟩

theorem new_calls (w : World) : Calls Try.prog 20 #[] w fun e w' => e = .returned (.pointer (some ⟨w.heap.size, 0, none⟩)) ∧ w' = w.alloc (.cells #[.slice none 0 0] 101) := by
  go_enter Try.func20, Try.ntmps20
  go_wp2
  go_ret
  exact ⟨rfl, rfl⟩
theorem new_tab (w : World) : TabAt (w.alloc (.cells #[.slice none 0 0] 101)) w.heap.size (.slice none 0 0) [] := ⟨Blk.new _ _ _, World.ownsRow_nil _ _ _ _⟩

theorem find_calls (t : Nat) (v : Value) (l : List Sn) (id : Int) (w : World) (h : TabAt w t v l) (hn : l.length ≤ 1000) (hu : Up l) :
    Calls Try.prog 54 #[.pointer (some ⟨t, 0, none⟩), .int .i64 id] w fun e w' => e = .returned (.tuple #[.int .i64 (pos l id), .bool (has l id)]) ∧ Mod w w' [] := by
  have C : Hid (Calls Try.prog 70 #[v, .int .i64 id, .func (.func 71) #[] #[]] w fun e w' => e = .returned (.tuple #[.int .i64 (pos l id), .bool (has l id)]) ∧ Mod w w' []) := by
    refine Lib.hid ?_
    rcases h.2.shape with ⟨rfl, rfl⟩ | ⟨g, cap, rfl, h1, h2, h3, h4⟩
    · refine (search_nil id w).mono ?_
      rintro e w1 ⟨rfl, rfl⟩
      exact ⟨rfl, Mod.refl _ _⟩
    · exact search_row g cap l id w (Rw.own_lt h.2 g rfl) hn hu h4
  have c0 := h.1.cell 0
  obtain ⟨a, c, rfl⟩ := Rw.own_slice h.2
  generalize pos l id = p at *
  generalize has l id = q at *
  clear h
  go_enter Try.func54, Try.ntmps54
  go_wp2_with fail
  (with_reducible refine (C.out).mono ?_)
  rintro e w1 ⟨rfl, hm1⟩
  have HM1 := Lib.hid hm1
  clear hm1
  go_wp2_with fail
  go_ret2
  exact ⟨rfl, HM1.out⟩

def insL (l : List Sn) (s : Sn) : List Sn := l.take (pos l s.1) ++ [s] ++ l.drop (pos l s.1)
theorem insL_len (l : List Sn) (s : Sn) : (insL l s).length = l.length + 1 := by
  have := pos_le l s.1
  simp [insL]; omega
def openL (l : List Sn) (id : Int) : List Sn × Int := if numB id = false then (l, 1) else if has l id = true then (l, 9) else if 32 ≤ l.length then (l, 7) else (insL l (id, 0), 0)

theorem errno_ret {a b : Int} (h : a = b) : Ending.returned (.int .i64 a) = Ending.returned (.int .i64 b) := by rw [h]

set_option maxHeartbeats 1000000 in
theorem open_calls (t : Nat) (v : Value) (l : List Sn) (id : Int) (w : World) (h : TabAt w t v l) (hn : l.length ≤ 1000) (hu : Up l) :
    Calls Try.prog 22 #[.pointer (some ⟨t, 0, none⟩), .int .i64 id] w fun e w' => e = .returned (.int .i64 (openL l id).2) ∧ TabP t v (openL l id).1 w w' := by
  have N := Lib.hid (fun w => number_calls id w)
  have F := Lib.hid (fun w hw => find_calls t v l id w hw hn hu)
  have HT := Lib.hid h
  obtain ⟨a, c, hv⟩ := Rw.own_slice h.2
  have hle := pos_le l id
  unfold openL
  cases hb : numB id with
  | false =>
    rw [if_pos rfl]
    rw [hb] at N
    clear h hv
    go_enter Try.func22, Try.ntmps22
    go_wp2_with fail
    (with_reducible refine (N.out _).mono ?_)
    rintro e w1 ⟨rfl, rfl⟩
    go_wp2_with fail
    go_ret
    exact ⟨rfl, TabP.same HT.out (Mod.refl _ _)⟩
  | true =>
    rw [hb] at N
    rw [if_neg (by simp)]
    cases hh : has l id with
    | true =>
      rw [if_pos rfl]
      rw [hh] at F
      clear h hv
      go_enter Try.func22, Try.ntmps22
      go_wp2_with fail
      (with_reducible refine (N.out _).mono ?_)
      rintro e w1 ⟨rfl, rfl⟩
      go_wp2_with fail
      (with_reducible refine (F.out _ HT.out).mono ?_)
      rintro e w1 ⟨rfl, hm1⟩
      have HM1 := Lib.hid hm1
      clear hm1
      go_wp2_with fail
      go_ret
      exact ⟨rfl, TabP.same HT.out HM1.out⟩
    | false =>
      rw [if_neg (by simp)]
      rw [hh] at F
      have HL := Lib.hid (show insL l (id, 0) = l.take (pos l id) ++ [((id, 0) : Sn)] ++ l.drop (pos l id) from rfl)
      have HRP := Lib.hid (rowsC_put l (pos l id) hle (id, 0))
      have hil := insL_len l (id, 0)
      have INS := Lib.hid (fun (W : World) (vb : Nat) (hr : RowsAt W (t + 1) v l) hb hB hne => ins_calls (t + 1) vb l.length (pos l id) v (rowsC l) (.int .i64 id) (.int .i64 0) W hr hb hB hne hle hn (rowsC_one l) rfl rfl)
      generalize pos l id = p at *
      by_cases h32 : 32 ≤ l.length
      · rw [if_pos h32]
        have h32' : (32 : Int) ≤ l.length := by omega
        rcases HT.out.2.shape with ⟨rfl, h0⟩ | ⟨g, cap, rfl, h1, h2, h3, h4⟩
        · have h0' : l.length = 0 := by rw [h0]; rfl
          omega
        · clear h hv h4 h1
          go_enter Try.func22, Try.ntmps22
          go_wp2_with fail
          (with_reducible refine (N.out _).mono ?_)
          rintro e w1 ⟨rfl, rfl⟩
          go_wp2_with fail
          (with_reducible refine (F.out _ HT.out).mono ?_)
          rintro e w1 ⟨rfl, hm1⟩
          have HM1 := Lib.hid hm1
          have c0 := (HT.out.1.mod hm1 (by simp)).cell 0
          clear hm1
          go_wp2_with fail
          go_ret
          exact ⟨rfl, TabP.same HT.out HM1.out⟩
      · rw [if_neg h32]
        have h32' : (l.length : Int) < 32 := by omega
        rw [hv] at F INS
        have HV := Lib.hid hv
        clear h hv
        go_enter Try.func22, Try.ntmps22
        go_wp2_with fail
        (with_reducible refine (N.out _).mono ?_)
        rintro e w1 ⟨rfl, rfl⟩
        go_wp2_with fail
        (with_reducible refine (F.out _ (HV.out ▸ HT.out)).mono ?_)
        rintro e w1 ⟨rfl, hm1⟩
        have HM1 := Lib.hid hm1
        have HT1 : Hid (TabAt w1 t (.slice a l.length c) l) := Lib.hid (HV.out ▸ HT.out.mod hm1 (by simp) (by simp))
        have c0 := HT1.out.1.cell 0
        have hml := HM1.out.size
        clear hm1
        have HI := Lib.hid (INS.out (w1.alloc (.cells #[.int .i64 id, .int .i64 0] 107)) w1.heap.size (HT1.out.2.alloc _) (by have := HT1.out.1.lt; simp; omega) (Blk.new _ _ _) (fun e => by have := (HT1.out.own _ e).2; omega))
        go_wp2_with fail
        (with_reducible refine (HI.out).mono ?_)
        rintro e w2 ⟨v', rfl, hown, hgrow, hwh⟩
        have HW := Lib.hid hwh
        clear hwh
        have HO2 := Lib.hid hown
        have HG2 := Lib.hid hgrow
        have ht1 := HT1.out.1.lt
        have HB2 := Lib.hid (Rw.blk_grown (HT1.out.1.alloc (.cells #[.int .i64 id, .int .i64 0] 107)) hgrow (fun e => by have := (HT1.out.own _ e.symm).1; omega))
        have d0 := HB2.out.cell 0
        have f0 := HB2.out.free 0
        clear hown hgrow c0
        obtain ⟨a', c', hv'⟩ := Rw.own_slice HO2.out
        have HV' := Lib.hid hv'
        subst hv'
        go_wp2_with fail
        go_ret
        refine ⟨rfl, .slice a' (l.length + 1) c', ⟨?_, ?_⟩, ?_, ?_⟩
        · have := HB2.out.set 0 (.slice a' (l.length + 1) c')
          simpa using this
        · have h := HO2.out
          rw [show ([.int .i64 id, .int .i64 0] : List Value) = rowC (id, 0) from rfl, HRP.out, ← HL.out] at h
          unfold RowsAt
          rw [hil]
          exact own_mod h ((Mod.refl w2 [t]).setCell (by simp) _) (fun k hk => by have := own_ge HO2.out k hk; simp; omega)
        · rw [HV.out]
          exact ((HM1.out.weak0.alloc _).grown HG2.out (fun k hk => .inl (by rw [hk]; simp))).setCell (by simp) _
        · intro k hk
          rw [HV.out]
          rcases HW.out k hk with h | h
          · exact .inl h
          · exact .inr (by simp at h; omega)
end Go.Proofs.Ytcbafomhifdgpaa.Ss
