/- The contract of keep.Write. -/
import Derived.Test.YtcbafomhifdgpaaKe2
import Derived.Test.YtcbafomhifdgpaaSb
namespace Go.Proofs.Ytcbafomhifdgpaa.Ke
open Go.RowKit Mem Bits
set_option linter.unusedSimpArgs false
set_option linter.unusedVariables false
set_option maxRecDepth 100000

abbrev AtS (w : World) (B b : Nat) (s : ByteArray) : Prop := Sb.At w B b (Lib.strCells s)
theorem strCells_app (a b : ByteArray) : Lib.strCells (a ++ b) = Lib.strCells a ++ Lib.strCells b := by
  unfold Lib.strCells
  rw [ByteArray.data_append, Array.toList_append, List.map_append]
def putS (s : ByteArray) (l : List Int) : ByteArray := l.foldl (fun s n => s ++ numI n) s
theorem putS_snoc (s : ByteArray) (l : List Int) (x : Int) : putS s (l ++ [x]) = putS s l ++ numI x := by unfold putS; rw [List.foldl_append]; rfl
theorem putS_size (s : ByteArray) (l : List Int) : (putS s l).size ≤ s.size + l.length * 9 := by
  unfold putS
  induction l generalizing s with
  | nil => simp
  | cons x l ih =>
    have h1 := ih (s ++ numI x)
    have h2 := (numI_size x).2
    rw [ByteArray.size_append] at h1
    rw [List.foldl_cons, List.length_cons]
    omega

set_option maxHeartbeats 2000000 in
theorem put_calls (B b k n : Nat) (s : ByteArray) (l : List Int) (w : World) (hl : ∀ x ∈ l, 0 ≤ x ∧ x ≤ 9223372036854775807) (hlen : s.size + l.length * 9 ≤ 140737488355328) (hn : l.length ≤ 1000) (hB : B ≤ w.heap.size) (ha : AtS w B b s)
    (hk : Blk w k (l.map (Value.int .i64)).toArray 3) (hkb : k ≠ b) (hln : l.length = n) :
    Calls Try.prog 37 #[.slice (some ⟨k, 0, none⟩) n n, .pointer (some ⟨b, 0, none⟩)] w fun e w' => e = .returned (.tuple #[]) ∧ AtS w' B b (putS s l) ∧ Sb.Wr B b w w' := by
  have hn' : (l.length : Int) ≤ 1000 := by omega
  subst hln
  have HA := Lib.hid ha
  have HK := Lib.hid hk
  have HL := Lib.hid hl
  clear ha hk hl
  go_enter Try.func37, Try.ntmps37
  go_wp2_with fail
  go_loopw [7] (fun vi wr => ∃ i : Nat, i ≤ l.length ∧ vi = .int .i64 (i : Int) ∧ AtS wr B b (putS s (l.take i)) ∧ Sb.Wr B b w wr) (fun vi _ => l.length + 1 - (intOf vi).toNat)
  case atStart => exact ⟨0, Nat.zero_le _, rfl, HA.out, Sb.Wr.refl _ _ _⟩
  case round =>
    obtain ⟨i, hi, rfl, hat, hwr⟩ := hrel
    have HT := Lib.hid hat
    have HW := Lib.hid hwr
    have hsz := hwr.below.size
    clear hat hwr
    by_cases hlt : i < l.length
    · have hlt' : (i : Int) < l.length := by omega
      have hbk := HW.out.keep _ _ _ HK.out (by decide) hkb
      have hc := hbk.cell i
      simp [hlt] at hc
      have hx := HL.out _ (List.getElem_mem hlt)
      have HS := Lib.hid (show putS s (l.take (i + 1)) = putS s (l.take i) ++ numI (l[i]'hlt) by rw [List.take_succ_eq_append_getElem hlt, putS_snoc])
      have hsi := putS_size s (l.take i)
      have hti : (l.take i).length = i := by rw [List.length_take]; omega
      have h9 := (numI_size (l[i]'hlt)).2
      have NC := Lib.hid (fun w => num_calls (l[i]'hlt).toNat (by omega) w)
      have HN : Hid (numI (l[i]'hlt) = Bt.numS (l[i]'hlt).toNat) := Lib.hid rfl
      rw [Int.toNat_of_nonneg hx.1, ← HN.out] at NC
      have WC := Lib.hid (fun w (h : B ≤ w.heap.size) ha => Sb.write_calls B b (Lib.strCells (putS s (l.take i))) (numI (l[i]'hlt)) w ha (by rw [Lib.strCells_length]; omega) h)
      clear HN
      generalize putS s (l.take i) = S at *
      generalize l[i]'hlt = x at *
      generalize numI x = X at *
      obtain ⟨hx0, hx1⟩ := hx
      have hw := IntWalk.u64_in x (by omega)
      clear hbk
      go_wp2_with fail
      (with_reducible refine (NC.out _).mono ?_)
      rintro e w1 ⟨rfl, hm1⟩
      have HW1 := Lib.hid (HW.out.trans (Sb.Wr.mod (by omega) hm1))
      have HT1 := Lib.hid (Sb.at_mod HT.out hm1)
      have hsz1 := hm1.size
      clear hm1
      go_wp2_with fail
      (with_reducible refine (WC.out _ (by omega) HT1.out).mono ?_)
      rintro e w2 ⟨rfl, ha2, hw2⟩
      have HW2 := Lib.hid (HW1.out.trans hw2)
      have HT2 : Hid (AtS w2 B b (S ++ X)) := Lib.hid (by unfold AtS; rw [strCells_app]; exact ha2)
      clear ha2 hw2
      go_wp2_with fail
      go_roundw
      case rel => exact ⟨i + 1, by omega, by go_num, by rw [HS.out]; exact HT2.out, HW2.out⟩
      case measure => simp [intOf]; omega
    · have hge : (l.length : Int) ≤ i := by omega
      have HS := Lib.hid (show l.take i = l by rw [List.take_of_length_le (by omega)])
      rw [HS.out] at HT
      go_wp2_with fail
      go_end0
      exact ⟨rfl, HT.out, HW.out⟩
/-! Plain facts of the text. -/
theorem nil_app (s : ByteArray) : (⟨#[]⟩ : ByteArray) ++ s = s := by
  apply ByteArray.ext; apply Array.ext'; rw [ByteArray.data_append, Array.toList_append]; rfl
theorem headT_put (t : Trk) : putS ⟨#[]⟩ [t.c, t.st, t.lo, (t.rs.length : Int)] = headT t := by
  show (((⟨#[]⟩ ++ numI t.c) ++ numI t.st) ++ numI t.lo) ++ numI t.rs.length = _
  rw [nil_app]; rfl
theorem runS_put (s : ByteArray) (r : Run) : putS (putS s [r.b, r.st, r.s] ++ Bt.numS r.seen) [(r.ps.length : Int)] = runS s r := rfl
theorem difS_put (ps : List Int) (k : Nat) (s : ByteArray) : putS (difS ps k s) [gi ps (k + 1) - gi ps k - 1] = difS ps (k + 1) s := rfl
theorem run_vals {r : Run} (h : RunP r) : ∀ i, i < r.ps.length → 0 ≤ gi r.ps i ∧ gi r.ps i ≤ 549755813888 := by
  have hr := (risB_iff _).1 h.ris
  have lo : ∀ i, i < r.ps.length → 0 ≤ gi r.ps i := by
    intro i
    induction i with
    | zero => intro _; rw [h.first]; exact h.b0
    | succ i ih => intro hi; have := hr i hi; have := ih (by omega); omega
  have up : ∀ d, d < r.ps.length → gi r.ps (r.ps.length - 1 - d) ≤ 549755813888 := by
    intro d
    induction d with
    | zero => intro _; exact h.last
    | succ d ih =>
      intro hd
      have h1 := hr (r.ps.length - 1 - (d + 1)) (by omega)
      rw [show r.ps.length - 1 - (d + 1) + 1 = r.ps.length - 1 - d by omega] at h1
      have := ih (by omega)
      omega
  intro i hi
  have := up (r.ps.length - 1 - i) (by omega)
  rw [show r.ps.length - 1 - (r.ps.length - 1 - i) = i by omega] at this
  exact ⟨lo i hi, this⟩
theorem runS_size (s : ByteArray) (r : Run) : (runS s r).size ≤ s.size + 45 := by
  have h1 := (numI_size r.b).2
  have h2 := (numI_size r.st).2
  have h3 := (numI_size r.s).2
  have h4 := Bt.numS_size_le r.seen
  have h5 := (numI_size r.ps.length).2
  unfold runS
  simp only [ByteArray.size_append]
  omega
theorem difS_size (ps : List Int) (k : Nat) (s : ByteArray) : (difS ps k s).size ≤ s.size + k * 9 := by
  induction k with
  | zero => exact Nat.le_refl _
  | succ k ih =>
    have h1 := (numI_size (gi ps (k + 1) - gi ps k - 1)).2
    show (difS ps k s ++ _).size ≤ _
    rw [ByteArray.size_append]; omega
theorem trkT_size (t : Trk) (h : ∀ r ∈ t.rs, RunP r) : ∀ i, i ≤ t.rs.length → (trkT t i).size ≤ 36 + i * 180 := by
  intro i
  induction i with
  | zero =>
    intro _
    have h1 := (numI_size t.c).2
    have h2 := (numI_size t.st).2
    have h3 := (numI_size t.lo).2
    have h4 := (numI_size t.rs.length).2
    show (headT t).size ≤ _
    unfold headT
    simp only [ByteArray.size_append]
    omega
  | succ i ih =>
    intro hi
    have h0 := ih (by omega)
    rw [trkT_succ t i (by omega)]
    have h1 := runS_size (trkT t i) (t.rs[i]'(by omega))
    have h2 := difS_size (t.rs[i]'(by omega)).ps ((t.rs[i]'(by omega)).ps.length - 1) (runS (trkT t i) (t.rs[i]'(by omega)))
    have h3 := (h _ (List.getElem_mem (show i < t.rs.length by omega))).n1
    unfold runT
    omega
theorem trkT_pos (t : Trk) (i : Nat) : 1 ≤ (trkT t i).size := by
  have hd : ∀ (ps : List Int) (k : Nat) (s : ByteArray), s.size ≤ (difS ps k s).size := by
    intro ps k s
    induction k with
    | zero => exact Nat.le_refl _
    | succ k ih => show s.size ≤ (difS ps k s ++ _).size; rw [ByteArray.size_append]; omega
  have hr : ∀ (s : ByteArray) (r : Run), s.size ≤ (runT s r).size := by
    intro s r
    have := hd r.ps (r.ps.length - 1) (runS s r)
    have h2 : s.size ≤ (runS s r).size := by unfold runS; simp only [ByteArray.size_append]; omega
    unfold runT; omega
  have hf : ∀ (l : List Run) (s : ByteArray), s.size ≤ (l.foldl runT s).size := by
    intro l
    induction l with
    | nil => intro s; exact Nat.le_refl _
    | cons r l ih => intro s; exact Nat.le_trans (hr s r) (ih _)
  have h0 : 1 ≤ (headT t).size := by
    have := (numI_size t.c).1
    unfold headT; simp only [ByteArray.size_append]; omega
  exact Nat.le_trans h0 (hf _ _)

end Go.Proofs.Ytcbafomhifdgpaa.Ke
