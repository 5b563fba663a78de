/- A message's text: plain; the closure that writes numbers. -/
import Derived.Test.YtgmenlfhkhdbdaaRa5
import Derived.Test.YtgmenlfhkhdbdaaHe
namespace Go.Proofs.Ytgmenlfhkhdbdaa.Ra
open Go.RowKit Mem Bits
set_option linter.unusedSimpArgs false
set_option linter.unusedVariables false
set_option maxRecDepth 100000

theorem blk_ne {w : World} {g k : Nat} {cs cs' : Array Value} {t t' : TypeId} (h : Blk w g cs t) (h' : Blk w k cs' t') (ht : t ≠ t') : g ≠ k := by
  rintro rfl
  unfold Blk at h h'
  rw [h] at h'
  injection h' with h'
  injection h' with _ h' _
  exact ht h'
def numI (n : Int) : ByteArray := Bt.numS n.toNat
theorem numI_size (n : Int) : 1 ≤ (numI n).size ∧ (numI n).size ≤ 9 := by
  unfold numI; exact ⟨Bt.numS_size_pos _, Bt.numS_size_le _⟩
theorem nil_app (s : ByteArray) : (⟨#[]⟩ : ByteArray) ++ s = s := by
  apply ByteArray.ext; apply Array.ext'; rw [ByteArray.data_append, Array.toList_append]; rfl
/-- Numbers, one behind the other. -/
def putL (s : ByteArray) (l : List Int) : ByteArray := l.foldl (fun s n => s ++ numI n) s
theorem putL_snoc (s : ByteArray) (l : List Int) (x : Int) : putL s (l ++ [x]) = putL s l ++ numI x := by unfold putL; rw [List.foldl_append]; rfl
theorem putL_size (s : ByteArray) (l : List Int) : s.size ≤ (putL s l).size ∧ (putL s l).size ≤ s.size + l.length * 9 := by
  unfold putL
  induction l generalizing s with
  | nil => simp
  | cons x l ih =>
    have h1 := ih (s ++ numI x)
    have h2 := numI_size x
    rw [ByteArray.size_append] at h1
    rw [List.foldl_cons, List.length_cons]
    omega
theorem numI_calls (x : Int) (hx : 0 ≤ x ∧ x ≤ 9223372036854775807) (w : World) : Calls Try.prog 62 #[.int .u64 x] w fun e w' => e = .returned (.string (numI x)) ∧ Mod w w' [] := by
  have h := num_calls x.toNat (by omega) w
  rw [Int.toNat_of_nonneg hx.1] at h
  exact h
abbrev IntsG (w : World) (g : Nat) (l : List Int) : Prop := Blk w g (l.map (Value.int .i64)).toArray 3
theorem ints_g (w : World) (l : List Int) : IntsG (w.alloc (.cells (l.map (Value.int .i64)).toArray 3)) w.heap.size l := Blk.new w _ _
set_option maxHeartbeats 4000000 in
theorem put_calls (b g : Nat) (s : ByteArray) (l : List Int) (w : World) (hb : Blk w b #[.string s] 9) (hg : IntsG w g l) (hl : ∀ x ∈ l, 0 ≤ x ∧ x ≤ 9223372036854775807) (hn : l.length ≤ 100) (hs : s.size ≤ 1000000000) :
    Calls Try.prog 61 #[.slice (some ⟨g, 0, none⟩) l.length l.length, .pointer (some ⟨b, 0, none⟩)] w fun e w' => e = .returned (.tuple #[]) ∧ Mod w w' [b] ∧ Blk w' b #[.string (putL s l)] 9 := by
  have HG := Lib.hid hg
  have HB := Lib.hid hb
  have hbl := hb.lt
  have hgb := blk_ne hg hb (by decide)
  have HL := Lib.hid hl
  have hn' : (l.length : Int) ≤ 100 := by omega
  clear hg hb hl
  go_enter Try.func61, Try.ntmps61
  go_wp2_with fail
  go_loopw [7] (fun vi wr => ∃ i : Nat, i ≤ l.length ∧ vi = .int .i64 (i : Int) ∧ Mod w wr [b] ∧ Blk wr b #[.string (putL s (l.take i))] 9) (fun vi _ => l.length + 1 - (intOf vi).toNat)
  case atStart => exact ⟨0, Nat.zero_le _, rfl, Mod.refl _ _, by rw [List.take_zero]; exact HB.out⟩
  case round =>
    obtain ⟨i, hi, rfl, hm, hbi⟩ := hrel
    have HM := Lib.hid hm
    have HBI := Lib.hid hbi
    have HGI := Lib.hid (HG.out.mod hm (by simpa using hgb))
    clear hm hbi
    by_cases hlt : i < l.length
    · have hlt' : (i : Int) < l.length := by omega
      have c0 : wr.cell? ⟨g, i, none⟩ = some (.int .i64 (l[i]'hlt)) := by rw [HGI.out.cell]; simp [hlt]
      have hx := HL.out _ (List.getElem_mem hlt)
      have HS : Hid (putL s (l.take (i + 1)) = putL s (l.take i) ++ numI (l[i]'hlt)) := Lib.hid (by rw [← putL_snoc, List.take_add_one, List.getElem?_eq_getElem hlt]; rfl)
      have hz := putL_size s (l.take i)
      rw [List.length_take] at hz
      have hz2 : (putL s (l.take i)).size ≤ 1000001000 := by omega
      clear hz
      generalize l[i]'hlt = x at *
      generalize putL s (l.take i) = s1 at *
      have NC := Lib.hid (fun w => numI_calls x hx w)
      have hcat : ¬ 9223372036854775807 < s1.size + (numI x).size := by have := (numI_size x).2; omega
      have hwx := IntWalk.u64_in x (by omega)
      go_wp2_with fail
      refine He.wp_region_e 5 (fun w' => w'.cell? ⟨b, 0, none⟩ = some (.string s1)) (by kernel_rfl) (HBI.out.cell 0) (fun S0 => ?_)
      have HBd := Lib.hid HBI.out.drew
      have HMd := Lib.hid HM.out.drew
      generalize wr.drew = wd at *
      refine He.wpE_take (i := 0) (v := ?_) rfl (by kernel_rfl) (by kernel_rfl) (by kernel_rfl) (by kernel_rfl) (by kernel_rfl) (fun _ _ _ h => h) (by rfl) ?_ (by assumption) ?_
      rotate_left
      · (intro w' hSw; (try dsimp only at hSw); go_simp; first | done | with_reducible rfl)
      try simp only [List.getElem_toArray, List.getElem_cons_succ, List.getElem_cons_zero, Act.put, List.setIfInBounds_toArray, List.set_cons_zero, List.set_cons_succ]
      refine He.wpE_take (i := 1) (v := ?_) rfl (by kernel_rfl) (by kernel_rfl) (by kernel_rfl) (by kernel_rfl) (by kernel_rfl) (fun _ _ _ h => h) (by rfl) ?_ (by assumption) ?_
      rotate_left
      · (intro w' hSw; (try dsimp only at hSw); go_simp; first | done | with_reducible rfl)
      try simp only [List.getElem_toArray, List.getElem_cons_succ, List.getElem_cons_zero, Act.put, List.setIfInBounds_toArray, List.set_cons_zero, List.set_cons_succ]
      refine He.wpE_take (i := 2) (v := ?_) rfl (by kernel_rfl) (by kernel_rfl) (by kernel_rfl) (by kernel_rfl) (by kernel_rfl) (fun _ _ _ h => h) (by rfl) ?_ (by assumption) ?_
      rotate_left
      · (intro w' hSw; (try dsimp only at hSw); go_simp; first | done | with_reducible rfl)
      try simp only [List.getElem_toArray, List.getElem_cons_succ, List.getElem_cons_zero, Act.put, List.setIfInBounds_toArray, List.set_cons_zero, List.set_cons_succ]
      refine He.wpE_one (i := 3) (by kernel_rfl) rfl (by rfl) (fun K hK => ?_)
      go_simp
      (with_reducible refine (NC.out _).mono ?_)
      rintro e w3 ⟨rfl, hm3⟩
      have HB3 := Lib.hid (HBd.out.mod hm3 (by simp))
      have HM3 := Lib.hid (HMd.out.trans0 hm3)
      refine hK.out _ _ (fun _ => HB3.out.cell 0) ?_
      have S3 : w3.cell? ⟨b, 0, none⟩ = some (.string s1) := HB3.out.cell 0
      clear hK K hm3 S0
      try simp only [Act.put, List.setIfInBounds_toArray, List.set_cons_zero, List.set_cons_succ]
      refine He.wpE_take (i := 4) (v := ?_) rfl (by kernel_rfl) (by kernel_rfl) (by kernel_rfl) (by kernel_rfl) (by kernel_rfl) (fun _ _ _ h => h) (by rfl) ?_ (by assumption) ?_
      rotate_left
      · (intro w' hSw; (try dsimp only at hSw); go_simp; first | done | with_reducible rfl)
      try simp only [List.getElem_toArray, List.getElem_cons_succ, List.getElem_cons_zero, Act.put, List.setIfInBounds_toArray, List.set_cons_zero, List.set_cons_succ]
      have f3 := HB3.out.free 0
      have g3 := HB3.out.cell 0
      refine He.wpE_one (i := 5) (by kernel_rfl) rfl (by rfl) (fun K hK => ?_)
      go_simp
      refine hK.out _ _ (fun h => absurd rfl h) ?_
      clear hK K
      refine He.wpE_done (by kernel_rfl) ?_
      try simp only [Act.put, List.setIfInBounds_toArray, List.set_cons_zero, List.set_cons_succ]
      have HB4 := Lib.hid (HB3.out.set 0 (.string (s1 ++ numI x)))
      have HM4 := Lib.hid (HM3.out.setCell (p := ⟨b, 0, none⟩) (.inl (by simp)) (.string (s1 ++ numI x)))
      clear S3 f3 g3
      go_wp2_with fail
      go_roundw
      case rel => exact ⟨i + 1, by omega, by go_num, HM4.out, by rw [HS.out]; exact HB4.out⟩
      case measure => simp [intOf]; omega
    · have hge : (l.length : Int) ≤ i := by omega
      have HS : Hid (l.take i = l) := Lib.hid (List.take_of_length_le (by omega))
      go_wp2_with fail
      go_end0
      exact ⟨rfl, HM.out, by have := HBI.out; rw [HS.out] at this; exact this⟩
end Go.Proofs.Ytgmenlfhkhdbdaa.Ra
