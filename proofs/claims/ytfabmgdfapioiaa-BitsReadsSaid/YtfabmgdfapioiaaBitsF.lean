/- The law BitsReads. -/
import Derived.Test.YtfabmgdfapioiaaBitsE
import Derived.Test.YtfabmgdfapioiaaRd
namespace Go.Proofs.Ytfabmgdfapioiaa.Bits
open Go.RowKit Mem
set_option linter.unusedSimpArgs false
set_option linter.unusedVariables false
set_option maxRecDepth 100000
attribute [local go_sem ↓] Go.wp_at_zero Go.wp_at_succ
theorem u8_rd {w : World} {a : Value} (h : Open.Rd w (.sl (.int .u8) 1) [a]) : ∃ (l : List Nat) (ad : Option Addr) (cap : Nat), a = .slice ad l.length cap ∧ l.length ≤ 140737488351232 ∧ (∀ x ∈ l, x < 256) ∧
    (l = [] ∨ ∃ b off, ad = some ⟨b, off, none⟩ ∧ ∀ k (hk : k < l.length), w.cell? ⟨b, off + k, none⟩ = some (.int .u8 l[k])) := by
  obtain ⟨v, rows, hv, ⟨ad, cap, rfl, hc1, hc2, hn, hpos, hcell⟩, hlen, hl1, hrd⟩ := h
  obtain rfl : a = _ := by simpa using hv
  obtain ⟨l, rfl, hl⟩ := Open.rows_map (rows := rows) (fun n : Nat => [Value.int .u8 n]) (fun n => n < 256) (fun r hr => by
    obtain ⟨n, rfl, hwf⟩ := hrd r hr
    obtain ⟨h0, h1⟩ : 0 ≤ n ∧ n ≤ 255 := by simpa [Lit.wf, IntKind.min, IntKind.max, IntKind.signed, IntKind.bits] using hwf
    exact ⟨n.toNat, by rw [Int.toNat_of_nonneg h0], by omega⟩)
  refine ⟨l, ad, cap, by simp, by simpa using hlen, hl, ?_⟩
  by_cases h0 : l = []
  · exact .inl h0
  · obtain ⟨b, off, rfl⟩ := hpos (by simpa using h0) (by decide)
    refine .inr ⟨b, off, rfl, fun k hk => ?_⟩
    have := (hcell b off rfl k (by simpa using hk) 0 (by decide)).1
    simpa [Open.Sh.cells] using this

theorem cell_lt {w : World} {p : Addr} {v : Value} (h : w.cell? p = some v) : p.block < w.heap.size := by
  by_cases hg : p.block < w.heap.size
  · exact hg
  · unfold World.cell? at h
    rw [Array.getElem?_eq_none (by omega)] at h
    cases h
theorem keepC {a b : World} (m : Mod a b []) {p : Addr} {u : Value} (h : a.cell? p = some u) : b.cell? p = some u := (m.cell (cell_lt h) (by simp)).trans h

theorem endE_size {s : ByteArray} {e : Int} : endE s e = endE s e := rfl
theorem behS_size (k : Nat) (s : ByteArray) (e most : Int) : (behS k s e most).size ≤ s.size := by
  unfold behS
  repeat' split
  · exact tS_size s e
  · exact tS_size s e
  · unfold realR; repeat' split
    all_goals dsimp only
    all_goals (first | omega | (rw [ByteArray.size_extract]; omega))
  · unfold textR; repeat' split
    all_goals dsimp only
    all_goals (first | omega | (rw [ByteArray.size_extract]; omega))
  · unfold flagR; repeat' split
    all_goals dsimp only
    all_goals (first | omega | (rw [ByteArray.size_extract]; omega))

set_option maxHeartbeats 4000000 in
theorem bitsReads_calls (w : World) (s : ByteArray) (hs : s.size ≤ 140737488351232) (a : Value) (ha : Open.Rd w (.sl (.int .u8) 1) [a]) (most : Int) (hmo : (Lit.int .i64 most).wf = true) :
    Calls Try.prog 3 #[.string s, a, .int .i64 most] w fun e w' => e = .returned (.bool true) ∧ Below w.heap.size w w' := by
  obtain ⟨m1, m2⟩ : -9223372036854775808 ≤ most ∧ most ≤ 9223372036854775807 := by simpa [Lit.wf, IntKind.min, IntKind.max, IntKind.signed, IntKind.bits] using hmo
  obtain ⟨l, ad, cap, rfl, hl, hx, hcase⟩ := u8_rd ha
  have hl' : (l.length : Int) ≤ 140737488351232 := by omega
  have AC := Lib.hid (fun w => at_calls s w)
  have RC := Lib.hid (fun g S e0 k hk w (hz : S.size ≤ 140737488351232) hb => read_calls g S e0 k hk most m1 m2 w (by omega) hb)
  have AW := Lib.hid awake_calls
  have hss : (s.toList != s.toList) = false := by simp
  clear ha
  have HX := Lib.hid hx
  clear hx
  go_enter Try.func3, Try.ntmps3
  go_wp2_with fail
  refine (AC.out _).mono ?_
  rintro e w1 ⟨rfl, hm1, hb1⟩
  have HM1 := Lib.hid (hm1.alloc (.cells #[.string s, .int .i64 0] 26))
  have HT1 := Lib.hid (Blk.alloc hb1 (.cells #[.string s, .int .i64 0] 26))
  have HR1 := Lib.hid (Blk.new w1 #[.string s, .int .i64 0] 26)
  have hg1 : w.heap.size < w1.heap.size := hb1.lt
  clear hm1 hb1
  go_wp2_with fail
  generalize w1.alloc _ = W at HM1 HT1 HR1 ⊢
  obtain ⟨c0, c1, c2, c3⟩ := Blk2 HR1.out
  refine Fx.wp_region_f [] (fun _ w' => Mod W w' []) (by kernel_rfl) (by decide) (Mod.refl _ _).drew ?_
  have hSS : ∀ (m : Nat) w', Mod W w' [] → _ := fun m w' h => Blk2 (HR1.out.mod h (by simp))
  refine Fx.call' (i := 0) rfl (by kernel_rfl) (by kernel_rfl) (by rfl) ?_
  apply Exists.intro
  apply Exists.intro
  apply Exists.intro
  refine ⟨?_, ?_, ?_⟩
  · (intro w'; go_simp; first | done | (refine ⟨?_, ?_⟩ <;> with_reducible rfl) | with_reducible rfl)
  · (exact fun m w' h => (AW.out w').mono fun _ _ ⟨he, hw⟩ => ⟨he, h.trans0 hw⟩)
  try simp only [List.getElem_toArray, List.getElem_cons_succ, List.getElem_cons_zero, Act.put, List.setIfInBounds_toArray, List.set_cons_zero, List.set_cons_succ]
  refine Fx.take (i := 1) (v := ?_) _ rfl (by kernel_rfl) (by kernel_rfl) (by rfl) hSS ?_ ?_
  rotate_left
  · (intro w' hSw; (try dsimp only at hSw); go_simp; first | done | with_reducible rfl)
  try simp only [List.getElem_toArray, List.getElem_cons_succ, List.getElem_cons_zero, Act.put, List.setIfInBounds_toArray, List.set_cons_zero, List.set_cons_succ]
  refine Fx.take (i := 2) (v := ?_) _ rfl (by kernel_rfl) (by kernel_rfl) (by rfl) hSS ?_ ?_
  rotate_left
  · (intro w' hSw; (try dsimp only at hSw); go_simp; first | done | with_reducible rfl)
  try simp only [List.getElem_toArray, List.getElem_cons_succ, List.getElem_cons_zero, Act.put, List.setIfInBounds_toArray, List.set_cons_zero, List.set_cons_succ]
  refine Fx.take (i := 3) (v := ?_) _ rfl (by kernel_rfl) (by kernel_rfl) (by rfl) hSS ?_ ?_
  rotate_left
  · (intro w' hSw; (try dsimp only at hSw); go_simp; first | done | with_reducible rfl)
  try simp only [List.getElem_toArray, List.getElem_cons_succ, List.getElem_cons_zero, Act.put, List.setIfInBounds_toArray, List.set_cons_zero, List.set_cons_succ]
  refine Fx.take (i := 4) (v := ?_) _ rfl (by kernel_rfl) (by kernel_rfl) (by rfl) hSS ?_ ?_
  rotate_left
  · (intro w' hSw; (try dsimp only at hSw); go_simp; first | done | with_reducible rfl)
  try simp only [List.getElem_toArray, List.getElem_cons_succ, List.getElem_cons_zero, Act.put, List.setIfInBounds_toArray, List.set_cons_zero, List.set_cons_succ]
  refine Fx.take (i := 5) (v := ?_) _ rfl (by kernel_rfl) (by kernel_rfl) (by rfl) hSS ?_ ?_
  rotate_left
  · (intro w' hSw; (try dsimp only at hSw); go_simp; first | done | with_reducible rfl)
  try simp only [List.getElem_toArray, List.getElem_cons_succ, List.getElem_cons_zero, Act.put, List.setIfInBounds_toArray, List.set_cons_zero, List.set_cons_succ]
  refine Fx.take (i := 6) (v := ?_) _ rfl (by kernel_rfl) (by kernel_rfl) (by rfl) hSS ?_ ?_
  rotate_left
  · (intro w' hSw; (try dsimp only at hSw); go_simp; first | done | with_reducible rfl)
  try simp only [List.getElem_toArray, List.getElem_cons_succ, List.getElem_cons_zero, Act.put, List.setIfInBounds_toArray, List.set_cons_zero, List.set_cons_succ]
  refine Fx.take (i := 7) (v := ?_) _ rfl (by kernel_rfl) (by kernel_rfl) (by rfl) hSS ?_ ?_
  rotate_left
  · (intro w' hSw; (try dsimp only at hSw); go_simp; first | done | with_reducible rfl)
  try simp only [List.getElem_toArray, List.getElem_cons_succ, List.getElem_cons_zero, Act.put, List.setIfInBounds_toArray, List.set_cons_zero, List.set_cons_succ]
  refine Fx.call' (i := 8) rfl (by kernel_rfl) (by kernel_rfl) (by rfl) ?_
  apply Exists.intro
  apply Exists.intro
  apply Exists.intro
  refine ⟨?_, ?_, ?_⟩
  · (intro w'; go_simp; first | done | (refine ⟨?_, ?_⟩ <;> with_reducible rfl) | with_reducible rfl)
  · (exact fun m w' h => (Rest_calls _ s 0 w' (HT1.out.mod h (by simp))).mono fun _ _ ⟨he, hw⟩ => ⟨he, hw ▸ h⟩)
  try simp only [List.getElem_toArray, List.getElem_cons_succ, List.getElem_cons_zero, Act.put, List.setIfInBounds_toArray, List.set_cons_zero, List.set_cons_succ]
  refine Fx.take (i := 9) (v := ?_) _ rfl (by kernel_rfl) (by kernel_rfl) (by rfl) hSS ?_ ?_
  rotate_left
  · (intro w' hSw; (try dsimp only at hSw); go_simp; first | done | with_reducible rfl)
  try simp only [List.getElem_toArray, List.getElem_cons_succ, List.getElem_cons_zero, Act.put, List.setIfInBounds_toArray, List.set_cons_zero, List.set_cons_succ]
  refine Fx.take (i := 10) (v := ?_) _ rfl (by kernel_rfl) (by kernel_rfl) (by rfl) hSS ?_ ?_
  rotate_left
  · (intro w' hSw; (try dsimp only at hSw); go_simp; first | done | with_reducible rfl)
  try simp only [List.getElem_toArray, List.getElem_cons_succ, List.getElem_cons_zero, Act.put, List.setIfInBounds_toArray, List.set_cons_zero, List.set_cons_succ]
  refine Fx.take (i := 11) (v := ?_) _ rfl (by kernel_rfl) (by kernel_rfl) (by rfl) hSS ?_ ?_
  rotate_left
  · (intro w' hSw; (try dsimp only at hSw); go_simp; first | done | with_reducible rfl)
  try simp only [List.getElem_toArray, List.getElem_cons_succ, List.getElem_cons_zero, Act.put, List.setIfInBounds_toArray, List.set_cons_zero, List.set_cons_succ]
  refine Fx.take (i := 12) (v := ?_) _ rfl (by kernel_rfl) (by kernel_rfl) (by rfl) hSS ?_ ?_
  rotate_left
  · (intro w' hSw; (try dsimp only at hSw); go_simp; first | done | with_reducible rfl)
  try simp only [List.getElem_toArray, List.getElem_cons_succ, List.getElem_cons_zero, Act.put, List.setIfInBounds_toArray, List.set_cons_zero, List.set_cons_succ]
  refine Fx.take (i := 13) (v := ?_) _ rfl (by kernel_rfl) (by kernel_rfl) (by rfl) hSS ?_ ?_
  rotate_left
  · (intro w' hSw; (try dsimp only at hSw); go_simp; first | done | with_reducible rfl)
  try simp only [List.getElem_toArray, List.getElem_cons_succ, List.getElem_cons_zero, Act.put, List.setIfInBounds_toArray, List.set_cons_zero, List.set_cons_succ]
  refine Fx.take (i := 15) (v := ?_) _ rfl (by kernel_rfl) (by kernel_rfl) (by rfl) hSS ?_ ?_
  rotate_left
  · (intro w' hSw; (try dsimp only at hSw); go_simp; first | done | with_reducible rfl)
  try simp only [List.getElem_toArray, List.getElem_cons_succ, List.getElem_cons_zero, Act.put, List.setIfInBounds_toArray, List.set_cons_zero, List.set_cons_succ]
  refine Fx.call' (i := 14) rfl (by kernel_rfl) (by kernel_rfl) (by rfl) ?_
  apply Exists.intro
  apply Exists.intro
  apply Exists.intro
  refine ⟨?_, ?_, ?_⟩
  · (intro w'; go_simp; first | done | (refine ⟨?_, ?_⟩ <;> with_reducible rfl) | with_reducible rfl)
  · (exact fun m w' h => (End_calls _ s 0 w' (HT1.out.mod h (by simp))).mono fun _ _ ⟨he, hw⟩ => ⟨he, hw ▸ h⟩)
  try simp only [List.getElem_toArray, List.getElem_cons_succ, List.getElem_cons_zero, Act.put, List.setIfInBounds_toArray, List.set_cons_zero, List.set_cons_succ]
  refine Fx.call' (i := 16) rfl (by kernel_rfl) (by kernel_rfl) (by rfl) ?_
  apply Exists.intro
  apply Exists.intro
  apply Exists.intro
  refine ⟨?_, ?_, ?_⟩
  · (intro w'; go_simp; first | done | (refine ⟨?_, ?_⟩ <;> with_reducible rfl) | with_reducible rfl)
  · (exact fun m w' h => (rEnd_calls s 0 w').mono fun _ _ ⟨he, hw⟩ => ⟨he, h.trans0 hw⟩)
  try simp only [List.getElem_toArray, List.getElem_cons_succ, List.getElem_cons_zero, Act.put, List.setIfInBounds_toArray, List.set_cons_zero, List.set_cons_succ]
  refine Fx.take (i := 17) (v := ?_) _ rfl (by kernel_rfl) (by kernel_rfl) (by rfl) hSS ?_ ?_
  rotate_left
  · (intro w' hSw; (try dsimp only at hSw); go_simp; first | done | with_reducible rfl)
  try simp only [List.getElem_toArray, List.getElem_cons_succ, List.getElem_cons_zero, Act.put, List.setIfInBounds_toArray, List.set_cons_zero, List.set_cons_succ]
  refine Fx.take (i := 18) (v := ?_) _ rfl (by kernel_rfl) (by kernel_rfl) (by rfl) hSS ?_ ?_
  rotate_left
  · (intro w' hSw; (try dsimp only at hSw); go_simp; first | done | with_reducible rfl)
  try simp only [List.getElem_toArray, List.getElem_cons_succ, List.getElem_cons_zero, Act.put, List.setIfInBounds_toArray, List.set_cons_zero, List.set_cons_succ]
  refine Fx.done 0 (by kernel_rfl) (by kernel_rfl) (fun w2 hm2 => ?_)
  have HM2 := Lib.hid (HM1.out.trans0 hm2)
  have HT2 := Lib.hid (HT1.out.mod hm2 (by simp))
  have HR2 := Lib.hid (HR1.out.mod hm2 (by simp))
  have hW2 : w1.heap.size < w2.heap.size := Nat.lt_of_lt_of_le HR1.out.lt hm2.size
  clear hm2 c0 c1 c2 c3
  go_wp2_with fail
  go_loopw [9] (fun vi wr => ∃ (j : Nat) (S : ByteArray) (E : Int), j ≤ l.length ∧ j ≤ 100 ∧ vi = .int .i64 (j : Int) ∧ S.size ≤ 140737488351232 ∧ Mod w wr [] ∧ TapeAt wr w.heap.size S E ∧ Blk wr w1.heap.size #[.string S, .int .i64 E] 26) (fun vi _ => 101 - (intOf vi).toNat)
  case atStart => exact ⟨0, s, 0, by omega, by omega, rfl, hs, HM2.out, HT2.out, HR2.out⟩
  case round =>
    obtain ⟨j, S, E, hj, hj2, rfl, hS, hm, ht, hr⟩ := hrel
    have HM := Lib.hid hm
    have HT := Lib.hid ht
    have HR := Lib.hid hr
    have hzr := hr.lt
    clear hm ht HM1 HT1 HR1 HM2 HT2 HR2
    by_cases hlt : j < l.length ∧ j < 100
    · obtain ⟨hlt, hlt2⟩ := hlt
      have hlt' : (j : Int) < l.length := by omega
      have hlt2' : (j : Int) < 100 := by omega
      rcases hcase with hnil | ⟨b, off, had, hcell⟩
      · rw [hnil] at hlt; exact absurd hlt (by simp)
      have hc := hcell j hlt
      have hk := HX.out _ (List.getElem_mem hlt)
      subst had
      have hc' := keepC HM.out hc
      generalize l[j]'hlt = k at *
      have hk' : (k : Int) < 256 := by omega
      obtain ⟨c0, c1, c2, c3⟩ := Blk2 hr
      have hwk : IntKind.i64.wrap (k : Int) = (k : Int) := IntWalk.i64_in _ (by omega)
      have hzo : b < wr.heap.size := cell_lt hc'
      have hzb : b < w.heap.size := cell_lt hc
      have HN := Lib.hid hc'
      have hsz := behS_size k S E most
      have RCk := Lib.hid (fun w' hb => RC.out w.heap.size S E k hk w' hS hb)
      generalize behS k S E most = S' at *
      generalize behE k S E most = E' at *
      clear hcell hc HX RC hr hc'
      go_wp2_with fail
      refine He.wp_region_e 14 (fun w' => w'.cell? ⟨w1.heap.size, 0, none⟩ = some (.string S) ∧ w'.cell? ⟨w1.heap.size, 1, none⟩ = some (.int .i64 E) ∧ w'.cell? ⟨b, off + j, none⟩ = some (.int .u8 (k : Int))) (by kernel_rfl) ⟨c0, c1, HN.out⟩ (fun S0 => ?_)
      refine He.wpE_take (i := 0) (v := ?_) rfl (by kernel_rfl) (by kernel_rfl) (by kernel_rfl) (by kernel_rfl) (by kernel_rfl) (fun _ _ _ h => h) (by rfl) ?_ (by assumption) ?_
      rotate_left
      · (intro w' hSw; (try dsimp only at hSw); go_simp; first | done | with_reducible rfl)
      try simp only [List.getElem_toArray, List.getElem_cons_succ, List.getElem_cons_zero, Act.put, List.setIfInBounds_toArray, List.set_cons_zero, List.set_cons_succ]
      refine He.wpE_take (i := 1) (v := ?_) rfl (by kernel_rfl) (by kernel_rfl) (by kernel_rfl) (by kernel_rfl) (by kernel_rfl) (fun _ _ _ h => h) (by rfl) ?_ (by assumption) ?_
      rotate_left
      · (intro w' hSw; (try dsimp only at hSw); go_simp; first | done | with_reducible rfl)
      try simp only [List.getElem_toArray, List.getElem_cons_succ, List.getElem_cons_zero, Act.put, List.setIfInBounds_toArray, List.set_cons_zero, List.set_cons_succ]
      refine He.wpE_take (i := 2) (v := ?_) rfl (by kernel_rfl) (by kernel_rfl) (by kernel_rfl) (by kernel_rfl) (by kernel_rfl) (fun _ _ _ h => h) (by rfl) ?_ (by assumption) ?_
      rotate_left
      · (intro w' hSw; (try dsimp only at hSw); go_simp; first | done | with_reducible rfl)
      try simp only [List.getElem_toArray, List.getElem_cons_succ, List.getElem_cons_zero, Act.put, List.setIfInBounds_toArray, List.set_cons_zero, List.set_cons_succ]
      refine He.wpE_take (i := 3) (v := ?_) rfl (by kernel_rfl) (by kernel_rfl) (by kernel_rfl) (by kernel_rfl) (by kernel_rfl) (fun _ _ _ h => h) (by rfl) ?_ (by assumption) ?_
      rotate_left
      · (intro w' hSw; (try dsimp only at hSw); go_simp; first | done | with_reducible rfl)
      try simp only [List.getElem_toArray, List.getElem_cons_succ, List.getElem_cons_zero, Act.put, List.setIfInBounds_toArray, List.set_cons_zero, List.set_cons_succ]
      refine He.wpE_take (i := 4) (v := ?_) rfl (by kernel_rfl) (by kernel_rfl) (by kernel_rfl) (by kernel_rfl) (by kernel_rfl) (fun _ _ _ h => h) (by rfl) ?_ (by assumption) ?_
      rotate_left
      · (intro w' hSw; (try dsimp only at hSw); go_simp; first | done | with_reducible rfl)
      try simp only [List.getElem_toArray, List.getElem_cons_succ, List.getElem_cons_zero, Act.put, List.setIfInBounds_toArray, List.set_cons_zero, List.set_cons_succ]
      refine He.wpE_take (i := 5) (v := ?_) rfl (by kernel_rfl) (by kernel_rfl) (by kernel_rfl) (by kernel_rfl) (by kernel_rfl) (fun _ _ _ h => h) (by rfl) ?_ (by assumption) ?_
      rotate_left
      · (intro w' hSw; (try dsimp only at hSw); go_simp; first | done | with_reducible rfl)
      try simp only [List.getElem_toArray, List.getElem_cons_succ, List.getElem_cons_zero, Act.put, List.setIfInBounds_toArray, List.set_cons_zero, List.set_cons_succ]
      refine He.wpE_take (i := 6) (v := ?_) rfl (by kernel_rfl) (by kernel_rfl) (by kernel_rfl) (by kernel_rfl) (by kernel_rfl) (fun _ _ _ h => h) (by rfl) ?_ (by assumption) ?_
      rotate_left
      · (intro w' hSw; (try dsimp only at hSw); go_simp; first | done | with_reducible rfl)
      try simp only [List.getElem_toArray, List.getElem_cons_succ, List.getElem_cons_zero, Act.put, List.setIfInBounds_toArray, List.set_cons_zero, List.set_cons_succ]
      refine He.wpE_take (i := 7) (v := ?_) rfl (by kernel_rfl) (by kernel_rfl) (by kernel_rfl) (by kernel_rfl) (by kernel_rfl) (fun _ _ _ h => h) (by rfl) ?_ (by assumption) ?_
      rotate_left
      · (intro w' hSw; (try dsimp only at hSw); go_simp; first | done | with_reducible rfl)
      try simp only [List.getElem_toArray, List.getElem_cons_succ, List.getElem_cons_zero, Act.put, List.setIfInBounds_toArray, List.set_cons_zero, List.set_cons_succ]
      refine He.wpE_two (i := 8) (j := 12) (by kernel_rfl) rfl rfl (by rfl) (by rfl) (fun K hK => ?_) (fun K hK => ?_)
      · go_simp
        (with_reducible refine (RCk.out _ ?_).mono ?_)
        · exact Blk.drew HT.out
        rintro e w3 ⟨rfl, hm3, ht3⟩
        have S1 : w3.cell? ⟨w1.heap.size, 0, none⟩ = some (.string S) ∧ w3.cell? ⟨w1.heap.size, 1, none⟩ = some (.int .i64 E) ∧ w3.cell? ⟨b, off + j, none⟩ = some (.int .u8 (k : Int)) := ⟨(hm3.cell hzr (by simp; omega)).trans S0.1, (hm3.cell hzr (by simp; omega)).trans S0.2.1, (hm3.cell hzo (by simp; omega)).trans S0.2.2⟩
        have HM3 := Lib.hid (HM.out.drew.trans hm3 (by simp))
        have HR3 := Lib.hid (HR.out.drew.mod hm3 (by simp; omega))
        have HT3 := Lib.hid ht3
        have hz3 : wr.heap.size < w3.heap.size + 1 := by have := hm3.size; simp at this; omega
        refine hK.out _ _ (fun _ => S1) ?_
        clear hK K
        try simp only [Act.put, List.setIfInBounds_toArray, List.set_cons_zero, List.set_cons_succ]
        refine He.wpE_take (i := 9) (v := ?_) rfl (by kernel_rfl) (by kernel_rfl) (by kernel_rfl) (by kernel_rfl) (by kernel_rfl) (fun _ _ _ h => h) (by rfl) ?_ (by assumption) ?_
        rotate_left
        · (intro w' hSw; (try dsimp only at hSw); go_simp; first | done | with_reducible rfl)
        try simp only [List.getElem_toArray, List.getElem_cons_succ, List.getElem_cons_zero, Act.put, List.setIfInBounds_toArray, List.set_cons_zero, List.set_cons_succ]
        refine He.wpE_take (i := 10) (v := ?_) rfl (by kernel_rfl) (by kernel_rfl) (by kernel_rfl) (by kernel_rfl) (by kernel_rfl) (fun _ _ _ h => h) (by rfl) ?_ (by assumption) ?_
        rotate_left
        · (intro w' hSw; (try dsimp only at hSw); go_simp; first | done | with_reducible rfl)
        try simp only [List.getElem_toArray, List.getElem_cons_succ, List.getElem_cons_zero, Act.put, List.setIfInBounds_toArray, List.set_cons_zero, List.set_cons_succ]
        refine He.wpE_take (i := 11) (v := ?_) rfl (by kernel_rfl) (by kernel_rfl) (by kernel_rfl) (by kernel_rfl) (by kernel_rfl) (fun _ _ _ h => h) (by rfl) ?_ (by assumption) ?_
        rotate_left
        · (intro w' hSw; (try dsimp only at hSw); go_simp; first | done | with_reducible rfl)
        try simp only [List.getElem_toArray, List.getElem_cons_succ, List.getElem_cons_zero, Act.put, List.setIfInBounds_toArray, List.set_cons_zero, List.set_cons_succ]
        refine He.wpE_one (i := 12) (by kernel_rfl) rfl (by rfl) (fun K hK => ?_)
        go_simp
        have HN3 := Lib.hid (Blk.new w3 #[.string ⟨#[]⟩, .int .i64 0] 26)
        have S2 : (w3.alloc (.cells #[.string ⟨#[]⟩, .int .i64 0] 26)).cell? ⟨w1.heap.size, 0, none⟩ = some (.string S) ∧ (w3.alloc (.cells #[.string ⟨#[]⟩, .int .i64 0] 26)).cell? ⟨w1.heap.size, 1, none⟩ = some (.int .i64 E) ∧ (w3.alloc (.cells #[.string ⟨#[]⟩, .int .i64 0] 26)).cell? ⟨b, off + j, none⟩ = some (.int .u8 (k : Int)) := ⟨keepC ((Mod.refl _ _).alloc _) S1.1, keepC ((Mod.refl _ _).alloc _) S1.2.1, keepC ((Mod.refl _ _).alloc _) S1.2.2⟩
        refine hK.out _ _ (fun _ => S2) ?_
        clear hK K
        try simp only [Act.put, List.setIfInBounds_toArray, List.set_cons_zero, List.set_cons_succ]
        have HM4 := Lib.hid (HM3.out.alloc (.cells #[.string ⟨#[]⟩, .int .i64 0] 26))
        have HR4 := Lib.hid (HR3.out.alloc (.cells #[.string ⟨#[]⟩, .int .i64 0] 26))
        have HT4 := Lib.hid (HT3.out.alloc (.cells #[.string ⟨#[]⟩, .int .i64 0] 26))
        have hz5 : w1.heap.size < w3.heap.size := by omega
        generalize w3.alloc _ = w4 at HM4 HR4 HT4 HN3 S2 ⊢
        obtain ⟨q0, q1, q2, q3⟩ := Blk2 HN3.out
        refine He.wpE_one (i := 13) (by kernel_rfl) rfl (by rfl) (fun K hK => ?_)
        go_simp
        have hmS := ((Mod.refl w4 [w3.heap.size]).setCell (p := ⟨w3.heap.size, 0, none⟩) (.inl (by simp)) (.string S')).setCell (p := ⟨w3.heap.size, 1, none⟩) (.inl (by simp)) (.int .i64 E')
        have S3 := And.intro ((hmS.cell (cell_lt S2.1) (by simp; omega)).trans S2.1) (And.intro ((hmS.cell (cell_lt S2.2.1) (by simp; omega)).trans S2.2.1) ((hmS.cell (cell_lt S2.2.2) (by simp; omega)).trans S2.2.2))
        have HM5 := Lib.hid (HM4.out.trans hmS (by simp; omega))
        have HR5 := Lib.hid (HR4.out.mod hmS (by simp; omega))
        have HT5 := Lib.hid (HT4.out.mod hmS (by simp; omega))
        have HN5 := Lib.hid ((HN3.out.set 0 (.string S')).set 1 (.int .i64 E'))
        clear hmS q0 q1 q2 q3 S2 HM4 HR4 HT4 HN3 HM HT HR
        refine hK.out _ _ (fun _ => S3) ?_
        clear hK K
        try simp only [Act.put, List.setIfInBounds_toArray, List.set_cons_zero, List.set_cons_succ]
        refine He.wpE_take (i := 14) (v := ?_) rfl (by kernel_rfl) (by kernel_rfl) (by kernel_rfl) (by kernel_rfl) (by kernel_rfl) (fun _ _ _ h => h) (by rfl) ?_ (by assumption) ?_
        rotate_left
        · (intro w' hSw; (try dsimp only at hSw); go_simp; first | done | with_reducible rfl)
        try simp only [List.getElem_toArray, List.getElem_cons_succ, List.getElem_cons_zero, Act.put, List.setIfInBounds_toArray, List.set_cons_zero, List.set_cons_succ]
        refine He.wpE_done (by kernel_rfl) ?_
        generalize World.setCell (World.setCell _ _ _) _ _ = w5 at S3 HM5 HR5 HT5 HN5 ⊢
        obtain ⟨q0, q1, -, -⟩ := Blk2 HN5.out
        obtain ⟨c0, c1, c2, c3⟩ := Blk2 HR5.out
        clear S3
        go_wp2_with fail
        go_roundw
        case rel => exact ⟨j + 1, S', E', by omega, by omega, by go_num, by omega, (HM5.out.setCell (.inr (Nat.le_of_lt hg1)) _).setCell (.inr (Nat.le_of_lt hg1)) _, (Blk.far HT5.out (p := ⟨w1.heap.size, 0, none⟩) (by show w.heap.size ≠ w1.heap.size; omega) _).far (p := ⟨w1.heap.size, 1, none⟩) (by show w.heap.size ≠ w1.heap.size; omega) _, (HR5.out.set 0 _).set 1 _⟩
        case measure => simp [intOf]; omega
      · go_simp
        have S1a : ((wr.alloc (.cells #[.string ⟨#[]⟩, .int .i64 0] 26)).drew).cell? ⟨w1.heap.size, 0, none⟩ = some (.string S) ∧ ((wr.alloc (.cells #[.string ⟨#[]⟩, .int .i64 0] 26)).drew).cell? ⟨w1.heap.size, 1, none⟩ = some (.int .i64 E) ∧ ((wr.alloc (.cells #[.string ⟨#[]⟩, .int .i64 0] 26)).drew).cell? ⟨b, off + j, none⟩ = some (.int .u8 (k : Int)) := ⟨keepC (a := wr) ((Mod.refl wr []).alloc _).drew S0.1, keepC (a := wr) ((Mod.refl wr []).alloc _).drew S0.2.1, keepC (a := wr) ((Mod.refl wr []).alloc _).drew S0.2.2⟩
        have HNa := Lib.hid ((Blk.new wr #[.string ⟨#[]⟩, .int .i64 0] 26).drew)
        have hzq : w1.heap.size < ((wr.alloc (.cells #[.string ⟨#[]⟩, .int .i64 0] 26)).drew).heap.size := by simp; omega
        have hzp : b < ((wr.alloc (.cells #[.string ⟨#[]⟩, .int .i64 0] 26)).drew).heap.size := by simp; omega
        refine hK.out _ _ (fun _ => S1a) ?_
        clear hK K
        try simp only [Act.put, List.setIfInBounds_toArray, List.set_cons_zero, List.set_cons_succ]
        refine He.wpE_one (i := 8) (by kernel_rfl) rfl (by rfl) (fun K hK => ?_)
        go_simp
        (with_reducible refine (RCk.out _ ?_).mono ?_)
        · exact (Blk.alloc HT.out _).drew
        rintro e w3 ⟨rfl, hm3, ht3⟩
        have S1 : w3.cell? ⟨w1.heap.size, 0, none⟩ = some (.string S) ∧ w3.cell? ⟨w1.heap.size, 1, none⟩ = some (.int .i64 E) ∧ w3.cell? ⟨b, off + j, none⟩ = some (.int .u8 (k : Int)) := ⟨(hm3.cell hzq (by simp; omega)).trans S1a.1, (hm3.cell hzq (by simp; omega)).trans S1a.2.1, (hm3.cell hzp (by simp; omega)).trans S1a.2.2⟩
        have HM3 := Lib.hid ((HM.out.alloc (.cells #[.string ⟨#[]⟩, .int .i64 0] 26)).drew.trans hm3 (by simp))
        have HR3 := Lib.hid ((HR.out.alloc (.cells #[.string ⟨#[]⟩, .int .i64 0] 26)).drew.mod hm3 (by simp; omega))
        have HT3 := Lib.hid ht3
        have hz3 : wr.heap.size < w3.heap.size := by have := hm3.size; simp at this; omega
        refine hK.out _ _ (fun _ => S1) ?_
        clear hK K
        try simp only [Act.put, List.setIfInBounds_toArray, List.set_cons_zero, List.set_cons_succ]
        have HN3 := Lib.hid (HNa.out.mod hm3 (by simp; omega))
        clear hm3
        refine He.wpE_take (i := 9) (v := ?_) rfl (by kernel_rfl) (by kernel_rfl) (by kernel_rfl) (by kernel_rfl) (by kernel_rfl) (fun _ _ _ h => h) (by rfl) ?_ (by assumption) ?_
        rotate_left
        · (intro w' hSw; (try dsimp only at hSw); go_simp; first | done | with_reducible rfl)
        try simp only [List.getElem_toArray, List.getElem_cons_succ, List.getElem_cons_zero, Act.put, List.setIfInBounds_toArray, List.set_cons_zero, List.set_cons_succ]
        refine He.wpE_take (i := 10) (v := ?_) rfl (by kernel_rfl) (by kernel_rfl) (by kernel_rfl) (by kernel_rfl) (by kernel_rfl) (fun _ _ _ h => h) (by rfl) ?_ (by assumption) ?_
        rotate_left
        · (intro w' hSw; (try dsimp only at hSw); go_simp; first | done | with_reducible rfl)
        try simp only [List.getElem_toArray, List.getElem_cons_succ, List.getElem_cons_zero, Act.put, List.setIfInBounds_toArray, List.set_cons_zero, List.set_cons_succ]
        refine He.wpE_take (i := 11) (v := ?_) rfl (by kernel_rfl) (by kernel_rfl) (by kernel_rfl) (by kernel_rfl) (by kernel_rfl) (fun _ _ _ h => h) (by rfl) ?_ (by assumption) ?_
        rotate_left
        · (intro w' hSw; (try dsimp only at hSw); go_simp; first | done | with_reducible rfl)
        try simp only [List.getElem_toArray, List.getElem_cons_succ, List.getElem_cons_zero, Act.put, List.setIfInBounds_toArray, List.set_cons_zero, List.set_cons_succ]
        have HM4 := HM3
        have HR4 := HR3
        have HT4 := HT3
        have S2 := S1
        have hz5 : w1.heap.size < wr.heap.size := by omega
        clear HM3 HR3 HT3 S1
        obtain ⟨q0, q1, q2, q3⟩ := Blk2 HN3.out
        refine He.wpE_one (i := 13) (by kernel_rfl) rfl (by rfl) (fun K hK => ?_)
        go_simp
        have hmS := ((Mod.refl w3 [wr.heap.size]).setCell (p := ⟨wr.heap.size, 0, none⟩) (.inl (by simp)) (.string S')).setCell (p := ⟨wr.heap.size, 1, none⟩) (.inl (by simp)) (.int .i64 E')
        have S3 := And.intro ((hmS.cell (cell_lt S2.1) (by simp; omega)).trans S2.1) (And.intro ((hmS.cell (cell_lt S2.2.1) (by simp; omega)).trans S2.2.1) ((hmS.cell (cell_lt S2.2.2) (by simp; omega)).trans S2.2.2))
        have HM5 := Lib.hid (HM4.out.trans hmS (by simp; omega))
        have HR5 := Lib.hid (HR4.out.mod hmS (by simp; omega))
        have HT5 := Lib.hid (HT4.out.mod hmS (by simp; omega))
        have HN5 := Lib.hid ((HN3.out.set 0 (.string S')).set 1 (.int .i64 E'))
        clear hmS q0 q1 q2 q3 S2 HM4 HR4 HT4 HN3 HM HT HR
        refine hK.out _ _ (fun _ => S3) ?_
        clear hK K
        try simp only [Act.put, List.setIfInBounds_toArray, List.set_cons_zero, List.set_cons_succ]
        refine He.wpE_take (i := 14) (v := ?_) rfl (by kernel_rfl) (by kernel_rfl) (by kernel_rfl) (by kernel_rfl) (by kernel_rfl) (fun _ _ _ h => h) (by rfl) ?_ (by assumption) ?_
        rotate_left
        · (intro w' hSw; (try dsimp only at hSw); go_simp; first | done | with_reducible rfl)
        try simp only [List.getElem_toArray, List.getElem_cons_succ, List.getElem_cons_zero, Act.put, List.setIfInBounds_toArray, List.set_cons_zero, List.set_cons_succ]
        refine He.wpE_done (by kernel_rfl) ?_
        generalize World.setCell (World.setCell _ _ _) _ _ = w5 at S3 HM5 HR5 HT5 HN5 ⊢
        obtain ⟨q0, q1, -, -⟩ := Blk2 HN5.out
        obtain ⟨c0, c1, c2, c3⟩ := Blk2 HR5.out
        clear S3
        go_wp2_with fail
        go_roundw
        case rel => exact ⟨j + 1, S', E', by omega, by omega, by go_num, by omega, (HM5.out.setCell (.inr (Nat.le_of_lt hg1)) _).setCell (.inr (Nat.le_of_lt hg1)) _, (Blk.far HT5.out (p := ⟨w1.heap.size, 0, none⟩) (by show w.heap.size ≠ w1.heap.size; omega) _).far (p := ⟨w1.heap.size, 1, none⟩) (by show w.heap.size ≠ w1.heap.size; omega) _, (HR5.out.set 0 _).set 1 _⟩
        case measure => simp [intOf]; omega
    · have hge : ¬ ((j : Int) < l.length ∧ (j : Int) < 100) := by omega
      by_cases hq : (j : Int) < l.length
      all_goals
        have hq2 : 100 ≤ (j : Int) ∨ (l.length : Int) ≤ j := by omega
        clear hge hlt
        first | (have hq3 : 100 ≤ (j : Int) := by omega) | (have hq3 : (l.length : Int) ≤ j := by omega)
        clear hq2
        go_wp2_with fail
        go_ret
        exact ⟨rfl, HM.out.below0⟩
end Go.Proofs.Ytfabmgdfapioiaa.Bits
