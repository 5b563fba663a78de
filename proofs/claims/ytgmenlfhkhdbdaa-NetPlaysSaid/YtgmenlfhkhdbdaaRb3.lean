/- The law's Ref; the reference's Same. -/
import Derived.Test.YtgmenlfhkhdbdaaRa9
import Derived.Laws.StructEq
namespace Go.Proofs.Ytgmenlfhkhdbdaa.Ra
open Go.RowKit Mem Bits
set_option linter.unusedSimpArgs false
set_option linter.unusedVariables false
set_option maxRecDepth 100000

theorem ensV_own2 {w : World} {base : Nat} {t : TypeId} {v : Value} {l : List En} (h : w.ownsRow base t 4 v l.length (rowsE l)) : EnsV w v l := by
  rcases Rw.own_cellN h with ⟨h1, h2, _⟩ | ⟨g, cap, h1, _, h3, _, h5, h6⟩
  · have : l = [] := List.eq_nil_of_length_eq_zero h2
    subst this
    exact ⟨none, 0, h1, Nat.le_refl _, .inl rfl⟩
  · refine ⟨_, cap, h1, h3, .inr ⟨g, 0, rfl, fun i hi => ?_⟩⟩
    have hf : ∀ c, c < 4 → w.cell? ⟨g, i * 4 + c, none⟩ = (rowE l[i])[c]? := fun c hc => by
      have hr : rowsE l = (l.map rowE).flatten := by unfold rowsE; rw [List.flatMap_def]
      have hlen : (rowsE l).length = l.length * 4 := h5
      rw [h6 (i * 4 + c) (by omega)]
      have := Rw.flat_get (n := 4) (l.map rowE) i c (by intro r hr; obtain ⟨x, _, rfl⟩ := List.mem_map.1 hr; rfl) (by simpa using hi) hc
      rw [← hr, List.getElem_map] at this
      rw [← this, List.getElem?_eq_getElem (by omega)]
    rw [Nat.zero_add]
    exact ⟨by have := hf 0 (by decide); simpa [rowE] using this, by have := hf 1 (by decide); simpa [rowE] using this, by have := hf 2 (by decide); simpa [rowE] using this, by have := hf 3 (by decide); simpa [rowE] using this⟩
theorem info_ren : (Try.prog.info? 142).map (fun i => (i.zero, i.size, i.bytes)) = some (some (.agg #[.int .i64 0, .int .i64 0, .int .i64 0, .string ⟨#[]⟩]), 4, 40) := by kernel_rfl
set_option maxHeartbeats 4000000 in
theorem refs_calls (v : Value) (l : List En) (w : World) (h : EnsV w v l) (hn : l.length ≤ 100000) :
    Calls Try.prog 68 #[v] w fun e w' => ∃ v', e = .returned v' ∧ Mod w w' [] ∧ w'.ownsRow w.heap.size 142 4 v' l.length (rowsE l) := by
  obtain ⟨i0, hi0, hz0, hz1, hz2⟩ := info_parts info_ren
  obtain ⟨ad, cap, rfl, hcap, hr⟩ := h
  have HR := Lib.hid hr
  have hn' : (l.length : Int) ≤ 100000 := by omega
  clear hr
  go_enter Try.func68, Try.ntmps68
  go_wp2_with fail
  go_loopw [3, 4] (fun vl vi wr => ∃ (i : Nat) (ga : Option Addr) (gc : Nat), i ≤ l.length ∧ vl = .slice ga i gc ∧ vi = .int .i64 (i : Int) ∧ Mod w wr [] ∧ wr.ownsRow w.heap.size 142 4 (.slice ga i gc) i (rowsE (l.take i))) (fun _ vi _ => l.length + 1 - (intOf vi).toNat)
  case atStart => exact ⟨0, none, 0, Nat.zero_le _, rfl, rfl, Mod.refl _ _, rfl, .inl ⟨rfl, rfl⟩⟩
  case round =>
    obtain ⟨i, ga, gc, hi, rfl, rfl, hm, hown⟩ := hrel
    have HM := Lib.hid hm
    have HO := Lib.hid hown
    clear hm hown
    by_cases hlt : i < l.length
    · have hlt' : (i : Int) < l.length := by omega
      obtain ⟨bb, off, rfl, hcs⟩ := HR.out.resolve_left (fun h => by rw [h] at hlt; simp at hlt)
      obtain ⟨e0, e1, e2, e3⟩ := (hcs i hlt).mod HM.out
      have HS := Lib.hid (show rowsE (l.take (i + 1)) = rowsE (l.take i) ++ rowE (l[i]'hlt) by rw [List.take_succ_eq_append_getElem hlt, rowsE_snoc])
      clear hcs
      generalize l[i]'hlt = x at *
      obtain ⟨xt, xk, xm, xs⟩ := x
      simp only at e0 e1 e2 e3
      have HMn := Lib.hid (HM.out.alloc (.cells #[.int .i64 xt, .int .i64 xk, .int .i64 xm, .string xs] 142))
      have hzw : w.heap.size ≤ wr.heap.size := HM.out.size
      go_wp2_with (at_builtin; refine wpList_append_lies _ rfl _ _ 85 rfl w.heap.size 142 i0 _ 4 40 Try.underlying85 hi0 hz0 hz1 hz2 rfl (by decide) (.slice ga i gc) i (rowsE (l.take i)) rfl (HO.out.alloc _) ⟨wr.heap.size, 0, none⟩ 1 1 [.int .i64 xt, .int .i64 xk, .int .i64 xm, .string xs] rfl rfl (World.news_of_block (cs := #[.int .i64 xt, .int .i64 xk, .int .i64 xm, .string xs]) (t := 142) (fr := (0, 0)) (heap_alloc_new wr _)) (by simp [Value.oneCell']) (by omega) (by unfold maxLen; omega) (by omega) (by simp; omega) (wr.heap.size + 1) (by simp) ?_; intro gg gcap w5 hown5 hgrow hat hlt5; have HM5 := Lib.hid (HMn.out.grown hgrow (fun k hk => .inr (own_ge HO.out k hk))); have HO5 := Lib.hid hown5; clear hown5 hgrow hat hlt5)
      go_roundw
      case rel => exact ⟨i + 1, _, _, by omega, rfl, by go_num, HM5.out, by rw [HS.out]; exact HO5.out⟩
      case measure => simp [intOf]; omega
    · obtain rfl : i = l.length := by omega
      have HT := Lib.hid (show l.take l.length = l from List.take_length)
      go_wp2_with fail
      go_ret
      exact ⟨_, rfl, HM.out, by have := HO.out; rw [HT.out] at this; exact this⟩
set_option maxHeartbeats 8000000 in
theorem ref_calls (m : Ms) (v : Value) (w : World) (h : EnsV w v m.es) (hn : m.es.length ≤ 100000) :
    Calls Try.prog 31 #[msV m v] w fun e w' => ∃ v', e = .returned (msV m v') ∧ Mod w w' [] ∧ w'.ownsRow w.heap.size 142 4 v' m.es.length (rowsE m.es) := by
  have HV := Lib.hid h
  obtain ⟨ad, cap, rfl, _, _⟩ := h
  obtain ⟨kind, frm, dst, term, index, lt, commit, yes, es, si, st, sm, sx⟩ := m
  simp only at hn HV
  have RC := Lib.hid (fun w' (k : Mod w w' []) => refs_calls (.slice ad es.length cap) es w' (HV.out.mod k) hn)
  show Calls _ _ #[.agg #[.int .i64 kind, .int .i64 frm, .int .i64 dst, .int .i64 term, .int .i64 index, .int .i64 lt, .int .i64 commit, .bool yes, .slice ad es.length cap, .int .i64 si, .int .i64 st, .int .i64 sm, .string sx]] _ _
  have HB0 := Lib.hid (((Blk.new w #[.int .i64 kind, .int .i64 frm, .int .i64 dst, .int .i64 term, .int .i64 index, .int .i64 lt, .int .i64 commit, .bool yes, .slice ad es.length cap, .int .i64 si, .int .i64 st, .int .i64 sm, .string sx] 33).alloc (.cells zc 88)))
  have hr0 := Blk.new (w.alloc (.cells #[.int .i64 kind, .int .i64 frm, .int .i64 dst, .int .i64 term, .int .i64 index, .int .i64 lt, .int .i64 commit, .bool yes, .slice ad es.length cap, .int .i64 si, .int .i64 st, .int .i64 sm, .string sx] 33)) zc 88
  rw [World.size_alloc] at hr0
  have HR0 := Lib.hid hr0
  have HM0 := Lib.hid (((Mod.refl w []).alloc (.cells #[.int .i64 kind, .int .i64 frm, .int .i64 dst, .int .i64 term, .int .i64 index, .int .i64 lt, .int .i64 commit, .bool yes, .slice ad es.length cap, .int .i64 si, .int .i64 st, .int .i64 sm, .string sx] 33)).alloc (.cells zc 88))
  clear hr0
  go_enter Try.func31, Try.ntmps31
  go_upto_region 1 with (fail)
  generalize (w.alloc _).alloc _ = w2 at *
  refine He.wp_region_e 22 (fun w' => w'.cell? ⟨w.heap.size, 0, none⟩ = some (.int .i64 kind) ∧ w'.cell? ⟨w.heap.size, 1, none⟩ = some (.int .i64 frm) ∧ w'.cell? ⟨w.heap.size, 2, none⟩ = some (.int .i64 dst) ∧ w'.cell? ⟨w.heap.size, 3, none⟩ = some (.int .i64 term) ∧ w'.cell? ⟨w.heap.size, 4, none⟩ = some (.int .i64 index) ∧ w'.cell? ⟨w.heap.size, 5, none⟩ = some (.int .i64 lt) ∧ w'.cell? ⟨w.heap.size, 6, none⟩ = some (.int .i64 commit) ∧ w'.cell? ⟨w.heap.size, 7, none⟩ = some (.bool yes) ∧ w'.cell? ⟨w.heap.size, 8, none⟩ = some (.slice ad es.length cap) ∧ w'.cell? ⟨w.heap.size, 9, none⟩ = some (.int .i64 si) ∧ w'.cell? ⟨w.heap.size, 10, none⟩ = some (.int .i64 st) ∧ w'.cell? ⟨w.heap.size, 11, none⟩ = some (.int .i64 sm) ∧ w'.cell? ⟨w.heap.size, 12, none⟩ = some (.string sx)) (by kernel_rfl) (⟨(HB0.out.mod ((Mod.refl w2 []).drew) (by simp)).cell 0, (HB0.out.mod ((Mod.refl w2 []).drew) (by simp)).cell 1, (HB0.out.mod ((Mod.refl w2 []).drew) (by simp)).cell 2, (HB0.out.mod ((Mod.refl w2 []).drew) (by simp)).cell 3, (HB0.out.mod ((Mod.refl w2 []).drew) (by simp)).cell 4, (HB0.out.mod ((Mod.refl w2 []).drew) (by simp)).cell 5, (HB0.out.mod ((Mod.refl w2 []).drew) (by simp)).cell 6, (HB0.out.mod ((Mod.refl w2 []).drew) (by simp)).cell 7, (HB0.out.mod ((Mod.refl w2 []).drew) (by simp)).cell 8, (HB0.out.mod ((Mod.refl w2 []).drew) (by simp)).cell 9, (HB0.out.mod ((Mod.refl w2 []).drew) (by simp)).cell 10, (HB0.out.mod ((Mod.refl w2 []).drew) (by simp)).cell 11, (HB0.out.mod ((Mod.refl w2 []).drew) (by simp)).cell 12⟩) (fun S0 => ?_)
  have HBd := Lib.hid (HB0.out.mod ((Mod.refl w2 []).drew) (by simp))
  have HRd := Lib.hid (HR0.out.mod ((Mod.refl w2 []).drew) (by simp))
  have HMd := Lib.hid (HM0.out.trans0 ((Mod.refl w2 []).drew))
  clear HB0 HR0 HM0
  generalize w2.drew = wd at *
  refine He.wpE_take (i := 0) (v := ?_) rfl (by kernel_rfl) (by kernel_rfl) (by kernel_rfl) (by kernel_rfl) (by kernel_rfl) (fun _ _ _ h => h) (by rfl) ?_ (by assumption) ?_
  rotate_left
  · (intro w' hSw; (try dsimp only at hSw); go_simp; first | done | with_reducible rfl)
  try simp only [List.getElem_toArray, List.getElem_cons_succ, List.getElem_cons_zero, Act.put, List.setIfInBounds_toArray, List.set_cons_zero, List.set_cons_succ]
  refine He.wpE_take (i := 1) (v := ?_) rfl (by kernel_rfl) (by kernel_rfl) (by kernel_rfl) (by kernel_rfl) (by kernel_rfl) (fun _ _ _ h => h) (by rfl) ?_ (by assumption) ?_
  rotate_left
  · (intro w' hSw; (try dsimp only at hSw); go_simp; first | done | with_reducible rfl)
  try simp only [List.getElem_toArray, List.getElem_cons_succ, List.getElem_cons_zero, Act.put, List.setIfInBounds_toArray, List.set_cons_zero, List.set_cons_succ]
  refine He.wpE_take (i := 2) (v := ?_) rfl (by kernel_rfl) (by kernel_rfl) (by kernel_rfl) (by kernel_rfl) (by kernel_rfl) (fun _ _ _ h => h) (by rfl) ?_ (by assumption) ?_
  rotate_left
  · (intro w' hSw; (try dsimp only at hSw); go_simp; first | done | with_reducible rfl)
  try simp only [List.getElem_toArray, List.getElem_cons_succ, List.getElem_cons_zero, Act.put, List.setIfInBounds_toArray, List.set_cons_zero, List.set_cons_succ]
  refine He.wpE_take (i := 3) (v := ?_) rfl (by kernel_rfl) (by kernel_rfl) (by kernel_rfl) (by kernel_rfl) (by kernel_rfl) (fun _ _ _ h => h) (by rfl) ?_ (by assumption) ?_
  rotate_left
  · (intro w' hSw; (try dsimp only at hSw); go_simp; first | done | with_reducible rfl)
  try simp only [List.getElem_toArray, List.getElem_cons_succ, List.getElem_cons_zero, Act.put, List.setIfInBounds_toArray, List.set_cons_zero, List.set_cons_succ]
  refine He.wpE_take (i := 4) (v := ?_) rfl (by kernel_rfl) (by kernel_rfl) (by kernel_rfl) (by kernel_rfl) (by kernel_rfl) (fun _ _ _ h => h) (by rfl) ?_ (by assumption) ?_
  rotate_left
  · (intro w' hSw; (try dsimp only at hSw); go_simp; first | done | with_reducible rfl)
  try simp only [List.getElem_toArray, List.getElem_cons_succ, List.getElem_cons_zero, Act.put, List.setIfInBounds_toArray, List.set_cons_zero, List.set_cons_succ]
  refine He.wpE_take (i := 5) (v := ?_) rfl (by kernel_rfl) (by kernel_rfl) (by kernel_rfl) (by kernel_rfl) (by kernel_rfl) (fun _ _ _ h => h) (by rfl) ?_ (by assumption) ?_
  rotate_left
  · (intro w' hSw; (try dsimp only at hSw); go_simp; first | done | with_reducible rfl)
  try simp only [List.getElem_toArray, List.getElem_cons_succ, List.getElem_cons_zero, Act.put, List.setIfInBounds_toArray, List.set_cons_zero, List.set_cons_succ]
  refine He.wpE_take (i := 6) (v := ?_) rfl (by kernel_rfl) (by kernel_rfl) (by kernel_rfl) (by kernel_rfl) (by kernel_rfl) (fun _ _ _ h => h) (by rfl) ?_ (by assumption) ?_
  rotate_left
  · (intro w' hSw; (try dsimp only at hSw); go_simp; first | done | with_reducible rfl)
  try simp only [List.getElem_toArray, List.getElem_cons_succ, List.getElem_cons_zero, Act.put, List.setIfInBounds_toArray, List.set_cons_zero, List.set_cons_succ]
  refine He.wpE_take (i := 7) (v := ?_) rfl (by kernel_rfl) (by kernel_rfl) (by kernel_rfl) (by kernel_rfl) (by kernel_rfl) (fun _ _ _ h => h) (by rfl) ?_ (by assumption) ?_
  rotate_left
  · (intro w' hSw; (try dsimp only at hSw); go_simp; first | done | with_reducible rfl)
  try simp only [List.getElem_toArray, List.getElem_cons_succ, List.getElem_cons_zero, Act.put, List.setIfInBounds_toArray, List.set_cons_zero, List.set_cons_succ]
  refine He.wpE_take (i := 8) (v := ?_) rfl (by kernel_rfl) (by kernel_rfl) (by kernel_rfl) (by kernel_rfl) (by kernel_rfl) (fun _ _ _ h => h) (by rfl) ?_ (by assumption) ?_
  rotate_left
  · (intro w' hSw; (try dsimp only at hSw); go_simp; first | done | with_reducible rfl)
  try simp only [List.getElem_toArray, List.getElem_cons_succ, List.getElem_cons_zero, Act.put, List.setIfInBounds_toArray, List.set_cons_zero, List.set_cons_succ]
  refine He.wpE_take (i := 9) (v := ?_) rfl (by kernel_rfl) (by kernel_rfl) (by kernel_rfl) (by kernel_rfl) (by kernel_rfl) (fun _ _ _ h => h) (by rfl) ?_ (by assumption) ?_
  rotate_left
  · (intro w' hSw; (try dsimp only at hSw); go_simp; first | done | with_reducible rfl)
  try simp only [List.getElem_toArray, List.getElem_cons_succ, List.getElem_cons_zero, Act.put, List.setIfInBounds_toArray, List.set_cons_zero, List.set_cons_succ]
  refine He.wpE_take (i := 10) (v := ?_) rfl (by kernel_rfl) (by kernel_rfl) (by kernel_rfl) (by kernel_rfl) (by kernel_rfl) (fun _ _ _ h => h) (by rfl) ?_ (by assumption) ?_
  rotate_left
  · (intro w' hSw; (try dsimp only at hSw); go_simp; first | done | with_reducible rfl)
  try simp only [List.getElem_toArray, List.getElem_cons_succ, List.getElem_cons_zero, Act.put, List.setIfInBounds_toArray, List.set_cons_zero, List.set_cons_succ]
  refine He.wpE_take (i := 11) (v := ?_) rfl (by kernel_rfl) (by kernel_rfl) (by kernel_rfl) (by kernel_rfl) (by kernel_rfl) (fun _ _ _ h => h) (by rfl) ?_ (by assumption) ?_
  rotate_left
  · (intro w' hSw; (try dsimp only at hSw); go_simp; first | done | with_reducible rfl)
  try simp only [List.getElem_toArray, List.getElem_cons_succ, List.getElem_cons_zero, Act.put, List.setIfInBounds_toArray, List.set_cons_zero, List.set_cons_succ]
  refine He.wpE_take (i := 12) (v := ?_) rfl (by kernel_rfl) (by kernel_rfl) (by kernel_rfl) (by kernel_rfl) (by kernel_rfl) (fun _ _ _ h => h) (by rfl) ?_ (by assumption) ?_
  rotate_left
  · (intro w' hSw; (try dsimp only at hSw); go_simp; first | done | with_reducible rfl)
  try simp only [List.getElem_toArray, List.getElem_cons_succ, List.getElem_cons_zero, Act.put, List.setIfInBounds_toArray, List.set_cons_zero, List.set_cons_succ]
  refine He.wpE_take (i := 13) (v := ?_) rfl (by kernel_rfl) (by kernel_rfl) (by kernel_rfl) (by kernel_rfl) (by kernel_rfl) (fun _ _ _ h => h) (by rfl) ?_ (by assumption) ?_
  rotate_left
  · (intro w' hSw; (try dsimp only at hSw); go_simp; first | done | with_reducible rfl)
  try simp only [List.getElem_toArray, List.getElem_cons_succ, List.getElem_cons_zero, Act.put, List.setIfInBounds_toArray, List.set_cons_zero, List.set_cons_succ]
  refine He.wpE_take (i := 14) (v := ?_) rfl (by kernel_rfl) (by kernel_rfl) (by kernel_rfl) (by kernel_rfl) (by kernel_rfl) (fun _ _ _ h => h) (by rfl) ?_ (by assumption) ?_
  rotate_left
  · (intro w' hSw; (try dsimp only at hSw); go_simp; first | done | with_reducible rfl)
  try simp only [List.getElem_toArray, List.getElem_cons_succ, List.getElem_cons_zero, Act.put, List.setIfInBounds_toArray, List.set_cons_zero, List.set_cons_succ]
  refine He.wpE_take (i := 15) (v := ?_) rfl (by kernel_rfl) (by kernel_rfl) (by kernel_rfl) (by kernel_rfl) (by kernel_rfl) (fun _ _ _ h => h) (by rfl) ?_ (by assumption) ?_
  rotate_left
  · (intro w' hSw; (try dsimp only at hSw); go_simp; first | done | with_reducible rfl)
  try simp only [List.getElem_toArray, List.getElem_cons_succ, List.getElem_cons_zero, Act.put, List.setIfInBounds_toArray, List.set_cons_zero, List.set_cons_succ]
  refine He.wpE_take (i := 16) (v := ?_) rfl (by kernel_rfl) (by kernel_rfl) (by kernel_rfl) (by kernel_rfl) (by kernel_rfl) (fun _ _ _ h => h) (by rfl) ?_ (by assumption) ?_
  rotate_left
  · (intro w' hSw; (try dsimp only at hSw); go_simp; first | done | with_reducible rfl)
  try simp only [List.getElem_toArray, List.getElem_cons_succ, List.getElem_cons_zero, Act.put, List.setIfInBounds_toArray, List.set_cons_zero, List.set_cons_succ]
  refine He.wpE_take (i := 17) (v := ?_) rfl (by kernel_rfl) (by kernel_rfl) (by kernel_rfl) (by kernel_rfl) (by kernel_rfl) (fun _ _ _ h => h) (by rfl) ?_ (by assumption) ?_
  rotate_left
  · (intro w' hSw; (try dsimp only at hSw); go_simp; first | done | with_reducible rfl)
  try simp only [List.getElem_toArray, List.getElem_cons_succ, List.getElem_cons_zero, Act.put, List.setIfInBounds_toArray, List.set_cons_zero, List.set_cons_succ]
  refine He.wpE_take (i := 19) (v := ?_) rfl (by kernel_rfl) (by kernel_rfl) (by kernel_rfl) (by kernel_rfl) (by kernel_rfl) (fun _ _ _ h => h) (by rfl) ?_ (by assumption) ?_
  rotate_left
  · (intro w' hSw; (try dsimp only at hSw); go_simp; first | done | with_reducible rfl)
  try simp only [List.getElem_toArray, List.getElem_cons_succ, List.getElem_cons_zero, Act.put, List.setIfInBounds_toArray, List.set_cons_zero, List.set_cons_succ]
  refine He.wpE_take (i := 20) (v := ?_) rfl (by kernel_rfl) (by kernel_rfl) (by kernel_rfl) (by kernel_rfl) (by kernel_rfl) (fun _ _ _ h => h) (by rfl) ?_ (by assumption) ?_
  rotate_left
  · (intro w' hSw; (try dsimp only at hSw); go_simp; first | done | with_reducible rfl)
  try simp only [List.getElem_toArray, List.getElem_cons_succ, List.getElem_cons_zero, Act.put, List.setIfInBounds_toArray, List.set_cons_zero, List.set_cons_succ]
  refine He.wpE_one (i := 18) (by kernel_rfl) rfl (by rfl) (fun K hK => ?_)
  go_simp
  (with_reducible refine (RC.out _ HMd.out).mono ?_)
  rintro e w3 ⟨v', rfl, hm3, ho3⟩
  obtain ⟨va, vc, rfl⟩ := Rw.own_slice ho3
  have HB3 := Lib.hid (HBd.out.mod hm3 (by simp))
  have HR3 := Lib.hid (HRd.out.mod hm3 (by simp))
  have HM3 := Lib.hid (HMd.out.trans0 hm3)
  have HO3 := Lib.hid (show w3.ownsRow w.heap.size 142 4 (.slice va es.length vc) es.length (rowsE es) from by
    obtain ⟨o0, o1⟩ := ho3
    have := HMd.out.size
    exact ⟨o0, o1.imp id (fun ⟨g, cap, cur, e, hg, r⟩ => ⟨g, cap, cur, e, by omega, r⟩)⟩)
  have S3 : w3.cell? ⟨w.heap.size, 0, none⟩ = some (.int .i64 kind) ∧ w3.cell? ⟨w.heap.size, 1, none⟩ = some (.int .i64 frm) ∧ w3.cell? ⟨w.heap.size, 2, none⟩ = some (.int .i64 dst) ∧ w3.cell? ⟨w.heap.size, 3, none⟩ = some (.int .i64 term) ∧ w3.cell? ⟨w.heap.size, 4, none⟩ = some (.int .i64 index) ∧ w3.cell? ⟨w.heap.size, 5, none⟩ = some (.int .i64 lt) ∧ w3.cell? ⟨w.heap.size, 6, none⟩ = some (.int .i64 commit) ∧ w3.cell? ⟨w.heap.size, 7, none⟩ = some (.bool yes) ∧ w3.cell? ⟨w.heap.size, 8, none⟩ = some (.slice ad es.length cap) ∧ w3.cell? ⟨w.heap.size, 9, none⟩ = some (.int .i64 si) ∧ w3.cell? ⟨w.heap.size, 10, none⟩ = some (.int .i64 st) ∧ w3.cell? ⟨w.heap.size, 11, none⟩ = some (.int .i64 sm) ∧ w3.cell? ⟨w.heap.size, 12, none⟩ = some (.string sx) := ⟨HB3.out.cell 0, HB3.out.cell 1, HB3.out.cell 2, HB3.out.cell 3, HB3.out.cell 4, HB3.out.cell 5, HB3.out.cell 6, HB3.out.cell 7, HB3.out.cell 8, HB3.out.cell 9, HB3.out.cell 10, HB3.out.cell 11, HB3.out.cell 12⟩
  refine hK.out _ _ (fun _ => S3) ?_
  clear hK K hm3 ho3 S0 HBd HRd HMd RC
  try simp only [Act.put, List.setIfInBounds_toArray, List.set_cons_zero, List.set_cons_succ]
  refine He.wpE_take (i := 21) (v := ?_) rfl (by kernel_rfl) (by kernel_rfl) (by kernel_rfl) (by kernel_rfl) (by kernel_rfl) (fun _ _ _ h => h) (by rfl) ?_ (by assumption) ?_
  rotate_left
  · (intro w' hSw; (try dsimp only at hSw); go_simp; first | done | with_reducible rfl)
  try simp only [List.getElem_toArray, List.getElem_cons_succ, List.getElem_cons_zero, Act.put, List.setIfInBounds_toArray, List.set_cons_zero, List.set_cons_succ]
  refine He.wpE_one (i := 22) (by kernel_rfl) rfl (by rfl) (fun K hK => ?_)
  have z0 := HR3.out.cell 0
  have f0 := HR3.out.free 0
  have z1 := HR3.out.cell 1
  have f1 := HR3.out.free 1
  have z2 := HR3.out.cell 2
  have f2 := HR3.out.free 2
  have z3 := HR3.out.cell 3
  have f3 := HR3.out.free 3
  have z4 := HR3.out.cell 4
  have f4 := HR3.out.free 4
  have z5 := HR3.out.cell 5
  have f5 := HR3.out.free 5
  have z6 := HR3.out.cell 6
  have f6 := HR3.out.free 6
  have z7 := HR3.out.cell 7
  have f7 := HR3.out.free 7
  have z8 := HR3.out.cell 8
  have f8 := HR3.out.free 8
  have z9 := HR3.out.cell 9
  have f9 := HR3.out.free 9
  have z10 := HR3.out.cell 10
  have f10 := HR3.out.free 10
  have z11 := HR3.out.cell 11
  have f11 := HR3.out.free 11
  have z12 := HR3.out.cell 12
  have f12 := HR3.out.free 12
  go_simp
  refine hK.out _ _ (fun h => absurd rfl h) ?_
  clear hK K
  refine He.wpE_done (by kernel_rfl) ?_
  try simp only [Act.put, List.setIfInBounds_toArray, List.set_cons_zero, List.set_cons_succ]
  clear S3 z0 f0 z1 f1 z2 f2 z3 f3 z4 f4 z5 f5 z6 f6 z7 f7 z8 f8 z9 f9 z10 f10 z11 f11 z12 f12
  have HR4 := Lib.hid (put13 HR3.out (.int .i64 kind) (.int .i64 frm) (.int .i64 dst) (.int .i64 term) (.int .i64 index) (.int .i64 lt) (.int .i64 commit) (.bool yes) (.slice va es.length vc) (.int .i64 si) (.int .i64 st) (.int .i64 sm) (.string sx))
  have hm4 := mod13 w3 (w.heap.size + 1) (.int .i64 kind) (.int .i64 frm) (.int .i64 dst) (.int .i64 term) (.int .i64 index) (.int .i64 lt) (.int .i64 commit) (.bool yes) (.slice va es.length vc) (.int .i64 si) (.int .i64 st) (.int .i64 sm) (.string sx)
  have HM4 := Lib.hid (show Mod w _ [] from HM3.out.trans hm4 (by intro r hr; simp only [List.mem_singleton] at hr; subst hr; exact .inr (Nat.le_succ _)))
  have HO4 := Lib.hid (own_mod HO3.out hm4 (fun k hk hmm => by
    obtain ⟨_, ⟨e, _⟩ | ⟨g, cap, cur, e, _, hc, _⟩⟩ := HO3.out
    · rw [e] at hk; cases hk
    · have hkg : k = g := by rw [e] at hk; simpa [Value.ownBlock] using hk.symm
      rw [List.mem_singleton] at hmm
      subst hkg hmm
      exact absurd rfl (blk_ne (show Blk w3 _ cur 142 from hc) HR3.out (by decide))))
  clear hm4 HR3 HM3 HO3
  generalize World.setCell _ ⟨w.heap.size + 1, 12, none⟩ _ = w4 at *
  have r0 := HR4.out.cell 0
  have r1 := HR4.out.cell 1
  have r2 := HR4.out.cell 2
  have r3 := HR4.out.cell 3
  have r4 := HR4.out.cell 4
  have r5 := HR4.out.cell 5
  have r6 := HR4.out.cell 6
  have r7 := HR4.out.cell 7
  have r8 := HR4.out.cell 8
  have r9 := HR4.out.cell 9
  have r10 := HR4.out.cell 10
  have r11 := HR4.out.cell 11
  have r12 := HR4.out.cell 12
  go_wp2_with fail
  refine bodyPost_ret (v := .agg #[.int .i64 kind, .int .i64 frm, .int .i64 dst, .int .i64 term, .int .i64 index, .int .i64 lt, .int .i64 commit, .bool yes, .slice va es.length vc, .int .i64 si, .int .i64 st, .int .i64 sm, .string sx]) (by simp [results, Try.results31, go_sem, r0, r1, r2, r3, r4, r5, r6, r7, r8, r9, r10, r11, r12]) rfl ⟨.slice va es.length vc, rfl, HM4.out, HO4.out⟩
theorem rsn_eq (i t m : Int) (s : ByteArray) (w : World) : (binOp .neq 86 (.agg #[.int .i64 i, .int .i64 t, .int .i64 m, .string s]) (.agg #[.int .i64 i, .int .i64 t, .int .i64 m, .string s])).run Try.prog w = .ok (.bool false) w := by
  have hS : Try.prog.underlying 86 = some (.struct (Try.prog.fieldsOf 86)) := by kernel_rfl
  have hp : Try.prog.stoodInHeld 86 = false := by kernel_rfl
  rw [run_neq_struct, show (10000 : Nat) = 9999 + 1 from rfl, run_equalIn_agg w 9999 86 _ _ hS hp]
  simp only [Program.fieldsOf, Try.underlying86]
  have u3 := Try.underlying3
  have u9 := Try.underlying9
  go_simp
theorem ren_eq (t k m : Int) (s : ByteArray) (w : World) : (binOp .neq 142 (.agg #[.int .i64 t, .int .i64 k, .int .i64 m, .string s]) (.agg #[.int .i64 t, .int .i64 k, .int .i64 m, .string s])).run Try.prog w = .ok (.bool false) w := by
  have hS : Try.prog.underlying 142 = some (.struct (Try.prog.fieldsOf 142)) := by kernel_rfl
  have hp : Try.prog.stoodInHeld 142 = false := by kernel_rfl
  rw [run_neq_struct, show (10000 : Nat) = 9999 + 1 from rfl, run_equalIn_agg w 9999 142 _ _ hS hp]
  simp only [Program.fieldsOf, Try.underlying142]
  have u3 := Try.underlying3
  have u9 := Try.underlying9
  go_simp
set_option maxHeartbeats 4000000 in
theorem sameE_calls (va vb : Value) (l : List En) (w : World) (ha : EnsV w va l) (hb : EnsV w vb l) (hn : l.length ≤ 100000) :
    Calls Try.prog 127 #[va, vb] w fun e w' => e = .returned (.bool true) ∧ Mod w w' [] := by
  obtain ⟨aa, ac, rfl, _, hra⟩ := ha
  obtain ⟨ba, bc, rfl, _, hrb⟩ := hb
  have HA := Lib.hid hra
  have HB := Lib.hid hrb
  clear hra hrb
  have hn' : (l.length : Int) ≤ 100000 := by omega
  go_enter Try.func127, Try.ntmps127
  go_wp2_with fail
  go_loopw [5] (fun vi wr => ∃ i : Nat, i ≤ l.length ∧ vi = .int .i64 (i : Int) ∧ Mod w wr []) (fun vi _ => l.length + 1 - (intOf vi).toNat)
  case atStart => exact ⟨0, Nat.zero_le _, rfl, Mod.refl _ _⟩
  case round =>
    obtain ⟨i, hi, rfl, hm⟩ := hrel
    have HM := Lib.hid hm
    clear hm
    by_cases hlt : i < l.length
    · have hlt' : (i : Int) < l.length := by omega
      obtain ⟨b1, o1, rfl, hc1⟩ := HA.out.resolve_left (fun h => by rw [h] at hlt; simp at hlt)
      obtain ⟨b2, o2, rfl, hc2⟩ := HB.out.resolve_left (fun h => by rw [h] at hlt; simp at hlt)
      obtain ⟨e0, e1, e2, e3⟩ := (hc1 i hlt).mod HM.out
      obtain ⟨f0, f1, f2, f3⟩ := (hc2 i hlt).mod HM.out
      clear hc1 hc2
      generalize l[i]'hlt = x at *
      obtain ⟨xt, xk, xm, xs⟩ := x
      simp only at e0 e1 e2 e3 f0 f1 f2 f3
      have EQ := ren_eq xt xk xm xs
      go_wp2_with fail
      go_quiet (fail)
      have HMq := Lib.hid (HM.out.drewN nq)
      clear HM EQ e0 e1 e2 e3 f0 f1 f2 f3
      generalize World.drewN _ nq = wq at *
      go_wp2_with fail
      go_roundw
      case rel => exact ⟨i + 1, by omega, by go_num, HMq.out⟩
      case measure => simp [intOf]; omega
    · obtain rfl : i = l.length := by omega
      go_wp2_with fail
      go_ret
      exact ⟨rfl, HM.out⟩
set_option maxHeartbeats 8000000 in
theorem sameM_calls (m : Ms) (va vb : Value) (w : World) (ha : EnsV w va m.es) (hb : EnsV w vb m.es) (hn : m.es.length ≤ 100000) :
    Calls Try.prog 92 #[msV m va, msV m vb] w fun e w' => e = .returned (.bool true) ∧ Mod w w' [] := by
  have EC := Lib.hid (fun w' (k : Mod w w' []) => sameE_calls va vb m.es w' (ha.mod k) (hb.mod k) hn)
  obtain ⟨aa, ac, rfl, _, _⟩ := ha
  obtain ⟨ba, bc, rfl, _, _⟩ := hb
  obtain ⟨kind, frm, dst, term, index, lt, commit, yes, es, si, st, sm, sx⟩ := m
  simp only at hn EC
  show Calls _ _ #[.agg #[.int .i64 kind, .int .i64 frm, .int .i64 dst, .int .i64 term, .int .i64 index, .int .i64 lt, .int .i64 commit, .bool yes, .slice aa es.length ac, .int .i64 si, .int .i64 st, .int .i64 sm, .string sx], .agg #[.int .i64 kind, .int .i64 frm, .int .i64 dst, .int .i64 term, .int .i64 index, .int .i64 lt, .int .i64 commit, .bool yes, .slice ba es.length bc, .int .i64 si, .int .i64 st, .int .i64 sm, .string sx]] _ _
  have HM := Lib.hid (((Mod.refl w []).alloc (.cells #[.int .i64 kind, .int .i64 frm, .int .i64 dst, .int .i64 term, .int .i64 index, .int .i64 lt, .int .i64 commit, .bool yes, .slice aa es.length ac, .int .i64 si, .int .i64 st, .int .i64 sm, .string sx] 88)).alloc (.cells #[.int .i64 kind, .int .i64 frm, .int .i64 dst, .int .i64 term, .int .i64 index, .int .i64 lt, .int .i64 commit, .bool yes, .slice ba es.length bc, .int .i64 si, .int .i64 st, .int .i64 sm, .string sx] 88))
  have EC1 := Lib.hid (EC.out _ HM.out)
  have EQ := rsn_eq si st sm sx
  clear EC
  go_enter Try.func92, Try.ntmps92
  go_wp2_with fail
  (with_reducible refine (EC1.out).mono ?_)
  rintro e w1 ⟨rfl, hm1⟩
  have HM1 := Lib.hid (HM.out.trans0 hm1)
  clear hm1
  go_wp2_with fail
  go_ret
  exact ⟨rfl, HM1.out⟩
end Go.Proofs.Ytgmenlfhkhdbdaa.Ra
