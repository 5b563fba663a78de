/- The reference's items in memory: refs, Same, ahead, First, Drop. -/
import Derived.Test.YtceocpohdckkoaaAgC
import Derived.Laws.AppendOwn
namespace Go.Proofs.Ytceocpohdckkoaa.Ag
open Go.RowKit Mem
set_option linter.unusedSimpArgs false
set_option linter.unusedVariables false
set_option maxRecDepth 100000

/-- A row of the reference's items, wherever it begins. -/
def RfAt (w : World) (v : Value) (l : List It) : Prop :=
  (v = .slice none 0 0 ∧ l = []) ∨ ∃ g off cap, v = .slice (some ⟨g, off, none⟩) l.length cap ∧ l.length ≤ cap ∧ cap ≤ maxLen ∧ (∃ cs, Blk w g cs 127) ∧
    ∀ i (hi : i < l.length), w.cell? ⟨g, off + i * 3, none⟩ = some (.int .i64 l[i].1) ∧ w.cell? ⟨g, off + i * 3 + 1, none⟩ = some (.int .i64 l[i].2.1) ∧ w.cell? ⟨g, off + i * 3 + 2, none⟩ = some (.int .i64 l[i].2.2)
theorem RfAt.nil (w : World) : RfAt w (.slice none 0 0) [] := .inl ⟨rfl, rfl⟩
theorem RfAt.mod {w w' : World} {v : Value} {l : List It} (h : RfAt w v l) (m : Mod w w' []) : RfAt w' v l := by
  rcases h with h | ⟨g, off, cap, h1, h2, h3, h4, h5⟩
  · exact .inl h
  · exact .inr ⟨g, off, cap, h1, h2, h3, h4.elim fun cs hb => ⟨cs, hb.mod m (by simp)⟩, fun i hi => ⟨keepC m (h5 i hi).1, keepC m (h5 i hi).2.1, keepC m (h5 i hi).2.2⟩⟩
theorem RfAt.slice {w : World} {v : Value} {l : List It} (h : RfAt w v l) : ∃ a c, v = .slice a l.length c := by
  rcases h with ⟨h1, h2⟩ | ⟨g, off, cap, h1, _⟩
  · exact ⟨none, 0, by rw [h1, h2]; rfl⟩
  · exact ⟨_, _, h1⟩
/-- A row of the reference's items that is owned. -/
def RoAt (w : World) (base : Nat) (v : Value) (l : List It) : Prop := w.ownsRow base 127 3 v l.length (rowsI l)
theorem RoAt.rf {w : World} {base : Nat} {v : Value} {l : List It} (h : RoAt w base v l) : RfAt w v l := by
  rcases Rw.own_cellN h with ⟨h1, h2, _⟩ | ⟨g, cap, h1, h2, h3, h4, h5, h6⟩
  · exact .inl ⟨h1, List.eq_nil_of_length_eq_zero h2⟩
  · obtain ⟨cur, hb⟩ := own_blk h g (by rw [h1]; rfl)
    refine .inr ⟨g, 0, cap, h1, h3, h4, ⟨cur, hb⟩, fun i hi => ?_⟩
    obtain ⟨e0, e1, e2⟩ := rowsI_get l i hi
    obtain ⟨q0, q0'⟩ := List.getElem?_eq_some_iff.1 e0
    obtain ⟨q1, q1'⟩ := List.getElem?_eq_some_iff.1 e1
    obtain ⟨q2, q2'⟩ := List.getElem?_eq_some_iff.1 e2
    simp only [Nat.zero_add]
    exact ⟨by rw [h6 _ q0, q0'], by rw [h6 _ q1, q1'], by rw [h6 _ q2, q2']⟩
theorem info_rit : (Try.prog.info? 127).map (fun i => (i.zero, i.size, i.bytes)) = some (some (.agg #[.int .i64 0, .int .i64 0, .int .i64 0]), 3, 24) := by kernel_rfl

set_option maxHeartbeats 2000000 in
theorem refs_calls (base : Nat) (v : Value) (l : List It) (w : World) (h : ItAt w base v l) (hn : l.length ≤ 5000) :
    Calls Try.prog 39 #[v] w fun e w' => ∃ v', e = .returned v' ∧ Mod w w' [] ∧ RoAt w' w.heap.size v' l := by
  obtain ⟨i0, hi0, hz0, hz1, hz2⟩ := info_parts info_rit
  have HR := Lib.hid h
  obtain ⟨a, c, rfl⟩ := Rw.own_slice h
  clear h
  have hn' : (l.length : Int) ≤ 5000 := by omega
  go_enter Try.func39, Try.ntmps39
  go_wp2_with fail
  go_loopw [3, 4] (fun vl vi wr => ∃ (i : Nat) (ga : Option Addr) (gc : Nat), i ≤ l.length ∧ vl = .slice ga i gc ∧ vi = .int .i64 (i : Int) ∧ Mod w wr [] ∧ RoAt wr w.heap.size (.slice ga i gc) (l.take i)) (fun _ vi _ => l.length + 1 - (intOf vi).toNat)
  case atStart => exact ⟨0, none, 0, Nat.zero_le _, rfl, rfl, Mod.refl _ _, World.ownsRow_nil _ _ _ _⟩
  case round =>
    obtain ⟨i, ga, gc, hi, rfl, rfl, hm, hrow⟩ := hrel
    have HM := Lib.hid hm
    have htl : (l.take i).length = i := by rw [List.length_take]; omega
    have hown : wr.ownsRow w.heap.size 127 3 (.slice ga i gc) i (rowsI (l.take i)) := by have h := hrow; unfold RoAt at h; rw [htl] at h; exact h
    by_cases hlt : i < l.length
    · have hlt' : (i : Int) < l.length := by omega
      have HS := Lib.hid (show rowsI (l.take (i + 1)) = rowsI (l.take i) ++ itC (l[i]'hlt) by rw [List.take_succ_eq_append_getElem hlt, rowsI_append]; simp [rowsI])
      rcases HR.out.shape with ⟨_, h0⟩ | ⟨g, cap, hv, h1, h2, h3, hgl, _, h4⟩
      · rw [h0] at hlt; simp at hlt
      · obtain ⟨d0, d1, d2⟩ := h4 i hlt
        have c0 := keepC HM.out d0
        have c1 := keepC HM.out d1
        have c2 := keepC HM.out d2
        injection hv with e1 e2 e3
        subst e1 e3
        clear d0 d1 d2 h4 e2 hm
        generalize l[i]'hlt = x at *
        obtain ⟨x1, x2, x3⟩ := x
        simp only at c0 c1 c2
        have HO := Lib.hid hown
        have H2C := Lib.hid (it_three (Blk.new wr #[.int .i64 x1, .int .i64 x2, .int .i64 x3] 127))
        clear hown hrow
        generalize hys : rowsI (l.take i) = ys at *
        go_wp2_with (at_builtin; refine wpList_append_own _ rfl _ _ 73 rfl w.heap.size 127 i0 _ 3 24 Try.underlying73 hi0 hz0 hz1 hz2 rfl (by decide) _ _ _ rfl (HO.out.alloc _) ⟨wr.heap.size, 0, none⟩ 1 1 [.int .i64 x1, .int .i64 x2, .int .i64 x3] rfl rfl H2C.out (by simp [Value.oneCell']) (by unfold maxLen; omega) (by omega) (by have := HM.out.size; simp; omega) ?_; intro v' w1 hown' hgrow hnil; clear hnil; have HO1 := Lib.hid hown'; have HG1 := Lib.hid hgrow; clear hown' hgrow; obtain ⟨ga', gc', rfl⟩ := Rw.own_slice HO1.out)
        go_roundw
        case rel =>
          refine ⟨i + 1, ga', gc', by omega, rfl, by go_num, (HM.out.alloc _).grown HG1.out (fun k hk => .inr (by have := own_ge HO.out k hk; omega)), ?_⟩
          unfold RoAt
          rw [HS.out, show (l.take (i + 1)).length = i + 1 by rw [List.length_take]; omega]
          exact HO1.out
        case measure => simp [intOf]; omega
    · have hge : (l.length : Int) ≤ i := by omega
      have hii : i = l.length := by omega
      have HF : Hid (RoAt wr w.heap.size (.slice ga i gc) l) := Lib.hid (by have h := hrow; rw [hii, List.take_length] at h; rw [hii]; exact h)
      clear hrow hown hm
      go_wp2_with fail
      go_ret
      exact ⟨_, rfl, HM.out, HF.out⟩

set_option maxHeartbeats 1000000 in
theorem rahead_calls (a b : It) (w : World) : Calls Try.prog 77 #[itV a, itV b] w fun e w' => e = .returned (.bool (soon a b)) ∧ Mod w w' [] := by
  have HS := Lib.hid (@soon_iff a b)
  obtain ⟨a1, a2, a3⟩ := a
  obtain ⟨b1, b2, b3⟩ := b
  have HM := Lib.hid (((Mod.refl w []).alloc (.cells #[.int .i64 a1, .int .i64 a2, .int .i64 a3] 127)).alloc (.cells #[.int .i64 b1, .int .i64 b2, .int .i64 b3] 127))
  have HN : Hid (¬(a1 < b1 ∨ a1 = b1 ∧ a2 < b2) → soon (a1, a2, a3) (b1, b2, b3) = false) := Lib.hid (fun h => by
    cases hh : soon (a1, a2, a3) (b1, b2, b3) with
    | false => rfl
    | true => exact absurd (HS.out.1 hh) h)
  show Calls _ _ #[.agg #[.int .i64 a1, .int .i64 a2, .int .i64 a3], .agg #[.int .i64 b1, .int .i64 b2, .int .i64 b3]] _ _
  by_cases h1 : a1 < b1
  · have hr := Lib.hid (HS.out.2 (.inl h1)).symm
    clear HS HN
    go_enter Try.func77, Try.ntmps77
    go_wp2_with fail
    go_ret
    exact ⟨bool_ret hr.out, HM.out⟩
  · have h1' : b1 ≤ a1 := by omega
    by_cases h2 : a1 = b1
    · subst h2
      by_cases h3 : a2 < b2
      · have hr := Lib.hid (HS.out.2 (.inr ⟨rfl, h3⟩)).symm
        clear HS HN h1 h1'
        go_enter Try.func77, Try.ntmps77
        go_wp2_with fail
        go_ret
        exact ⟨bool_ret hr.out, HM.out⟩
      · have h3' : b2 ≤ a2 := by omega
        have hr := Lib.hid (show decide (a2 < b2) = soon (a1, a2, a3) (a1, b2, b3) by rw [decide_eq_false h3]; exact (HN.out (by omega)).symm)
        clear HS HN h1 h1' h3
        go_enter Try.func77, Try.ntmps77
        go_wp2_with fail
        go_ret
        exact ⟨bool_ret hr.out, HM.out⟩
    · have hr := Lib.hid (show decide (a1 < b1) = soon (a1, a2, a3) (b1, b2, b3) by rw [decide_eq_false h1]; exact (HN.out (by omega)).symm)
      have h2' : (a1 == b1) = false := by rw [beq_eq_false_iff_ne]; exact h2
      clear HS HN h1 h2
      go_enter Try.func77, Try.ntmps77
      go_wp2_with fail
      go_ret
      exact ⟨bool_ret hr.out, HM.out⟩

def agV (v : Value) (last : Int) : Value := .agg #[v, .int .i64 last]
set_option maxHeartbeats 1000000 in
theorem rfirst_empty (last : Int) (v : Value) (w : World) (h : RfAt w v []) :
    Calls Try.prog 64 #[agV v last] w fun e w' => e = .returned (.tuple #[itV z0, .bool false]) ∧ Mod w w' [] := by
  obtain ⟨a, c, rfl⟩ := h.slice
  clear h
  show Calls _ _ #[.agg #[.slice a 0 c, .int .i64 last]] _ _
  go_enter Try.func64, Try.ntmps64
  go_wp2_with fail
  refine bodyPost_ret (v := .tuple #[itV z0, .bool false]) (by simp [results, Try.results64, go_sem, itV, z0]) rfl ⟨rfl, ?_⟩
  exact ((Mod.refl _ _).alloc _).alloc _
set_option maxHeartbeats 1000000 in
theorem rfirst_cons (last : Int) (v : Value) (s : It) (l : List It) (w : World) (h : RfAt w v (s :: l)) (hn : l.length ≤ 5000) :
    Calls Try.prog 64 #[agV v last] w fun e w' => e = .returned (.tuple #[itV s, .bool true]) ∧ Mod w w' [] := by
  rcases h with ⟨_, h⟩ | ⟨g, off, cap, rfl, h2, h3, h4, h5⟩
  · cases h
  · obtain ⟨c0, c1, c2⟩ := h5 0 (by simp)
    obtain ⟨s1, s2, s3⟩ := s
    replace h4 : g < w.heap.size := h4.elim fun _ hb => hb.lt
    simp only [Nat.zero_mul, Nat.add_zero, List.getElem_cons_zero] at c0 c1 c2
    clear h5
    have hS : (0 : Int) < l.length + 1 := by omega
    have hS2 : ((l.length : Int) + 1 == 0) = false := by rw [beq_eq_false_iff_ne]; omega
    have hn' : (l.length : Int) ≤ 5000 := by omega
    show Calls _ _ #[.agg #[.slice (some ⟨g, off, none⟩) (l.length + 1) cap, .int .i64 last]] _ fun e w' => e = .returned (.tuple #[.agg #[.int .i64 s1, .int .i64 s2, .int .i64 s3], .bool true]) ∧ _
    go_enter Try.func64, Try.ntmps64
    go_wp2_with fail
    refine bodyPost_ret (v := .tuple #[.agg #[.int .i64 s1, .int .i64 s2, .int .i64 s3], .bool true]) (by simp [results, Try.results64, go_sem]) rfl ⟨rfl, ?_⟩
    exact ((Mod.refl _ _).alloc _).alloc _

theorem ret_bool {a b : Bool} (h : a = b) : Ending.returned (.bool a) = Ending.returned (.bool b) := by rw [h]
set_option maxHeartbeats 4000000 in
theorem same_calls (v1 v2 : Value) (l m : List It) (w : World) (h1 : RfAt w v1 l) (h2 : RfAt w v2 m) (hn : l.length ≤ 5000) (hm : m.length ≤ 5000) :
    Calls Try.prog 38 #[v1, v2] w fun e w' => e = .returned (.bool (decide (l = m))) ∧ Mod w w' [] := by
  have H1 := Lib.hid h1
  have H2 := Lib.hid h2
  obtain ⟨a1, c1, rfl⟩ := h1.slice
  obtain ⟨a2, c2, rfl⟩ := h2.slice
  have hn' : (l.length : Int) ≤ 5000 := by omega
  have hm' : (m.length : Int) ≤ 5000 := by omega
  clear h1 h2
  by_cases hlen : l.length = m.length
  · have hlen' : (l.length : Int) = (m.length : Int) := by omega
    go_enter Try.func38, Try.ntmps38
    go_wp2_with fail
    go_loopw [5] (fun vi wr => ∃ i : Nat, i ≤ l.length ∧ vi = .int .i64 (i : Int) ∧ Mod w wr [] ∧ Hid (∀ j (hj : j < l.length) (hj2 : j < m.length), j < i → l[j] = m[j])) (fun vi _ => l.length + 1 - (intOf vi).toNat)
    case atStart => exact ⟨0, Nat.zero_le _, rfl, Mod.refl _ _, Lib.hid (fun j _ _ h => by omega)⟩
    case round =>
      obtain ⟨i, hi, rfl, hmo, HJ⟩ := hrel
      have HM := Lib.hid hmo
      clear hmo
      by_cases hlt : i < l.length
      · have hlt' : (i : Int) < l.length := by omega
        have hlt2 : i < m.length := by omega
        have hlt2' : (i : Int) < m.length := by omega
        rcases H1.out with ⟨_, h0⟩ | ⟨g, off, cap, hv, _, _, _, h4⟩
        · rw [h0] at hlt; simp at hlt
        · rcases H2.out with ⟨_, h0⟩ | ⟨g2, off2, cap2, hv2, _, _, _, h5⟩
          · rw [h0] at hlt2; simp at hlt2
          · obtain ⟨d0, d1, d2⟩ := h4 i hlt
            obtain ⟨f0, f1, f2⟩ := h5 i hlt2
            have e0 := keepC HM.out d0
            have e1 := keepC HM.out d1
            have e2 := keepC HM.out d2
            have k0 := keepC HM.out f0
            have k1 := keepC HM.out f1
            have k2 := keepC HM.out f2
            injection hv with q1 q2 q3
            injection hv2 with q4 q5 q6
            subst q1 q3 q4 q6
            clear d0 d1 d2 f0 f1 f2 h4 h5 q2 q5
            have HX : Hid (l[i]'hlt = m[i]'hlt2 → ∀ j (hj : j < l.length) (hj2 : j < m.length), j < i + 1 → l[j] = m[j]) := Lib.hid (fun h j hj hj2 hji => by
              by_cases e : j = i
              · subst e; exact h
              · exact HJ.out j hj hj2 (by omega))
            have HY : Hid (l[i]'hlt ≠ m[i]'hlt2 → l ≠ m) := Lib.hid (fun h e => h (by simp only [e]))
            clear HJ
            generalize l[i]'hlt = x at *
            generalize m[i]'hlt2 = y at *
            obtain ⟨x1, x2, x3⟩ := x
            obtain ⟨y1, y2, y3⟩ := y
            simp only at e0 e1 e2 k0 k1 k2
            by_cases p : x1 = y1 ∧ x2 = y2 ∧ x3 = y3
            · obtain ⟨rfl, rfl, rfl⟩ := p
              have HXX := Lib.hid (HX.out rfl)
              clear HX HY
              go_wp2_with fail
              refine Fx.wp_region_f [] (fun _ w' => Mod wr w' []) (by kernel_rfl) (by decide) (Mod.refl _ _).drew ?_
              have hSS : ∀ (m' : Nat) w', Mod wr w' [] → _ := fun m' w' h => (⟨keepC h e0, keepC h e1, keepC h e2, keepC h k0, keepC h k1, keepC h k2⟩ : _ ∧ _ ∧ _ ∧ _ ∧ _ ∧ _)
              refine Fx.take (i := 0) (v := ?_) _ rfl (by kernel_rfl) (by kernel_rfl) (by rfl) hSS ?_ ?_
              rotate_left
              · (intro w' hSw; (try dsimp only at hSw); go_simp; first | done | with_reducible rfl)
              try simp only [List.getElem_toArray, List.getElem_cons_succ, List.getElem_cons_zero, Act.put, List.setIfInBounds_toArray, List.set_cons_zero, List.set_cons_succ]
              refine Fx.take (i := 1) (v := ?_) _ rfl (by kernel_rfl) (by kernel_rfl) (by rfl) hSS ?_ ?_
              rotate_left
              · (intro w' hSw; (try dsimp only at hSw); go_simp; first | done | with_reducible rfl)
              try simp only [List.getElem_toArray, List.getElem_cons_succ, List.getElem_cons_zero, Act.put, List.setIfInBounds_toArray, List.set_cons_zero, List.set_cons_succ]
              refine Fx.take (i := 2) (v := ?_) _ rfl (by kernel_rfl) (by kernel_rfl) (by rfl) hSS ?_ ?_
              rotate_left
              · (intro w' hSw; (try dsimp only at hSw); go_simp; first | done | with_reducible rfl)
              try simp only [List.getElem_toArray, List.getElem_cons_succ, List.getElem_cons_zero, Act.put, List.setIfInBounds_toArray, List.set_cons_zero, List.set_cons_succ]
              refine Fx.take (i := 3) (v := ?_) _ rfl (by kernel_rfl) (by kernel_rfl) (by rfl) hSS ?_ ?_
              rotate_left
              · (intro w' hSw; (try dsimp only at hSw); go_simp; first | done | with_reducible rfl)
              try simp only [List.getElem_toArray, List.getElem_cons_succ, List.getElem_cons_zero, Act.put, List.setIfInBounds_toArray, List.set_cons_zero, List.set_cons_succ]
              refine Fx.take (i := 4) (v := ?_) _ rfl (by kernel_rfl) (by kernel_rfl) (by rfl) hSS ?_ ?_
              rotate_left
              · (intro w' hSw; (try dsimp only at hSw); go_simp; first | done | with_reducible rfl)
              try simp only [List.getElem_toArray, List.getElem_cons_succ, List.getElem_cons_zero, Act.put, List.setIfInBounds_toArray, List.set_cons_zero, List.set_cons_succ]
              refine Fx.take (i := 5) (v := ?_) _ rfl (by kernel_rfl) (by kernel_rfl) (by rfl) hSS ?_ ?_
              rotate_left
              · (intro w' hSw; (try dsimp only at hSw); go_simp; first | done | with_reducible rfl)
              try simp only [List.getElem_toArray, List.getElem_cons_succ, List.getElem_cons_zero, Act.put, List.setIfInBounds_toArray, List.set_cons_zero, List.set_cons_succ]
              refine Fx.take (i := 6) (v := ?_) _ rfl (by kernel_rfl) (by kernel_rfl) (by rfl) hSS ?_ ?_
              rotate_left
              · (intro w' hSw; (try dsimp only at hSw); go_simp; first | done | with_reducible rfl)
              try simp only [List.getElem_toArray, List.getElem_cons_succ, List.getElem_cons_zero, Act.put, List.setIfInBounds_toArray, List.set_cons_zero, List.set_cons_succ]
              refine Fx.take (i := 7) (v := ?_) _ rfl (by kernel_rfl) (by kernel_rfl) (by rfl) hSS ?_ ?_
              rotate_left
              · (intro w' hSw; (try dsimp only at hSw); go_simp; first | done | with_reducible rfl)
              try simp only [List.getElem_toArray, List.getElem_cons_succ, List.getElem_cons_zero, Act.put, List.setIfInBounds_toArray, List.set_cons_zero, List.set_cons_succ]
              refine Fx.take (i := 8) (v := ?_) _ rfl (by kernel_rfl) (by kernel_rfl) (by rfl) hSS ?_ ?_
              rotate_left
              · (intro w' hSw; (try dsimp only at hSw); go_simp; first | done | with_reducible rfl)
              try simp only [List.getElem_toArray, List.getElem_cons_succ, List.getElem_cons_zero, Act.put, List.setIfInBounds_toArray, List.set_cons_zero, List.set_cons_succ]
              refine Fx.done 0 (by kernel_rfl) (by kernel_rfl) (fun w4 hC => ?_)
              have HM4 := Lib.hid (HM.out.trans0 hC)
              clear hC e0 e1 e2 k0 k1 k2 hSS
              go_wp2_with fail
              go_roundw
              case rel => exact ⟨i + 1, by omega, by go_num, HM4.out, HXX⟩
              case measure => simp [intOf]; omega
            · have HYY := Lib.hid (HY.out (fun e => p (by injection e with e1 e2; injection e2 with e2 e3; exact ⟨e1, e2, e3⟩)))
              clear HX HY
              rcases (by omega : x1 ≠ y1 ∨ (x1 = y1 ∧ x2 ≠ y2) ∨ (x1 = y1 ∧ x2 = y2 ∧ x3 ≠ y3)) with p1 | ⟨rfl, p2⟩ | ⟨rfl, rfl, p3⟩
              all_goals
                clear p
                go_wp2_with fail
                refine Fx.wp_region_f [] (fun _ w' => Mod wr w' []) (by kernel_rfl) (by decide) (Mod.refl _ _).drew ?_
                have hSS : ∀ (m' : Nat) w', Mod wr w' [] → _ := fun m' w' h => (⟨keepC h e0, keepC h e1, keepC h e2, keepC h k0, keepC h k1, keepC h k2⟩ : _ ∧ _ ∧ _ ∧ _ ∧ _ ∧ _)
                refine Fx.take (i := 0) (v := ?_) _ rfl (by kernel_rfl) (by kernel_rfl) (by rfl) hSS ?_ ?_
                rotate_left
                · (intro w' hSw; (try dsimp only at hSw); go_simp; first | done | with_reducible rfl)
                try simp only [List.getElem_toArray, List.getElem_cons_succ, List.getElem_cons_zero, Act.put, List.setIfInBounds_toArray, List.set_cons_zero, List.set_cons_succ]
                refine Fx.take (i := 1) (v := ?_) _ rfl (by kernel_rfl) (by kernel_rfl) (by rfl) hSS ?_ ?_
                rotate_left
                · (intro w' hSw; (try dsimp only at hSw); go_simp; first | done | with_reducible rfl)
                try simp only [List.getElem_toArray, List.getElem_cons_succ, List.getElem_cons_zero, Act.put, List.setIfInBounds_toArray, List.set_cons_zero, List.set_cons_succ]
                refine Fx.take (i := 2) (v := ?_) _ rfl (by kernel_rfl) (by kernel_rfl) (by rfl) hSS ?_ ?_
                rotate_left
                · (intro w' hSw; (try dsimp only at hSw); go_simp; first | done | with_reducible rfl)
                try simp only [List.getElem_toArray, List.getElem_cons_succ, List.getElem_cons_zero, Act.put, List.setIfInBounds_toArray, List.set_cons_zero, List.set_cons_succ]
                refine Fx.take (i := 3) (v := ?_) _ rfl (by kernel_rfl) (by kernel_rfl) (by rfl) hSS ?_ ?_
                rotate_left
                · (intro w' hSw; (try dsimp only at hSw); go_simp; first | done | with_reducible rfl)
                try simp only [List.getElem_toArray, List.getElem_cons_succ, List.getElem_cons_zero, Act.put, List.setIfInBounds_toArray, List.set_cons_zero, List.set_cons_succ]
                refine Fx.take (i := 4) (v := ?_) _ rfl (by kernel_rfl) (by kernel_rfl) (by rfl) hSS ?_ ?_
                rotate_left
                · (intro w' hSw; (try dsimp only at hSw); go_simp; first | done | with_reducible rfl)
                try simp only [List.getElem_toArray, List.getElem_cons_succ, List.getElem_cons_zero, Act.put, List.setIfInBounds_toArray, List.set_cons_zero, List.set_cons_succ]
                refine Fx.take (i := 5) (v := ?_) _ rfl (by kernel_rfl) (by kernel_rfl) (by rfl) hSS ?_ ?_
                rotate_left
                · (intro w' hSw; (try dsimp only at hSw); go_simp; first | done | with_reducible rfl)
                try simp only [List.getElem_toArray, List.getElem_cons_succ, List.getElem_cons_zero, Act.put, List.setIfInBounds_toArray, List.set_cons_zero, List.set_cons_succ]
                refine Fx.take (i := 6) (v := ?_) _ rfl (by kernel_rfl) (by kernel_rfl) (by rfl) hSS ?_ ?_
                rotate_left
                · (intro w' hSw; (try dsimp only at hSw); go_simp; first | done | with_reducible rfl)
                try simp only [List.getElem_toArray, List.getElem_cons_succ, List.getElem_cons_zero, Act.put, List.setIfInBounds_toArray, List.set_cons_zero, List.set_cons_succ]
                refine Fx.take (i := 7) (v := ?_) _ rfl (by kernel_rfl) (by kernel_rfl) (by rfl) hSS ?_ ?_
                rotate_left
                · (intro w' hSw; (try dsimp only at hSw); go_simp; first | done | with_reducible rfl)
                try simp only [List.getElem_toArray, List.getElem_cons_succ, List.getElem_cons_zero, Act.put, List.setIfInBounds_toArray, List.set_cons_zero, List.set_cons_succ]
                refine Fx.take (i := 8) (v := ?_) _ rfl (by kernel_rfl) (by kernel_rfl) (by rfl) hSS ?_ ?_
                rotate_left
                · (intro w' hSw; (try dsimp only at hSw); go_simp; first | done | with_reducible rfl)
                try simp only [List.getElem_toArray, List.getElem_cons_succ, List.getElem_cons_zero, Act.put, List.setIfInBounds_toArray, List.set_cons_zero, List.set_cons_succ]
                refine Fx.done 0 (by kernel_rfl) (by kernel_rfl) (fun w4 hC => ?_)
                have HM4 := Lib.hid (HM.out.trans0 hC)
                clear hC e0 e1 e2 k0 k1 k2 hSS
                go_wp2_with fail
                go_ret
                exact ⟨ret_bool (by rw [decide_eq_false HYY.out]), HM4.out⟩
      · have hge : (l.length : Int) ≤ i := by omega
        have hge2 : (m.length : Int) ≤ i := by omega
        have HE : Hid (l = m) := Lib.hid (List.ext_getElem hlen (fun j hj hj2 => HJ.out j hj hj2 (by omega)))
        clear HJ
        go_wp2_with fail
        go_ret
        exact ⟨ret_bool (by rw [decide_eq_true HE.out]), HM.out⟩
  · have hlen' : ((l.length : Int) != (m.length : Int)) = true := by rw [bne_iff_ne]; omega
    have HE : Hid (l ≠ m) := Lib.hid (fun e => hlen (by rw [e]))
    clear hlen
    go_enter Try.func38, Try.ntmps38
    go_wp2_with fail
    go_ret
    exact ⟨ret_bool (by rw [decide_eq_false HE.out]), Mod.refl _ _⟩
end Go.Proofs.Ytceocpohdckkoaa.Ag
