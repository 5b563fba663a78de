/- An agenda's All: Clone and SortFunc. -/
import Derived.Test.YtgmenlfhkhdbdaaAnA
import Derived.Laws.AppendOwn
import Derived.Shelf.SlSortCmp.NoneTotal
import Derived.Ground.SlsfProg
namespace Go.Proofs.Ytgmenlfhkhdbdaa.Ag
open Go.RowKit Mem Go.Shelf Go.Sort
set_option linter.unusedSimpArgs false
set_option linter.unusedVariables false
set_option maxRecDepth 100000

def laySortI_ren : Go.Shelf.Ren := ⟨fun | 6 => 129 | 15 => 146 | 14 => 145 | 28 => 162 | 29 => 163 | 20 => 154 | 21 => 155 | 22 => 156 | 23 => 157 | 24 => 158 | 25 => 159 | 26 => 160 | 27 => 161 | 46 => 165 | 47 => 166 | 48 => 167 | 49 => 168 | 50 => 169 | 57 => 171 | n => n, fun | 22 => 99 | 24 => 102 | 25 => 196 | 3 => 3 | 39 => 71 | 0 => 0 | 53 => 221 | 55 => 137 | 4 => 4 | 46 => 215 | 45 => 214 | 50 => 175 | 5 => 5 | 9 => 9 | 66 => 224 | 70 => 227 | 76 => 230 | 77 => 123 | n => n, fun | n => n⟩
theorem laySortI : Go.Proofs.SlLaysF0.n6 Try.prog laySortI_ren := {
  mixed := by kernel_rfl
  f6 := ⟨Try.f129.name, by decide, Try.func129.trans (congrArg some (by kernel_rfl))⟩
  f14 := ⟨Try.f145.name, by decide, Try.func145.trans (congrArg some (by kernel_rfl))⟩
  f15 := Try.func146.trans (congrArg some (by kernel_rfl))
  f20 := ⟨Try.f154.name, by decide, Try.func154.trans (congrArg some (by kernel_rfl))⟩
  f21 := ⟨Try.f155.name, by decide, Try.func155.trans (congrArg some (by kernel_rfl))⟩
  f22 := ⟨Try.f156.name, by decide, Try.func156.trans (congrArg some (by kernel_rfl))⟩
  f23 := ⟨Try.f157.name, by decide, Try.func157.trans (congrArg some (by kernel_rfl))⟩
  f24 := ⟨Try.f158.name, by decide, Try.func158.trans (congrArg some (by kernel_rfl))⟩
  f25 := ⟨Try.f159.name, by decide, Try.func159.trans (congrArg some (by kernel_rfl))⟩
  f26 := ⟨Try.f160.name, by decide, Try.func160.trans (congrArg some (by kernel_rfl))⟩
  f27 := ⟨Try.f161.name, by decide, Try.func161.trans (congrArg some (by kernel_rfl))⟩
  f28 := Try.func162.trans (congrArg some (by kernel_rfl))
  f29 := Try.func163.trans (congrArg some (by kernel_rfl))
  f46 := ⟨Try.f165.name, by decide, Try.func165.trans (congrArg some (by kernel_rfl))⟩
  f47 := Try.func166.trans (congrArg some (by kernel_rfl))
  f48 := Try.func167.trans (congrArg some (by kernel_rfl))
  f49 := ⟨Try.f168.name, by decide, Try.func168.trans (congrArg some (by kernel_rfl))⟩
  f50 := ⟨Try.f169.name, by decide, Try.func169.trans (congrArg some (by kernel_rfl))⟩
  f57 := ⟨Try.f171.name, by decide, Try.func171.trans (congrArg some (by kernel_rfl))⟩
  t0 := Try.underlying0
  a0 := Try.isAgg0
  z0 := Try.sizeOf0
  v0 := Try.zeroValue0
  t3 := Try.underlying3
  a3 := Try.isAgg3
  z3 := Try.sizeOf3
  v3 := Try.zeroValue3
  t4 := Try.underlying4
  a4 := Try.isAgg4
  z4 := Try.sizeOf4
  v4 := Try.zeroValue4
  t5 := Try.underlying5
  a5 := Try.isAgg5
  z5 := Try.sizeOf5
  v5 := Try.zeroValue5
  t9 := Try.underlying9
  a9 := Try.isAgg9
  z9 := Try.sizeOf9
  v9 := Try.zeroValue9
  t22 := Try.underlying99
  a22 := Try.isAgg99
  z22 := Try.sizeOf99
  v22 := Try.zeroValue99
  t25 := Try.underlying196
  a25 := Try.isAgg196
  z25 := Try.sizeOf196
  v25 := Try.zeroValue196
  t39 := Try.underlying71
  a39 := Try.isAgg71
  z39 := Try.sizeOf71
  v39 := Try.zeroValue71
  t45 := Try.underlying214
  a45 := Try.isAgg214
  z45 := Try.sizeOf214
  v45 := Try.zeroValue214
  t46 := Try.underlying215
  a46 := Try.isAgg215
  z46 := Try.sizeOf215
  v46 := Try.zeroValue215
  t50 := Try.underlying175
  a50 := Try.isAgg175
  z50 := Try.sizeOf175
  v50 := Try.zeroValue175
  t53 := Try.underlying221
  a53 := Try.isAgg221
  z53 := Try.sizeOf221
  v53 := Try.zeroValue221
  t55 := Try.underlying137
  a55 := Try.isAgg137
  z55 := Try.sizeOf137
  v55 := Try.zeroValue137
  t66 := Try.underlying224
  a66 := Try.isAgg224
  z66 := Try.sizeOf224
  v66 := Try.zeroValue224
  t70 := Try.underlying227
  a70 := Try.isAgg227
  z70 := Try.sizeOf227
  v70 := Try.zeroValue227
  t76 := Try.underlying230
  a76 := Try.isAgg230
  z76 := Try.sizeOf230
  v76 := Try.zeroValue230
  t77 := Try.underlying123
  a77 := Try.isAgg123
  z77 := Try.sizeOf123
  v77 := Try.zeroValue123 }

theorem gr_two (w : World) (a b : Obj) : ∃ q os', (w.alloc a).alloc b = Sort.grow (w.drewN q) os' := ⟨0, _, by rw [alloc_eq_grow, alloc_eq_grow, grow_grow]; rfl⟩
set_option maxHeartbeats 1000000 in
theorem sooner_grow (a b : It) (w : World) : Calls Try.prog 130 #[itV a, itV b] w fun e w' => e = .returned (.int .i64 (cmpI a b)) ∧ ∃ q os', w' = Sort.grow (w.drewN q) os' := by
  have HS := Lib.hid (@soon_iff a b)
  have HC : Hid (cmpI a b = if soon a b = true then -1 else if a = b then 0 else 1) := Lib.hid rfl
  obtain ⟨a1, a2, a3⟩ := a
  obtain ⟨b1, b2, b3⟩ := b
  have HM := Lib.hid (gr_two w (.cells #[.int .i64 a1, .int .i64 a2, .int .i64 a3] 102) (.cells #[.int .i64 b1, .int .i64 b2, .int .i64 b3] 102))
  show Calls _ _ #[.agg #[.int .i64 a1, .int .i64 a2, .int .i64 a3], .agg #[.int .i64 b1, .int .i64 b2, .int .i64 b3]] _ _
  by_cases h1 : a1 < b1
  · have hr := Lib.hid (show (-1 : Int) = cmpI (a1, a2, a3) (b1, b2, b3) by rw [HC.out, if_pos (HS.out.2 (.inl h1))])
    clear HS HC
    go_enter Try.func130, Try.ntmps130
    go_wp2_with fail
    go_ret
    exact ⟨int_ret hr.out, HM.out⟩
  · have h1' : b1 ≤ a1 := by omega
    by_cases h2 : a1 = b1
    · subst h2
      by_cases h3 : a2 < b2
      · have hr := Lib.hid (show (-1 : Int) = cmpI (a1, a2, a3) (a1, b2, b3) by rw [HC.out, if_pos (HS.out.2 (.inr ⟨rfl, h3⟩))])
        clear HS HC h1 h1'
        go_enter Try.func130, Try.ntmps130
        go_wp2_with fail
        go_ret
        exact ⟨int_ret hr.out, HM.out⟩
      · have h3' : b2 ≤ a2 := by omega
        have hns : ¬ soon (a1, a2, a3) (a1, b2, b3) = true := by rw [HS.out]; simp; omega
        by_cases h4 : a2 = b2
        · subst h4
          by_cases h5 : a3 = b3
          · subst h5
            have hr := Lib.hid (show (0 : Int) = cmpI (a1, a2, a3) (a1, a2, a3) by rw [HC.out, if_neg hns, if_pos rfl])
            clear HS HC h1 h1' h3 h3' hns
            go_enter Try.func130, Try.ntmps130
            go_wp2_with fail
            go_ret
            exact ⟨int_ret hr.out, HM.out⟩
          · have hr := Lib.hid (show (1 : Int) = cmpI (a1, a2, a3) (a1, a2, b3) by rw [HC.out, if_neg hns, if_neg (by simp; omega)])
            clear HS HC h1 h1' h3 h3' hns
            go_enter Try.func130, Try.ntmps130
            go_wp2_with fail
            go_ret
            exact ⟨int_ret hr.out, HM.out⟩
        · have hr := Lib.hid (show (1 : Int) = cmpI (a1, a2, a3) (a1, b2, b3) by rw [HC.out, if_neg hns, if_neg (by simp; omega)])
          clear HS HC h1 h1' h3 hns
          go_enter Try.func130, Try.ntmps130
          go_wp2_with fail
          go_ret
          exact ⟨int_ret hr.out, HM.out⟩
    · have hns : ¬ soon (a1, a2, a3) (b1, b2, b3) = true := by rw [HS.out]; simp; omega
      have hr := Lib.hid (show (1 : Int) = cmpI (a1, a2, a3) (b1, b2, b3) by rw [HC.out, if_neg hns, if_neg (by simp; omega)])
      clear HS HC h1 hns
      go_enter Try.func130, Try.ntmps130
      go_wp2_with fail
      go_ret
      exact ⟨int_ret hr.out, HM.out⟩
theorem lt_cmp (x y : It) : ltOf cmpI x y = soon x y := by
  unfold ltOf cmpI
  cases soon x y with
  | true => rfl
  | false => by_cases h : x = y <;> simp [h]
theorem soon_no {x y : It} (h : soon x y = false) : ¬ (x.1 < y.1 ∨ x.1 = y.1 ∧ x.2.1 < y.2.1) := fun hc => by rw [soon_iff.2 hc] at h; cases h
theorem soon_f {x y : It} (h : ¬ (x.1 < y.1 ∨ x.1 = y.1 ∧ x.2.1 < y.2.1)) : soon x y = false := by
  cases hh : soon x y with
  | false => rfl
  | true => exact absurd (soon_iff.1 hh) h
theorem swo : SWO (ltOf cmpI) := {
  irrefl := fun x => by rw [lt_cmp]; exact soon_f (by omega)
  trans := fun x y z h1 h2 => by rw [lt_cmp] at *; rw [soon_iff] at *; omega
  ntrans := fun x y z h1 h2 => by rw [lt_cmp] at *; have h3 := soon_no h1; have h4 := soon_no h2; exact soon_f (by omega) }
theorem srt_eq {l m : List It} (hp : l.Perm m) (h1 : l.Pairwise (fun a b => soon a b = true)) (h2 : m.Pairwise (fun a b => soon a b = true)) : l = m :=
  hp.eq_of_pairwise (fun a b _ _ h3 h4 => by rw [soon_iff] at h3 h4; omega) h1 h2
theorem flat_rows (l : List It) : (flatK itC 3 l.toArray).toList = rowsI l := by
  apply List.ext_getElem?
  intro t
  by_cases ht : t < l.length * 3
  · have h1 : (flatK itC 3 l.toArray).toList[t]? = some ((flatK itC 3 l.toArray)[t]!) := by
      rw [Array.getElem?_toList, getElem!_pos _ t (by simpa using ht)]
      simp [ht]
    rw [h1, get_flatK _ _ _ _ (by simpa using ht)]
    have hd : t / 3 < l.length := by omega
    obtain ⟨e0, e1, e2⟩ := rowsI_get l (t / 3) hd
    have hg : l.toArray[t / 3]! = l[t / 3] := by simp [hd]
    rw [hg]
    rcases (by omega : t % 3 = 0 ∨ t % 3 = 1 ∨ t % 3 = 2) with h | h | h
    · rw [show t / 3 * 3 = t by omega] at e0; rw [e0, h]; rfl
    · rw [show t / 3 * 3 + 1 = t by omega] at e1; rw [e1, h]; rfl
    · rw [show t / 3 * 3 + 2 = t by omega] at e2; rw [e2, h]; rfl
  · rw [List.getElem?_eq_none (by simpa using ht), List.getElem?_eq_none (by rw [rowsI_len]; omega)]
theorem take_put (cur F : Array Value) (h : F.size ≤ cur.size) : (putCells id 0 F cur).toList.take F.size = F.toList := by
  apply List.ext_getElem?
  intro j
  by_cases hj : j < F.size
  · rw [List.getElem?_take_of_lt hj, Array.getElem?_toList, Array.getElem?_toList]
    simp [putCells, hj, show j < cur.size by omega]
  · rw [List.getElem?_take_eq_none (by omega), List.getElem?_eq_none (by simp; omega)]
/-- Behind the sort the same slice owns the sorted row. -/
theorem own_sortedI {w : World} {base g cap n : Nat} {os : Array Obj} {l m : List It} (hl : m.length = l.length) (h : ItAt w base (.slice (some ⟨g, 0, none⟩) l.length cap) l) :
    ItAt (sortWorldK itC 3 w g 0 n m.toArray os) base (.slice (some ⟨g, 0, none⟩) l.length cap) m ∧ Mod w (sortWorldK itC 3 w g 0 n m.toArray os) [g] := by
  obtain ⟨h0, ⟨h1, _⟩ | ⟨g', cap', cur, h1, hg, hb, h2, h3, h4, h5⟩⟩ := h
  · cases h1
  · injection h1 with e1 e2 e3
    injection e1 with e1
    injection e1 with e1
    subst e1 e3
    have hlt : g < w.heap.size := (Array.getElem?_eq_some_iff.1 hb).1
    have hs : (flatK itC 3 m.toArray).size = l.length * 3 := by rw [size_flatK]; simp [hl]
    have hb' : (sortWorldK itC 3 w g 0 n m.toArray os).heap[g]? = some (.cells (putCells id 0 (flatK itC 3 m.toArray) cur) 102 (0, 0)) := by
      unfold sortWorldK putRowK
      rw [heap_grow_old _ _ (by simpa using hlt)]
      simp [putRow, mapBlock, Sort.ahead, Array.getElem?_modify, hb, onCells]
    refine ⟨⟨by rw [rowsI_len], .inr ⟨g, cap, _, by rw [hl], hg, hb', by rw [hl]; exact h2, h3, by simp [putCells, h4], ?_⟩⟩, ?_⟩
    · rw [show m.length * 3 = (flatK itC 3 m.toArray).size by rw [size_flatK]; simp, take_put _ _ (by rw [hs]; omega), flat_rows]
    · refine ⟨rfl, rfl, rfl, ?_, fun k hk hne => ?_⟩
      · unfold sortWorldK putRowK; simp
      · have : g ≠ k := fun e => hne (by simp [e])
        unfold sortWorldK putRowK
        rw [heap_grow_old _ _ (by simpa using hk)]
        simp [putRow, mapBlock, Sort.ahead, Array.getElem?_modify, this]
theorem holds_row {w : World} {base g cap : Nat} {l : List It} (h : ItAt w base (.slice (some ⟨g, 0, none⟩) l.length cap) l) : HoldsK itC 3 w g 0 l.toArray := by
  intro j hj
  have hj' : j < l.length * 3 := by simpa using hj
  have hf : ((flatK itC 3 l.toArray)[j]!) = ((flatK itC 3 l.toArray).toList)[j]! := by simp [getElem!_def, Array.getElem?_toList]
  obtain ⟨cur, hb⟩ := own_blk h g rfl
  refine ⟨?_, hb.free _⟩
  have hc := World.ownsRow.cells h (g := g) rfl j ((rowsI l)[j]!) (by
    rw [getElem!_pos _ j (by rw [rowsI_len]; exact hj'), List.getElem?_eq_getElem])
  rw [hf, flat_rows]
  rw [Addr.add_lit] at hc
  exact hc

theorem sort_calls (base g cap : Nat) (l S : List It) (last : Int) (w : World) (h : ItAt w base (.slice (some ⟨g, 0, none⟩) l.length cap) l) (hp : l.Perm S) (ok : Ok S last) (hn : l.length ≤ 5000) :
    Calls Try.prog 129 #[.slice (some ⟨g, 0, none⟩) l.length cap, .func (.func 130) #[] #[]] w fun e w' => e = .returned (.tuple #[]) ∧ ItAt w' base (.slice (some ⟨g, 0, none⟩) l.length cap) S ∧ Mod w w' [g] := by
  have eg : ∀ args w, (callFunc 130 args).run Try.prog w = .ok (.enter 130 args) w := enters_of Try.func130 (by kernel_rfl) rfl
  obtain ⟨cur, hb⟩ := own_blk h g rfl
  have hcon := AnyQ.slices_SortFunc laySortI 3 Try.isAgg102 Try.sizeOf102 itC (fun _ => rfl) (fun x v hv => by simp [itC] at hv; rcases hv with rfl | rfl | rfl <;> rfl) cmpI swo 130 #[] g 0 cap l.toArray w eg
    (fun m os dk _ x y => sooner_grow x y _) (holds_row h) hb.lt (by simp; omega)
  change Calls Try.prog 129 _ _ _ at hcon
  refine hcon.mono ?_
  rintro e w' ⟨rfl, d', n, os, hpm, hsd, rfl⟩
  obtain ⟨hp1, hp2, hp3⟩ := hpm
  have hsz : d'.size = l.length := by rw [hp1]; simp
  have hperm : d'.toList.Perm l := by
    have := hp3
    rw [Array.extract_eq_self_of_le (by simp [hsz]), Array.extract_eq_self_of_le (by simp)] at this
    exact this
  have hmS : d'.toList = S := by
    refine srt_eq (hperm.trans hp) ?_ ok.srt
    have hids := ((hperm.trans hp).pairwise_iff (R := fun a b : It => a.2.1 ≠ b.2.1) (fun h e => h e.symm)).2 ok.ids
    rw [List.pairwise_iff_getElem] at hids ⊢
    intro i j hi hj hij
    have h1 := hsd i j (Nat.zero_le _) hij (by simpa [hsz] using hj)
    rw [lt_cmp] at h1
    have hi' : i < d'.size := by simpa using hi
    have hj' : j < d'.size := by simpa using hj
    rw [getElem!_pos d' j hj', getElem!_pos d' i hi'] at h1
    have h2 := hids i j hi hj hij
    exact soon_total (fun e => h2 (by simpa using e.symm)) (by simpa using h1)
  have hd : d' = S.toArray := by rw [← hmS]
  rw [hd]
  have := own_sortedI (n := n) (os := os) (m := S) hp.length_eq.symm h
  exact ⟨rfl, this.1, this.2⟩

theorem iclone_calls (base : Nat) (v : Value) (l : List It) (w : World) (h : ItAt w base v l) (hn : l.length ≤ 5000) :
    Calls Try.prog 128 #[v] w fun e w' => ∃ v', e = .returned v' ∧ Mod w w' [] ∧ ItAt w' w.heap.size v' l := by
  obtain ⟨i0, hi0, hz0, hz1, hz2⟩ := info_parts info_item
  have q57 : ∀ (w : World) (a : Option Addr) (n c : Nat), (binOp .eql 99 (.slice a n c) (.slice none 0 0)).run Try.prog w = .ok (.bool a.isNone) w := fun w a n c => Lib.run_eql_slice_nil w _ _ a n c 0 0 Try.underlying99
  rcases h.shape with ⟨rfl, rfl⟩ | ⟨g, cap, hv, h1, h2, h3, h3', h3'', h4⟩
  · go_enter Try.func128, Try.ntmps128
    go_wp2_with fail
    go_ret
    exact ⟨_, rfl, Mod.refl _ _, World.ownsRow_nil _ _ _ _⟩
  · have hgl := Rw.own_lt h g (by rw [hv]; rfl)
    have hcl : ∀ j u, (rowsI l)[j]? = some u → (w.alloc (.cells #[] 102)).cell? ((⟨g, 0, none⟩ : Addr).add j) = some u := fun j u hj => by
      rw [Addr.add_lit, Nat.zero_add]
      have := World.ownsRow.cells h (g := g) (by rw [hv]; rfl) j u hj
      rw [Addr.add_lit, Nat.zero_add] at this
      rw [← this]
      exact World.cell?_of_block (a := ⟨g, j, none⟩) (Below.heap_alloc w _ g hgl)
    have hown := World.ownsRow_made (base := w.heap.size) (e := 102) (size := 3) w #[] 0 (Nat.le_refl _) (by unfold maxLen; omega) rfl
    have HO := Lib.hid hown
    have HC := Lib.hid hcl
    have hrl := rowsI_len l
    have hro := rowsI_one l
    subst hv
    clear h h4 hcl hown h3''
    generalize hx : rowsI l = xs at *
    go_enter Try.func128, Try.ntmps128
    go_wp2_with (at_builtin; refine wpList_append_own _ rfl _ _ 99 rfl w.heap.size 102 i0 _ 3 24 Try.underlying99 hi0 hz0 hz1 hz2 rfl (by decide) _ _ _ rfl HO.out ⟨g, 0, none⟩ l.length cap xs rfl hrl HC.out hro (by unfold maxLen; omega) (by omega) (by simp) ?_; intro v' w1 hown' hgrow hnil; clear hnil; have HO1 := Lib.hid hown'; have HG1 := Lib.hid hgrow; clear hown' hgrow)
    go_ret
    refine ⟨v', rfl, ((Mod.refl w []).alloc _).grown HG1.out (fun k hk => .inr (Nat.le_of_eq (Option.some.inj hk))), ?_⟩
    have h := HO1.out
    rw [Nat.zero_add, List.nil_append, ← hx] at h
    exact h

theorem isort_calls (base : Nat) (v : Value) (l S : List It) (last : Int) (w : World) (h : ItAt w base v l) (hp : l.Perm S) (ok : Ok S last) (hn : l.length ≤ 5000) (B : Nat) (hB : B ≤ base) :
    Calls Try.prog 129 #[v, .func (.func 130) #[] #[]] w fun e w' => e = .returned (.tuple #[]) ∧ ItAt w' base v S ∧ ∀ w0, w0.heap.size = B → Mod w0 w [] → Mod w0 w' [] := by
  rcases h.shape with ⟨rfl, rfl⟩ | ⟨g, cap, rfl, h1, h2, h3, h3', h3'', h4⟩
  · have hS : S = [] := List.eq_nil_of_length_eq_zero hp.length_eq.symm
    subst hS
    have hcon := AnyF.slices_SortFunc_none laySortI none 0 (.func (.func 130) #[] #[]) w
    change Calls Try.prog 129 _ _ _ at hcon
    refine hcon.mono ?_
    rintro e w' ⟨rfl, rfl⟩
    exact ⟨rfl, h, fun _ _ m => m⟩
  · refine (sort_calls base g cap l S last w h hp ok hn).mono ?_
    rintro e w' ⟨rfl, hi, hm⟩
    exact ⟨rfl, hi, fun w0 h0 m => m.trans hm (fun r hr => .inr (by simp at hr; omega))⟩

set_option maxHeartbeats 1000000 in
theorem all_calls (w0 w : World) (g : Nat) (last : Int) (S : List It) (h : AgW w0 w g last S) (hn : S.length ≤ 4096) :
    Calls Try.prog 93 #[.pointer (some ⟨g, 0, none⟩)] w fun e w' => ∃ v', e = .returned v' ∧ Mod w w' [] ∧ ItAt w' w.heap.size v' S := by
  obtain ⟨v, l, h1, _, h3⟩ := h.at_
  have hl := h3.length_eq
  have C := Lib.hid (iclone_calls (g + 1) v l w h1.2 (by omega))
  have HT := Lib.hid (fun v1 w1 (hr : ItAt w1 w.heap.size v1 l) => isort_calls w.heap.size v1 l S last w1 hr h3 h.ok (by omega) w.heap.size (Nat.le_refl _))
  obtain ⟨a, c, rfl⟩ := h1.slice
  have b0 := h1.1.cell 0
  clear h h1 h3 hl
  go_enter Try.func93, Try.ntmps93
  go_wp2_with fail
  (with_reducible refine (C.out).mono ?_)
  rintro e w1 ⟨v', rfl, hm1, hr1⟩
  have HM1 := Lib.hid hm1
  have HS1 := Lib.hid (HT.out v' w1 hr1)
  obtain ⟨a', c', rfl⟩ := Rw.own_slice hr1
  clear hm1 hr1
  go_wp2_with fail
  (with_reducible refine (HS1.out).mono ?_)
  rintro e w2 ⟨rfl, hi2, hm2⟩
  have HM2 := Lib.hid (hm2 w rfl HM1.out)
  have HI2 := Lib.hid hi2
  clear hm2 hi2
  go_wp2_with fail
  go_ret
  exact ⟨_, rfl, HM2.out, HI2.out⟩
end Go.Proofs.Ytgmenlfhkhdbdaa.Ag
