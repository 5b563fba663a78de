/- Slices of flags; the law AgendaSorts. -/
import Derived.Test.YtceocpohdckkoaaAgC
import Derived.Laws.MakeOwn
namespace Go.Proofs.Ytceocpohdckkoaa.Ag
open Go.RowKit Mem
set_option linter.unusedSimpArgs false
set_option linter.unusedVariables false
set_option maxRecDepth 100000

def bools (n : Nat) (c : Nat → Bool) : Array Value := ((List.range n).map fun j => Value.bool (c j)).toArray
theorem bools_get {n : Nat} {c : Nat → Bool} {j : Nat} (h : j < n) : (bools n c)[j]? = some (.bool (c j)) := by
  unfold bools
  simp [List.getElem?_map, List.getElem?_range h]
theorem bools_set (n : Nat) (c : Nat → Bool) (j : Nat) : (bools n c).setIfInBounds j (.bool true) = bools n (fun k => c k || k == j) := by
  unfold bools
  rw [List.setIfInBounds_toArray]
  congr 1
  apply List.ext_getElem?
  intro k
  rw [List.getElem?_set]
  simp only [List.length_map, List.length_range, List.getElem?_map]
  by_cases h : j = k
  · subst h
    rw [if_pos rfl]
    by_cases hj : j < n
    · rw [if_pos hj, List.getElem?_range hj]; simp
    · rw [if_neg hj, List.getElem?_eq_none (by simpa using hj)]; rfl
  · rw [if_neg h]
    by_cases hk : k < n
    · rw [List.getElem?_range hk]; simp; intro e; exact absurd e.symm h
    · rw [List.getElem?_eq_none (by simpa using hk)]; rfl
theorem bools_congr {n : Nat} {c d : Nat → Bool} (h : ∀ j, j < n → c j = d j) : bools n c = bools n d := by
  unfold bools
  congr 1
  apply List.map_congr_left
  intro j hj
  rw [h j (by simpa using hj)]
theorem info_bool : (Try.prog.info? 4).map (fun i => (i.zero, i.size, i.bytes)) = some (some (.bool false), 1, 1) := by kernel_rfl
theorem make_bools (n : Nat) (hn : n ≤ 100000) (w : World) : (Instr.makeSlice 45 (.int .i64 (n : Int)) (.int .i64 (n : Int))).run Try.prog w = .ok (.slice (some ⟨w.heap.size, 0, none⟩) n n) (w.alloc (.cells (bools n (fun _ => false)) 4)) := by
  obtain ⟨i0, hi0, hz0, hz1, hz2⟩ := info_parts info_bool
  have h := run_makeSlice w 45 4 i0 _ Try.underlying45 hi0 hz0 .i64 .i64 (n : Int) (n : Int) (by omega) (Int.le_refl _) (by rw [hz1]; simp; omega) (by rw [hz2]; omega) (by omega)
  rw [h, hz1]
  simp only [Int.toNat_natCast, Nat.mul_one]
  have e : madeCells (Value.bool false).cells n = bools n (fun _ => false) := by
    apply Array.ext
    · simp [madeCells, bools]
    · intro k h1 h2
      simp [madeCells, bools, Value.cells, Nat.mod_one]
  rw [e]

theorem ItAt.far {w : World} {base sb j : Nat} {v u : Value} {l : List It} {cs : Array Value} {ty : TypeId} (h : ItAt w base v l) (hb : Blk w sb cs ty) (n2 : ty ≠ 47) : ItAt (w.setCell ⟨sb, j, none⟩ u) base v l := by
  refine h.mod ((Mod.refl w [sb]).setCell (by simp) _) (fun k hk hm => ?_)
  rw [List.mem_singleton] at hm
  subst hm
  obtain ⟨cur, hc⟩ := own_blk h k hk
  exact n2 (blk_ne hb hc)
theorem AgW.far {w0 w : World} {g sb j : Nat} {last : Int} {S : List It} {u : Value} {cs : Array Value} {ty : TypeId} (h : AgW w0 w g last S) (hb : Blk w sb cs ty) (n1 : ty ≠ 96) (n2 : ty ≠ 47) (hs : w0.heap.size ≤ sb) : AgW w0 (w.setCell ⟨sb, j, none⟩ u) g last S := by
  refine ⟨h.md.setCell (.inr hs) _, h.gl, h.ok, h.at_.elim fun v ⟨l, h1, h2, h3⟩ => ⟨v, l, ⟨h1.1.mod ((Mod.refl w [sb]).setCell (by simp) _) (fun hm => ?_), h1.2.far hb n2⟩, h2, h3⟩⟩
  rw [List.mem_singleton] at hm
  subst hm
  exact n1 (blk_ne hb h1.1)

/-- The greatest time so far. -/
def mostK (xs : List Int) : Nat → Int
  | 0 => 0
  | k + 1 => if k = 0 ∨ mostK xs k < xs.getD k 0 then xs.getD k 0 else mostK xs k
theorem mostK_ge (xs : List Int) : ∀ k j, j < k → xs.getD j 0 ≤ mostK xs k
  | 0, j, h => by omega
  | k + 1, j, h => by
    show _ ≤ if k = 0 ∨ mostK xs k < xs.getD k 0 then xs.getD k 0 else mostK xs k
    by_cases hj : j = k
    · subst hj
      split <;> omega
    · have ih := mostK_ge xs k j (by omega)
      split <;> omega
/-- Which have been seen among the first i. -/
def seenB (S : List It) (i : Nat) (j : Nat) : Bool := (S.take i).any (fun s => s.2.2 == (j : Int))
theorem seen_succ {S : List It} {i : Nat} (hi : i < S.length) {j : Nat} (hw : S[i].2.2 = (j : Int)) (k : Nat) : seenB S (i + 1) k = (seenB S i k || k == j) := by
  unfold seenB
  rw [List.take_succ_eq_append_getElem hi, List.any_append]
  congr 1
  simp only [List.any_cons, List.any_nil, Bool.or_false, hw]
  rw [Bool.eq_iff_iff, beq_iff_eq, beq_iff_eq]
  omega
def fSort (xs : List Int) (i : Nat) : Int × Int := (xs.getD i 0, (i : Int))

set_option maxHeartbeats 8000000 in
theorem agendaSorts_calls (w : World) (a : Value) (ha : Open.Rd w (.sl (.int .i64) 8) [a]) :
    Calls Try.prog 4 #[a] w fun e w' => e = .returned (.bool true) ∧ Below w.heap.size w w' := by
  obtain ⟨xs, ad, acap, rfl, hal, hax, hac⟩ := ints_rd ha
  have AW := Lib.hid awake_calls
  have NW := Lib.hid (new_calls w)
  have HAC := Lib.hid hac
  have hal' : (xs.length : Int) ≤ 140737488351232 := by omega
  clear ha hax hac
  by_cases hbig : 1000 < xs.length
  · have hb' : (1000 : Int) < xs.length := by omega
    go_enter Try.func4, Try.ntmps4
    go_wp2_with fail
    (with_reducible refine NW.out.mono ?_)
    rintro e w1 ⟨rfl, _, hm⟩
    have HM1 := Lib.hid hm
    clear hm NW
    go_wp2_with fail
    (with_reducible refine (AW.out _).mono ?_)
    rintro e w2 ⟨rfl, hm⟩
    have HM2 := Lib.hid (HM1.out.trans0 hm)
    clear hm HM1
    go_wp2_with fail
    (with_reducible refine (AW.out _).mono ?_)
    rintro e w3 ⟨rfl, hm⟩
    have HM3 := Lib.hid (HM2.out.trans0 hm)
    clear hm HM2
    go_wp2_with fail
    go_ret
    exact ⟨rfl, HM3.out.below0⟩
  have hb' : (xs.length : Int) ≤ 1000 := by omega
  obtain ⟨f, hf⟩ : ∃ f, f = fSort xs := ⟨_, rfl⟩
  have HF := Lib.hid hf
  have ADD := Lib.hid (fun (i : Nat) x (h : AgW w x w.heap.size (i : Int) (addK f i)) (hi : i < 1000) => add_ok w x w.heap.size (i : Int) (addK f i) (f i).1 (f i).2 h ⟨by omega, by omega⟩ (by rw [addK_len]; omega))
  clear hf
  go_enter Try.func4, Try.ntmps4
  go_wp2_with fail
  (with_reducible refine NW.out.mono ?_)
  rintro e w1 ⟨rfl, hag, hm⟩
  have H1 := Lib.hid hag
  clear hag hm NW
  go_wp2_with fail
  (with_reducible refine (AW.out _).mono ?_)
  rintro e w2 ⟨rfl, hm2⟩
  have H2 := Lib.hid (H1.out.mod hm2)
  clear hm2 H1 AW
  go_wp2_with fail
  go_loopw [4, 5] (fun vm vi wr => ∃ i : Nat, i ≤ xs.length ∧ vm = .int .i64 (mostK xs i) ∧ vi = .int .i64 (i : Int) ∧ AgW w wr w.heap.size (i : Int) (addK f i)) (fun _ vi _ => xs.length + 1 - (intOf vi).toNat)
  case atStart => exact ⟨0, Nat.zero_le _, rfl, rfl, H2.out⟩
  case round =>
    obtain ⟨i, hi, rfl, rfl, hag⟩ := hrel
    have HA := Lib.hid hag
    clear hag H2
    by_cases hlt : i < xs.length
    · have hlt' : (i : Int) < xs.length := by omega
      have ADD1 := Lib.hid (ADD.out i wr HA.out (by omega))
      have h2 : (f i).2 = (i : Int) := by rw [HF.out]; rfl
      have hw1 := IntWalk.i64_in ((i : Int) + 1) (by omega)
      rw [h2] at ADD1
      have HN : Hid (insI (addK f i) ((f i).1, (i : Int) + 1, (i : Int)) = addK f (i + 1)) := Lib.hid (by show insI (addK f i) ((f i).1, (i : Int) + 1, (i : Int)) = insI (addK f i) ((f i).1, (i : Int) + 1, (f i).2); rw [h2])
      rw [HN.out] at ADD1
      obtain ⟨bb, off, rfl, hc⟩ := HAC.out.resolve_left (fun h => by rw [h] at hlt; simp at hlt)
      have c0 := keepC HA.out.md (hc i hlt)
      have hg0 : xs.getD i 0 = xs[i] := by rw [List.getD_eq_getElem?_getD, List.getElem?_eq_getElem hlt]; rfl
      have h1 : (f i).1 = xs[i] := by rw [HF.out]; exact hg0
      rw [h1] at ADD1
      have HMK : Hid (mostK xs (i + 1) = if i = 0 ∨ mostK xs i < xs[i] then xs[i] else mostK xs i) := Lib.hid (by rw [← hg0]; rfl)
      have HKC := Lib.hid (fun w' (hm : AgW w w' w.heap.size ((i : Int) + 1) (addK f (i + 1))) => keepC hm.md (hc i hlt))
      clear hc h1 h2 HN hg0
      generalize xs[i] = t at *
      generalize mostK xs i = mo at *
      by_cases hnew : i = 0 ∨ mo < t
      · have HM2 : Hid (mostK xs (i + 1) = t) := Lib.hid (by rw [HMK.out, if_pos hnew])
        by_cases h0 : i = 0
        · have h0' : ((i : Int) == 0) = true := by rw [beq_iff_eq]; omega
          clear HMK hnew h0
          go_wp2_with fail
          (with_reducible refine ADD1.out.mono ?_)
          rintro e w3 ⟨rfl, hag, hk⟩
          have HA3 := Lib.hid hag
          have c3 := HKC.out _ hag
          clear hag hk ADD1 c0
          go_wp2_with fail
          go_roundw
          case rel => exact ⟨i + 1, by omega, by rw [HM2.out], by go_num, by have h := HA3.out; exact_mod_cast h⟩
          case measure => simp [intOf]; omega
        · have hmt : mo < t := by omega
          have h0' : ((i : Int) == 0) = false := by rw [beq_eq_false_iff_ne]; omega
          clear HMK hnew h0
          go_wp2_with fail
          (with_reducible refine ADD1.out.mono ?_)
          rintro e w3 ⟨rfl, hag, hk⟩
          have HA3 := Lib.hid hag
          have c3 := HKC.out _ hag
          clear hag hk ADD1 c0
          go_wp2_with fail
          go_roundw
          case rel => exact ⟨i + 1, by omega, by rw [HM2.out], by go_num, by have h := HA3.out; exact_mod_cast h⟩
          case measure => simp [intOf]; omega
      · have HM2 : Hid (mostK xs (i + 1) = mo) := Lib.hid (by rw [HMK.out, if_neg hnew])
        have h0' : ((i : Int) == 0) = false := by rw [beq_eq_false_iff_ne]; omega
        have hmt : t ≤ mo := by omega
        clear HMK hnew
        go_wp2_with fail
        (with_reducible refine ADD1.out.mono ?_)
        rintro e w3 ⟨rfl, hag, hk⟩
        have HA3 := Lib.hid hag
        have c3 := HKC.out _ hag
        clear hag hk ADD1 c0
        go_wp2_with fail
        go_roundw
        case rel => exact ⟨i + 1, by omega, by rw [HM2.out], by go_num, by have h := HA3.out; exact_mod_cast h⟩
        case measure => simp [intOf]; omega
    · have hge : (xs.length : Int) ≤ i := by omega
      have hii : i = xs.length := by omega
      have hMO := mostK_ge xs xs.length
      obtain ⟨S, hS⟩ : ∃ S, S = addK f xs.length := ⟨_, rfl⟩
      have HA0 : Hid (AgW w wr w.heap.size (xs.length : Int) S) := Lib.hid (by have h := HA.out; rw [hii] at h; rw [hS]; exact h)
      have hlen : S.length = xs.length := by rw [hS]; exact addK_len _ _
      have HMEM : Hid (∀ s ∈ S, ∃ j, j < xs.length ∧ s = (xs.getD j 0, (j : Int) + 1, (j : Int))) := Lib.hid (fun s hs => by
        rw [hS] at hs
        obtain ⟨j, hj, rfl⟩ := (addK_mem f).1 hs
        exact ⟨j, hj, by rw [HF.out]; rfl⟩)
      have DU := Lib.hid (due_calls w wr w.heap.size (xs.length : Int) S (mostK xs i) HA0.out (by omega))
      have hall : ∀ s ∈ S, decide (s.1 ≤ mostK xs i) = true := fun s hs => by
        obtain ⟨j, hj, rfl⟩ := HMEM.out s hs
        rw [decide_eq_true_iff, hii]
        exact hMO j hj
      have hdue : dueI S (mostK xs i) = S := by rw [due_filter HA0.out.ok]; exact List.filter_eq_self.2 hall
      have hleft : leftI S (mostK xs i) = [] := by
        rw [left_filter HA0.out.ok, List.filter_eq_nil_iff]
        intro s hs
        have := of_decide_eq_true (hall s hs)
        simp; omega
      unfold DueP at DU
      rw [hdue, hleft] at DU
      have MK := make_bools xs.length (by omega)
      have HOK := Lib.hid HA0.out.ok
      generalize mostK xs i = mo at *
      clear hS HA HA0 ADD hdue hleft hall hMO hii HF
      go_wp2_with fail
      (with_reducible refine DU.out.mono ?_)
      rintro e w3 ⟨v, rfl, hag, hit, hk⟩
      have HA3 := Lib.hid (hag.mod ((Mod.refl w3 []).alloc (.cells (bools xs.length (fun _ => false)) 4)))
      have HI3 := Lib.hid (hit.mod ((Mod.refl w3 []).alloc (.cells (bools xs.length (fun _ => false)) 4)) (by simp))
      have HB3 := Lib.hid (Blk.new w3 (bools xs.length (fun _ => false)) 4)
      obtain ⟨va, vc, rfl⟩ := Rw.own_slice hit
      have hagm := hag.md.size
      clear hag hit hk DU
      go_wp2_with fail
      have hsbw : w.heap.size ≤ w3.heap.size := hagm
      have hn1000 : xs.length ≤ 1000 := by omega
      obtain ⟨sb, hsb⟩ : ∃ sb, sb = w3.heap.size := ⟨_, rfl⟩
      rw [← hsb] at HB3 hsbw ⊢
      generalize w3.alloc _ = W at HA3 HI3 HB3 ⊢
      clear hsb hagm
      have HB4 : Hid (Blk W sb (bools xs.length (seenB S 0)) 4) := Lib.hid (by
        have h := HB3.out
        rw [bools_congr (d := seenB S 0) (fun j _ => by simp [seenB])] at h
        exact h)
      clear HB3
      obtain ⟨wo, rfl⟩ : ∃ wo : World, wo = wr := ⟨_, rfl⟩
      go_loopw [10] (fun vi wr => ∃ k : Nat, k ≤ xs.length ∧ vi = .int .i64 (k : Int) ∧ AgW w wr w.heap.size (xs.length : Int) [] ∧ ItAt wr wo.heap.size (.slice va S.length vc) S ∧ Blk wr sb (bools xs.length (seenB S k)) 4) (fun vi _ => xs.length + 1 - (intOf vi).toNat)
      case atStart => exact ⟨0, Nat.zero_le _, rfl, HA3.out, HI3.out, HB4.out⟩
      case round =>
        obtain ⟨k, hk, rfl, hag, hit, hbl⟩ := hrel
        have HA := Lib.hid hag
        have HI := Lib.hid hit
        have HB := Lib.hid hbl
        clear hag hit hbl HA3 HI3 HB4
        by_cases hlt : k < xs.length
        · have hkS : k < S.length := by omega
          have hlt' : (k : Int) < S.length := by omega
          obtain ⟨j, hj, hxe⟩ := HMEM.out S[k] (List.getElem_mem hkS)
          have hj' : (j : Int) < xs.length := by omega
          have hj0 : (0 : Int) ≤ j := by omega
          have hseen : seenB S k j = false := by
            unfold seenB
            rw [List.any_eq_false]
            intro s hs
            obtain ⟨t, ht, rfl⟩ := List.getElem_of_mem hs
            rw [List.length_take] at ht
            rw [List.getElem_take]
            obtain ⟨j2, _, he2⟩ := HMEM.out S[t] (List.getElem_mem (by omega))
            have hp := List.pairwise_iff_getElem.1 HOK.out.ids t k (by omega) hkS (by omega)
            rw [hxe, he2] at hp
            rw [he2]
            simp at hp ⊢
            omega
          have HSN : Hid (bools xs.length (fun t => seenB S k t || t == j) = bools xs.length (seenB S (k + 1))) := Lib.hid (bools_congr (fun t _ => (seen_succ hkS (by rw [hxe]) t).symm))
          obtain ⟨bb, off, rfl, hc⟩ := HAC.out.resolve_left (fun h => by rw [h] at hlt; simp at hlt)
          have hcj := hc j hj
          have hg0 : xs.getD j 0 = xs[j] := by rw [List.getD_eq_getElem?_getD, List.getElem?_eq_getElem hj]; rfl
          rcases HI.out.shape with ⟨_, h0⟩ | ⟨ob, cap, hv, _, _, _, hobl, _, h4⟩
          · rw [h0] at hkS; simp at hkS
          · injection hv with q1 q2 q3
            subst q1 q3
            obtain ⟨e0, e1, e2⟩ := h4 k hkS
            rw [hxe, hg0] at e0 e1 e2
            simp only at e0 e1 e2
            have HPRE : Hid (∀ m (hm : m + 1 = k), ∃ p1 p2 p3, (∀ w', Mod wr w' [] → w'.cell? ⟨ob, m * 3, none⟩ = some (.int .i64 p1) ∧ w'.cell? ⟨ob, m * 3 + 1, none⟩ = some (.int .i64 p2) ∧ w'.cell? ⟨ob, m * 3 + 2, none⟩ = some (.int .i64 p3)) ∧ (p1 < xs[j] ∨ p1 = xs[j] ∧ p2 < (j : Int) + 1)) := Lib.hid (fun m hm => by
              obtain ⟨d0, d1, d2⟩ := h4 m (by omega)
              refine ⟨_, _, _, fun w' m' => ⟨keepC m' d0, keepC m' d1, keepC m' d2⟩, ?_⟩
              have hp := List.pairwise_iff_getElem.1 HOK.out.srt m k (by omega) hkS (by omega)
              rw [hxe, hg0, soon_iff] at hp
              exact hp)
            have c0 := keepC HA.out.md hcj
            have s0 : wr.cell? ⟨sb, j, none⟩ = some (.bool false) := by rw [HB.out.cell, bools_get hj, hseen]
            have s1 := HB.out.free j
            have hsl := HB.out.lt
            have hbl := Rw.cell_lt c0
            have hbl : bb < wr.heap.size := hbl
            have hseen2 := Lib.hid hseen
            have hobs : ob ≠ sb := by
              intro e
              obtain ⟨cur, hcu⟩ := own_blk HI.out ob rfl
              rw [e] at hcu
              exact absurd (blk_ne hcu HB.out) (by decide)
            have hmw := HA.out.md.size
            clear q2 h4 hc hcj hg0 hxe hseen
            generalize xs[j] = t at *
            have hmx := (Mod.refl wr []).alloc (.cells #[.int .i64 t, .int .i64 ((j : Int) + 1), .int .i64 (j : Int)] 47)
            have HX := Lib.hid (Blk.new wr #[.int .i64 t, .int .i64 ((j : Int) + 1), .int .i64 (j : Int)] 47)
            have HMX := Lib.hid hmx
            have HAX := Lib.hid (HA.out.mod hmx)
            have HIX := Lib.hid (HI.out.mod hmx (by simp))
            have HBX := Lib.hid (HB.out.mod hmx (by simp))
            clear hmx HA HI HB
            -- the region that asks
            have hd0 : decide ((j : Int) < 0) = false := decide_eq_false (by omega)
            have hd1 : decide (xs.length ≤ j) = false := decide_eq_false (by omega)
            have hd2 : ((j : Int) != (j : Int)) = false := by simp
            have hd3 : (t != t) = false := by simp
            have hwj := IntWalk.i64_in (j : Int) (by omega)
            go_wp2_with fail
            obtain ⟨xb, hxb⟩ : ∃ xb, xb = wr.heap.size := ⟨_, rfl⟩
            have hxs : xb ≠ sb := by omega
            have hsx : sb ≠ xb := by omega
            have hwx := hmw
            rw [← hxb] at HX hwx ⊢
            obtain ⟨W2, hW2⟩ : ∃ W2, W2 = wr.alloc (.cells #[.int .i64 t, .int .i64 ((j : Int) + 1), .int .i64 (j : Int)] 47) := ⟨_, rfl⟩
            rw [← hW2] at HX HMX HAX HIX HBX ⊢
            clear hW2 hxb
            have x0 := HX.out.cell 0
            have x1 := HX.out.cell 1
            have x2 := HX.out.cell 2
            have c0 := keepC HMX.out c0
            have s0 := keepC HMX.out s0
            refine Fx.wp_region_f [] (fun _ w' => Mod W2 w' []) (by kernel_rfl) (by decide) (Mod.refl _ _).drew ?_
            have hSS : ∀ (m' : Nat) w', Mod W2 w' [] → _ := fun m' w' h => (⟨keepC h x0, keepC h x1, keepC h x2, keepC h c0, keepC h s0⟩ : _ ∧ _ ∧ _ ∧ _ ∧ _)
            refine Fx.take (i := 0) (v := ?_) _ rfl (by kernel_rfl) (by kernel_rfl) (by rfl) hSS ?_ ?_
            rotate_left
            · (intro w' hSw; (try dsimp only at hSw); go_simp; first | done | with_reducible rfl)
            try simp only [List.getElem_toArray, List.getElem_cons_succ, List.getElem_cons_zero, Act.put, List.setIfInBounds_toArray, List.set_cons_zero, List.set_cons_succ]
            refine Fx.take (i := 1) (v := ?_) _ rfl (by kernel_rfl) (by kernel_rfl) (by rfl) hSS ?_ ?_
            rotate_left
            · (intro w' hSw; (try dsimp only at hSw); go_simp; first | done | with_reducible rfl)
            try simp only [List.getElem_toArray, List.getElem_cons_succ, List.getElem_cons_zero, Act.put, List.setIfInBounds_toArray, List.set_cons_zero, List.set_cons_succ]
            refine Fx.take (i := 2) (v := ?_) _ rfl (by kernel_rfl) (by kernel_rfl) (by rfl) hSS ?_ ?_
            rotate_left
            · (intro w' hSw; (try dsimp only at hSw); go_simp; first | done | with_reducible rfl)
            try simp only [List.getElem_toArray, List.getElem_cons_succ, List.getElem_cons_zero, Act.put, List.setIfInBounds_toArray, List.set_cons_zero, List.set_cons_succ]
            refine Fx.take (i := 3) (v := ?_) _ rfl (by kernel_rfl) (by kernel_rfl) (by rfl) hSS ?_ ?_
            rotate_left
            · (intro w' hSw; (try dsimp only at hSw); go_simp; first | done | with_reducible rfl)
            try simp only [List.getElem_toArray, List.getElem_cons_succ, List.getElem_cons_zero, Act.put, List.setIfInBounds_toArray, List.set_cons_zero, List.set_cons_succ]
            refine Fx.take (i := 4) (v := ?_) _ rfl (by kernel_rfl) (by kernel_rfl) (by rfl) hSS ?_ ?_
            rotate_left
            · (intro w' hSw; (try dsimp only at hSw); go_simp; first | done | with_reducible rfl)
            try simp only [List.getElem_toArray, List.getElem_cons_succ, List.getElem_cons_zero, Act.put, List.setIfInBounds_toArray, List.set_cons_zero, List.set_cons_succ]
            refine Fx.take (i := 5) (v := ?_) _ rfl (by kernel_rfl) (by kernel_rfl) (by rfl) hSS ?_ ?_
            rotate_left
            · (intro w' hSw; (try dsimp only at hSw); go_simp; first | done | with_reducible rfl)
            try simp only [List.getElem_toArray, List.getElem_cons_succ, List.getElem_cons_zero, Act.put, List.setIfInBounds_toArray, List.set_cons_zero, List.set_cons_succ]
            refine Fx.take (i := 6) (v := ?_) _ rfl (by kernel_rfl) (by kernel_rfl) (by rfl) hSS ?_ ?_
            rotate_left
            · (intro w' hSw; (try dsimp only at hSw); go_simp; first | done | with_reducible rfl)
            try simp only [List.getElem_toArray, List.getElem_cons_succ, List.getElem_cons_zero, Act.put, List.setIfInBounds_toArray, List.set_cons_zero, List.set_cons_succ]
            refine Fx.take (i := 7) (v := ?_) _ rfl (by kernel_rfl) (by kernel_rfl) (by rfl) hSS ?_ ?_
            rotate_left
            · (intro w' hSw; (try dsimp only at hSw); go_simp; first | done | with_reducible rfl)
            try simp only [List.getElem_toArray, List.getElem_cons_succ, List.getElem_cons_zero, Act.put, List.setIfInBounds_toArray, List.set_cons_zero, List.set_cons_succ]
            refine Fx.take (i := 8) (v := ?_) _ rfl (by kernel_rfl) (by kernel_rfl) (by rfl) hSS ?_ ?_
            rotate_left
            · (intro w' hSw; (try dsimp only at hSw); go_simp; first | done | with_reducible rfl)
            try simp only [List.getElem_toArray, List.getElem_cons_succ, List.getElem_cons_zero, Act.put, List.setIfInBounds_toArray, List.set_cons_zero, List.set_cons_succ]
            refine Fx.take (i := 9) (v := ?_) _ rfl (by kernel_rfl) (by kernel_rfl) (by rfl) hSS ?_ ?_
            rotate_left
            · (intro w' hSw; (try dsimp only at hSw); go_simp; first | done | with_reducible rfl)
            try simp only [List.getElem_toArray, List.getElem_cons_succ, List.getElem_cons_zero, Act.put, List.setIfInBounds_toArray, List.set_cons_zero, List.set_cons_succ]
            refine Fx.take (i := 10) (v := ?_) _ rfl (by kernel_rfl) (by kernel_rfl) (by rfl) hSS ?_ ?_
            rotate_left
            · (intro w' hSw; (try dsimp only at hSw); go_simp; first | done | with_reducible rfl)
            try simp only [List.getElem_toArray, List.getElem_cons_succ, List.getElem_cons_zero, Act.put, List.setIfInBounds_toArray, List.set_cons_zero, List.set_cons_succ]
            refine Fx.take (i := 11) (v := ?_) _ rfl (by kernel_rfl) (by kernel_rfl) (by rfl) hSS ?_ ?_
            rotate_left
            · (intro w' hSw; (try dsimp only at hSw); go_simp; first | done | with_reducible rfl)
            try simp only [List.getElem_toArray, List.getElem_cons_succ, List.getElem_cons_zero, Act.put, List.setIfInBounds_toArray, List.set_cons_zero, List.set_cons_succ]
            refine Fx.take (i := 12) (v := ?_) _ rfl (by kernel_rfl) (by kernel_rfl) (by rfl) hSS ?_ ?_
            rotate_left
            · (intro w' hSw; (try dsimp only at hSw); go_simp; first | done | with_reducible rfl)
            try simp only [List.getElem_toArray, List.getElem_cons_succ, List.getElem_cons_zero, Act.put, List.setIfInBounds_toArray, List.set_cons_zero, List.set_cons_succ]
            refine Fx.take (i := 13) (v := ?_) _ rfl (by kernel_rfl) (by kernel_rfl) (by rfl) hSS ?_ ?_
            rotate_left
            · (intro w' hSw; (try dsimp only at hSw); go_simp; first | done | with_reducible rfl)
            try simp only [List.getElem_toArray, List.getElem_cons_succ, List.getElem_cons_zero, Act.put, List.setIfInBounds_toArray, List.set_cons_zero, List.set_cons_succ]
            refine Fx.take (i := 14) (v := ?_) _ rfl (by kernel_rfl) (by kernel_rfl) (by rfl) hSS ?_ ?_
            rotate_left
            · (intro w' hSw; (try dsimp only at hSw); go_simp; first | done | with_reducible rfl)
            try simp only [List.getElem_toArray, List.getElem_cons_succ, List.getElem_cons_zero, Act.put, List.setIfInBounds_toArray, List.set_cons_zero, List.set_cons_succ]
            refine Fx.take (i := 15) (v := ?_) _ rfl (by kernel_rfl) (by kernel_rfl) (by rfl) hSS ?_ ?_
            rotate_left
            · (intro w' hSw; (try dsimp only at hSw); go_simp; first | done | with_reducible rfl)
            try simp only [List.getElem_toArray, List.getElem_cons_succ, List.getElem_cons_zero, Act.put, List.setIfInBounds_toArray, List.set_cons_zero, List.set_cons_succ]
            refine Fx.take (i := 16) (v := ?_) _ rfl (by kernel_rfl) (by kernel_rfl) (by rfl) hSS ?_ ?_
            rotate_left
            · (intro w' hSw; (try dsimp only at hSw); go_simp; first | done | with_reducible rfl)
            try simp only [List.getElem_toArray, List.getElem_cons_succ, List.getElem_cons_zero, Act.put, List.setIfInBounds_toArray, List.set_cons_zero, List.set_cons_succ]
            refine Fx.take (i := 17) (v := ?_) _ rfl (by kernel_rfl) (by kernel_rfl) (by rfl) hSS ?_ ?_
            rotate_left
            · (intro w' hSw; (try dsimp only at hSw); go_simp; first | done | with_reducible rfl)
            try simp only [List.getElem_toArray, List.getElem_cons_succ, List.getElem_cons_zero, Act.put, List.setIfInBounds_toArray, List.set_cons_zero, List.set_cons_succ]
            refine Fx.take (i := 18) (v := ?_) _ rfl (by kernel_rfl) (by kernel_rfl) (by rfl) hSS ?_ ?_
            rotate_left
            · (intro w' hSw; (try dsimp only at hSw); go_simp; first | done | with_reducible rfl)
            try simp only [List.getElem_toArray, List.getElem_cons_succ, List.getElem_cons_zero, Act.put, List.setIfInBounds_toArray, List.set_cons_zero, List.set_cons_succ]
            refine Fx.take (i := 19) (v := ?_) _ rfl (by kernel_rfl) (by kernel_rfl) (by rfl) hSS ?_ ?_
            rotate_left
            · (intro w' hSw; (try dsimp only at hSw); go_simp; first | done | with_reducible rfl)
            try simp only [List.getElem_toArray, List.getElem_cons_succ, List.getElem_cons_zero, Act.put, List.setIfInBounds_toArray, List.set_cons_zero, List.set_cons_succ]
            refine Fx.take (i := 20) (v := ?_) _ rfl (by kernel_rfl) (by kernel_rfl) (by rfl) hSS ?_ ?_
            rotate_left
            · (intro w' hSw; (try dsimp only at hSw); go_simp; first | done | with_reducible rfl)
            try simp only [List.getElem_toArray, List.getElem_cons_succ, List.getElem_cons_zero, Act.put, List.setIfInBounds_toArray, List.set_cons_zero, List.set_cons_succ]
            refine Fx.take (i := 21) (v := ?_) _ rfl (by kernel_rfl) (by kernel_rfl) (by rfl) hSS ?_ ?_
            rotate_left
            · (intro w' hSw; (try dsimp only at hSw); go_simp; first | done | with_reducible rfl)
            try simp only [List.getElem_toArray, List.getElem_cons_succ, List.getElem_cons_zero, Act.put, List.setIfInBounds_toArray, List.set_cons_zero, List.set_cons_succ]
            refine Fx.take (i := 22) (v := ?_) _ rfl (by kernel_rfl) (by kernel_rfl) (by rfl) hSS ?_ ?_
            rotate_left
            · (intro w' hSw; (try dsimp only at hSw); go_simp; first | done | with_reducible rfl)
            try simp only [List.getElem_toArray, List.getElem_cons_succ, List.getElem_cons_zero, Act.put, List.setIfInBounds_toArray, List.set_cons_zero, List.set_cons_succ]
            refine Fx.take (i := 23) (v := ?_) _ rfl (by kernel_rfl) (by kernel_rfl) (by rfl) hSS ?_ ?_
            rotate_left
            · (intro w' hSw; (try dsimp only at hSw); go_simp; first | done | with_reducible rfl)
            try simp only [List.getElem_toArray, List.getElem_cons_succ, List.getElem_cons_zero, Act.put, List.setIfInBounds_toArray, List.set_cons_zero, List.set_cons_succ]
            refine Fx.take (i := 24) (v := ?_) _ rfl (by kernel_rfl) (by kernel_rfl) (by rfl) hSS ?_ ?_
            rotate_left
            · (intro w' hSw; (try dsimp only at hSw); go_simp; first | done | with_reducible rfl)
            try simp only [List.getElem_toArray, List.getElem_cons_succ, List.getElem_cons_zero, Act.put, List.setIfInBounds_toArray, List.set_cons_zero, List.set_cons_succ]
            refine Fx.take (i := 25) (v := ?_) _ rfl (by kernel_rfl) (by kernel_rfl) (by rfl) hSS ?_ ?_
            rotate_left
            · (intro w' hSw; (try dsimp only at hSw); go_simp; first | done | with_reducible rfl)
            try simp only [List.getElem_toArray, List.getElem_cons_succ, List.getElem_cons_zero, Act.put, List.setIfInBounds_toArray, List.set_cons_zero, List.set_cons_succ]
            refine Fx.take (i := 26) (v := ?_) _ rfl (by kernel_rfl) (by kernel_rfl) (by rfl) hSS ?_ ?_
            rotate_left
            · (intro w' hSw; (try dsimp only at hSw); go_simp; first | done | with_reducible rfl)
            try simp only [List.getElem_toArray, List.getElem_cons_succ, List.getElem_cons_zero, Act.put, List.setIfInBounds_toArray, List.set_cons_zero, List.set_cons_succ]
            refine Fx.take (i := 27) (v := ?_) _ rfl (by kernel_rfl) (by kernel_rfl) (by rfl) hSS ?_ ?_
            rotate_left
            · (intro w' hSw; (try dsimp only at hSw); go_simp; first | done | with_reducible rfl)
            try simp only [List.getElem_toArray, List.getElem_cons_succ, List.getElem_cons_zero, Act.put, List.setIfInBounds_toArray, List.set_cons_zero, List.set_cons_succ]
            refine Fx.take (i := 28) (v := ?_) _ rfl (by kernel_rfl) (by kernel_rfl) (by rfl) hSS ?_ ?_
            rotate_left
            · (intro w' hSw; (try dsimp only at hSw); go_simp; first | done | with_reducible rfl)
            try simp only [List.getElem_toArray, List.getElem_cons_succ, List.getElem_cons_zero, Act.put, List.setIfInBounds_toArray, List.set_cons_zero, List.set_cons_succ]
            refine Fx.take (i := 29) (v := ?_) _ rfl (by kernel_rfl) (by kernel_rfl) (by rfl) hSS ?_ ?_
            rotate_left
            · (intro w' hSw; (try dsimp only at hSw); go_simp; first | done | with_reducible rfl)
            try simp only [List.getElem_toArray, List.getElem_cons_succ, List.getElem_cons_zero, Act.put, List.setIfInBounds_toArray, List.set_cons_zero, List.set_cons_succ]
            refine Fx.take (i := 30) (v := ?_) _ rfl (by kernel_rfl) (by kernel_rfl) (by rfl) hSS ?_ ?_
            rotate_left
            · (intro w' hSw; (try dsimp only at hSw); go_simp; first | done | with_reducible rfl)
            try simp only [List.getElem_toArray, List.getElem_cons_succ, List.getElem_cons_zero, Act.put, List.setIfInBounds_toArray, List.set_cons_zero, List.set_cons_succ]
            refine Fx.take (i := 31) (v := ?_) _ rfl (by kernel_rfl) (by kernel_rfl) (by rfl) hSS ?_ ?_
            rotate_left
            · (intro w' hSw; (try dsimp only at hSw); go_simp; first | done | with_reducible rfl)
            try simp only [List.getElem_toArray, List.getElem_cons_succ, List.getElem_cons_zero, Act.put, List.setIfInBounds_toArray, List.set_cons_zero, List.set_cons_succ]
            refine Fx.take (i := 32) (v := ?_) _ rfl (by kernel_rfl) (by kernel_rfl) (by rfl) hSS ?_ ?_
            rotate_left
            · (intro w' hSw; (try dsimp only at hSw); go_simp; first | done | with_reducible rfl)
            try simp only [List.getElem_toArray, List.getElem_cons_succ, List.getElem_cons_zero, Act.put, List.setIfInBounds_toArray, List.set_cons_zero, List.set_cons_succ]
            refine Fx.take (i := 33) (v := ?_) _ rfl (by kernel_rfl) (by kernel_rfl) (by rfl) hSS ?_ ?_
            rotate_left
            · (intro w' hSw; (try dsimp only at hSw); go_simp; first | done | with_reducible rfl)
            try simp only [List.getElem_toArray, List.getElem_cons_succ, List.getElem_cons_zero, Act.put, List.setIfInBounds_toArray, List.set_cons_zero, List.set_cons_succ]
            refine Fx.take (i := 34) (v := ?_) _ rfl (by kernel_rfl) (by kernel_rfl) (by rfl) hSS ?_ ?_
            rotate_left
            · (intro w' hSw; (try dsimp only at hSw); go_simp; first | done | with_reducible rfl)
            try simp only [List.getElem_toArray, List.getElem_cons_succ, List.getElem_cons_zero, Act.put, List.setIfInBounds_toArray, List.set_cons_zero, List.set_cons_succ]
            refine Fx.done 0 (by kernel_rfl) (by kernel_rfl) (fun w4 hC => ?_)
            have HM4 := Lib.hid (HMX.out.trans0 hC)
            have HX4 := Lib.hid (HX.out.mod hC (by simp))
            have HA4 := Lib.hid (HAX.out.mod hC)
            have HI4 := Lib.hid (HIX.out.mod hC (by simp))
            have HB4 := Lib.hid (HBX.out.mod hC (by simp))
            clear hC hSS x0 x1 x2 c0 s0 s1 HX HMX HAX HIX HBX
            have x0 := HX4.out.cell 0
            have x1 := HX4.out.cell 1
            have x2 := HX4.out.cell 2
            have s0 : w4.cell? ⟨sb, j, none⟩ = some (.bool false) := by rw [HB4.out.cell, bools_get hj, hseen2.out]
            have s1 := HB4.out.free j
            go_wp2_with fail
            obtain ⟨W5, hW5⟩ : ∃ W5, W5 = w4.setCell ⟨sb, j, none⟩ (.bool true) := ⟨_, rfl⟩
            have HM5 : Hid (∀ p u, w4.cell? p = some u → p.block ≠ sb → W5.cell? p = some u) := Lib.hid (fun p u h hb => by
              have hm : Mod w4 W5 [sb] := by rw [hW5]; exact (Mod.refl _ _).setCell (by simp) _
              exact (hm.cell (Rw.cell_lt h) (by simpa using hb)).trans h)
            have HX5 : Hid (Blk W5 xb _ _) := Lib.hid (HX4.out.mod (by rw [hW5]; exact (Mod.refl w4 [sb]).setCell (by simp) _) (by simpa using hxs))
            have HA5 : Hid (AgW w W5 w.heap.size (xs.length : Int) []) := Lib.hid (by rw [hW5]; exact HA4.out.far HB4.out (by decide) (by decide) hsbw)
            have HI5 : Hid (ItAt W5 wo.heap.size _ S) := Lib.hid (by rw [hW5]; exact HI4.out.far HB4.out (by decide))
            have HB5 : Hid (Blk W5 sb (bools xs.length (seenB S (k + 1))) 4) := Lib.hid (by
              rw [hW5, ← HSN.out, ← bools_set]; exact HB4.out.set j _)
            rw [← hW5]
            clear hW5 x0 x1 x2 s0 s1 HX4 HA4 HI4 HB4
            have x0 := HX5.out.cell 0
            have x1 := HX5.out.cell 1
            have x2 := HX5.out.cell 2
            rcases k with _ | m
            · have hz : decide ((0 : Int) < 0) = false := by decide
              refine Fx.wp_region_f [] (fun _ w' => Mod W5 w' []) (by kernel_rfl) (by decide) (Mod.refl _ _).drew ?_
              have hSS : ∀ (m' : Nat) w', Mod W5 w' [] → _ := fun m' w' h => (⟨keepC h x0, keepC h x1⟩ : _ ∧ _)
              refine Fx.take (i := 0) (v := ?_) _ rfl (by kernel_rfl) (by kernel_rfl) (by rfl) hSS ?_ ?_
              rotate_left
              · (intro w' hSw; (try dsimp only at hSw); go_simp; first | done | with_reducible rfl)
              try simp only [List.getElem_toArray, List.getElem_cons_succ, List.getElem_cons_zero, Act.put, List.setIfInBounds_toArray, List.set_cons_zero, List.set_cons_succ]
              refine Fx.take (i := 1) (v := ?_) _ rfl (by kernel_rfl) (by kernel_rfl) (by rfl) hSS ?_ ?_
              rotate_left
              · (intro w' hSw; (try dsimp only at hSw); go_simp; first | done | with_reducible rfl)
              try simp only [List.getElem_toArray, List.getElem_cons_succ, List.getElem_cons_zero, Act.put, List.setIfInBounds_toArray, List.set_cons_zero, List.set_cons_succ]
              refine Fx.take (i := 2) (v := ?_) _ rfl (by kernel_rfl) (by kernel_rfl) (by rfl) hSS ?_ ?_
              rotate_left
              · (intro w' hSw; (try dsimp only at hSw); go_simp; first | done | with_reducible rfl)
              try simp only [List.getElem_toArray, List.getElem_cons_succ, List.getElem_cons_zero, Act.put, List.setIfInBounds_toArray, List.set_cons_zero, List.set_cons_succ]
              refine Fx.skip (i := 3) rfl (by kernel_rfl) (by kernel_rfl) (by rfl) ?_
              try simp only [List.getElem_toArray, List.getElem_cons_succ, List.getElem_cons_zero, Act.put, List.setIfInBounds_toArray, List.set_cons_zero, List.set_cons_succ]
              refine Fx.skip (i := 4) rfl (by kernel_rfl) (by kernel_rfl) (by rfl) ?_
              try simp only [List.getElem_toArray, List.getElem_cons_succ, List.getElem_cons_zero, Act.put, List.setIfInBounds_toArray, List.set_cons_zero, List.set_cons_succ]
              refine Fx.skip (i := 5) rfl (by kernel_rfl) (by kernel_rfl) (by rfl) ?_
              try simp only [List.getElem_toArray, List.getElem_cons_succ, List.getElem_cons_zero, Act.put, List.setIfInBounds_toArray, List.set_cons_zero, List.set_cons_succ]
              refine Fx.skip (i := 6) rfl (by kernel_rfl) (by kernel_rfl) (by rfl) ?_
              try simp only [List.getElem_toArray, List.getElem_cons_succ, List.getElem_cons_zero, Act.put, List.setIfInBounds_toArray, List.set_cons_zero, List.set_cons_succ]
              refine Fx.skip (i := 7) rfl (by kernel_rfl) (by kernel_rfl) (by rfl) ?_
              try simp only [List.getElem_toArray, List.getElem_cons_succ, List.getElem_cons_zero, Act.put, List.setIfInBounds_toArray, List.set_cons_zero, List.set_cons_succ]
              refine Fx.skip (i := 8) rfl (by kernel_rfl) (by kernel_rfl) (by rfl) ?_
              try simp only [List.getElem_toArray, List.getElem_cons_succ, List.getElem_cons_zero, Act.put, List.setIfInBounds_toArray, List.set_cons_zero, List.set_cons_succ]
              refine Fx.skip (i := 9) rfl (by kernel_rfl) (by kernel_rfl) (by rfl) ?_
              try simp only [List.getElem_toArray, List.getElem_cons_succ, List.getElem_cons_zero, Act.put, List.setIfInBounds_toArray, List.set_cons_zero, List.set_cons_succ]
              refine Fx.skip (i := 10) rfl (by kernel_rfl) (by kernel_rfl) (by rfl) ?_
              try simp only [List.getElem_toArray, List.getElem_cons_succ, List.getElem_cons_zero, Act.put, List.setIfInBounds_toArray, List.set_cons_zero, List.set_cons_succ]
              refine Fx.skip (i := 11) rfl (by kernel_rfl) (by kernel_rfl) (by rfl) ?_
              try simp only [List.getElem_toArray, List.getElem_cons_succ, List.getElem_cons_zero, Act.put, List.setIfInBounds_toArray, List.set_cons_zero, List.set_cons_succ]
              refine Fx.skip (i := 12) rfl (by kernel_rfl) (by kernel_rfl) (by rfl) ?_
              try simp only [List.getElem_toArray, List.getElem_cons_succ, List.getElem_cons_zero, Act.put, List.setIfInBounds_toArray, List.set_cons_zero, List.set_cons_succ]
              refine Fx.skip (i := 13) rfl (by kernel_rfl) (by kernel_rfl) (by rfl) ?_
              try simp only [List.getElem_toArray, List.getElem_cons_succ, List.getElem_cons_zero, Act.put, List.setIfInBounds_toArray, List.set_cons_zero, List.set_cons_succ]
              refine Fx.skip (i := 14) rfl (by kernel_rfl) (by kernel_rfl) (by rfl) ?_
              try simp only [List.getElem_toArray, List.getElem_cons_succ, List.getElem_cons_zero, Act.put, List.setIfInBounds_toArray, List.set_cons_zero, List.set_cons_succ]
              refine Fx.skip (i := 15) rfl (by kernel_rfl) (by kernel_rfl) (by rfl) ?_
              try simp only [List.getElem_toArray, List.getElem_cons_succ, List.getElem_cons_zero, Act.put, List.setIfInBounds_toArray, List.set_cons_zero, List.set_cons_succ]
              refine Fx.skip (i := 16) rfl (by kernel_rfl) (by kernel_rfl) (by rfl) ?_
              try simp only [List.getElem_toArray, List.getElem_cons_succ, List.getElem_cons_zero, Act.put, List.setIfInBounds_toArray, List.set_cons_zero, List.set_cons_succ]
              refine Fx.skip (i := 17) rfl (by kernel_rfl) (by kernel_rfl) (by rfl) ?_
              try simp only [List.getElem_toArray, List.getElem_cons_succ, List.getElem_cons_zero, Act.put, List.setIfInBounds_toArray, List.set_cons_zero, List.set_cons_succ]
              refine Fx.skip (i := 18) rfl (by kernel_rfl) (by kernel_rfl) (by rfl) ?_
              try simp only [List.getElem_toArray, List.getElem_cons_succ, List.getElem_cons_zero, Act.put, List.setIfInBounds_toArray, List.set_cons_zero, List.set_cons_succ]
              refine Fx.skip (i := 19) rfl (by kernel_rfl) (by kernel_rfl) (by rfl) ?_
              try simp only [List.getElem_toArray, List.getElem_cons_succ, List.getElem_cons_zero, Act.put, List.setIfInBounds_toArray, List.set_cons_zero, List.set_cons_succ]
              refine Fx.skip (i := 20) rfl (by kernel_rfl) (by kernel_rfl) (by rfl) ?_
              try simp only [List.getElem_toArray, List.getElem_cons_succ, List.getElem_cons_zero, Act.put, List.setIfInBounds_toArray, List.set_cons_zero, List.set_cons_succ]
              refine Fx.skip (i := 21) rfl (by kernel_rfl) (by kernel_rfl) (by rfl) ?_
              try simp only [List.getElem_toArray, List.getElem_cons_succ, List.getElem_cons_zero, Act.put, List.setIfInBounds_toArray, List.set_cons_zero, List.set_cons_succ]
              refine Fx.skip (i := 22) rfl (by kernel_rfl) (by kernel_rfl) (by rfl) ?_
              try simp only [List.getElem_toArray, List.getElem_cons_succ, List.getElem_cons_zero, Act.put, List.setIfInBounds_toArray, List.set_cons_zero, List.set_cons_succ]
              refine Fx.skip (i := 23) rfl (by kernel_rfl) (by kernel_rfl) (by rfl) ?_
              try simp only [List.getElem_toArray, List.getElem_cons_succ, List.getElem_cons_zero, Act.put, List.setIfInBounds_toArray, List.set_cons_zero, List.set_cons_succ]
              refine Fx.skip (i := 24) rfl (by kernel_rfl) (by kernel_rfl) (by rfl) ?_
              try simp only [List.getElem_toArray, List.getElem_cons_succ, List.getElem_cons_zero, Act.put, List.setIfInBounds_toArray, List.set_cons_zero, List.set_cons_succ]
              refine Fx.skip (i := 25) rfl (by kernel_rfl) (by kernel_rfl) (by rfl) ?_
              try simp only [List.getElem_toArray, List.getElem_cons_succ, List.getElem_cons_zero, Act.put, List.setIfInBounds_toArray, List.set_cons_zero, List.set_cons_succ]
              refine Fx.skip (i := 26) rfl (by kernel_rfl) (by kernel_rfl) (by rfl) ?_
              try simp only [List.getElem_toArray, List.getElem_cons_succ, List.getElem_cons_zero, Act.put, List.setIfInBounds_toArray, List.set_cons_zero, List.set_cons_succ]
              refine Fx.skip (i := 27) rfl (by kernel_rfl) (by kernel_rfl) (by rfl) ?_
              try simp only [List.getElem_toArray, List.getElem_cons_succ, List.getElem_cons_zero, Act.put, List.setIfInBounds_toArray, List.set_cons_zero, List.set_cons_succ]
              refine Fx.skip (i := 28) rfl (by kernel_rfl) (by kernel_rfl) (by rfl) ?_
              try simp only [List.getElem_toArray, List.getElem_cons_succ, List.getElem_cons_zero, Act.put, List.setIfInBounds_toArray, List.set_cons_zero, List.set_cons_succ]
              refine Fx.skip (i := 29) rfl (by kernel_rfl) (by kernel_rfl) (by rfl) ?_
              try simp only [List.getElem_toArray, List.getElem_cons_succ, List.getElem_cons_zero, Act.put, List.setIfInBounds_toArray, List.set_cons_zero, List.set_cons_succ]
              refine Fx.skip (i := 30) rfl (by kernel_rfl) (by kernel_rfl) (by rfl) ?_
              try simp only [List.getElem_toArray, List.getElem_cons_succ, List.getElem_cons_zero, Act.put, List.setIfInBounds_toArray, List.set_cons_zero, List.set_cons_succ]
              refine Fx.skip (i := 31) rfl (by kernel_rfl) (by kernel_rfl) (by rfl) ?_
              try simp only [List.getElem_toArray, List.getElem_cons_succ, List.getElem_cons_zero, Act.put, List.setIfInBounds_toArray, List.set_cons_zero, List.set_cons_succ]
              refine Fx.skip (i := 32) rfl (by kernel_rfl) (by kernel_rfl) (by rfl) ?_
              try simp only [List.getElem_toArray, List.getElem_cons_succ, List.getElem_cons_zero, Act.put, List.setIfInBounds_toArray, List.set_cons_zero, List.set_cons_succ]
              refine Fx.skip (i := 33) rfl (by kernel_rfl) (by kernel_rfl) (by rfl) ?_
              try simp only [List.getElem_toArray, List.getElem_cons_succ, List.getElem_cons_zero, Act.put, List.setIfInBounds_toArray, List.set_cons_zero, List.set_cons_succ]
              refine Fx.take (i := 34) (v := ?_) _ rfl (by kernel_rfl) (by kernel_rfl) (by rfl) hSS ?_ ?_
              rotate_left
              · (intro w' hSw; (try dsimp only at hSw); go_simp; first | done | with_reducible rfl)
              try simp only [List.getElem_toArray, List.getElem_cons_succ, List.getElem_cons_zero, Act.put, List.setIfInBounds_toArray, List.set_cons_zero, List.set_cons_succ]
              refine Fx.done 0 (by kernel_rfl) (by kernel_rfl) (fun w6 hC => ?_)
              have HA6 := Lib.hid (HA5.out.mod hC)
              have HI6 := Lib.hid (HI5.out.mod hC (by simp))
              have HB6 := Lib.hid (HB5.out.mod hC (by simp))
              clear hC hSS HX5 HM5 HA5 HI5 HB5
              go_wp2_with fail
              go_roundw
              case rel => exact ⟨0 + 1, by omega, by go_num, HA6.out, HI6.out, HB6.out⟩
              case measure => first | (simp [intOf]; done) | (simp [intOf]; omega)

            · obtain ⟨p1, p2, p3, hpc, hpo⟩ := HPRE.out m rfl
              obtain ⟨d0, d1, d2⟩ := hpc w4 HM4.out
              have d0 := HM5.out _ _ d0 (by show ob ≠ sb; exact hobs)
              have d1 := HM5.out _ _ d1 (by show ob ≠ sb; exact hobs)
              have hz : decide ((0 : Int) < (m : Int) + 1) = true := decide_eq_true (by omega)
              have hml : (m : Int) < S.length := by omega
              have hmN : m < xs.length := by omega
              have hwm := IntWalk.i64_in (m : Int) (by omega)
              have hmm : (m : Int) + 1 - 1 = (m : Int) := by omega
              rcases hpo with hp | ⟨hp, hp2⟩
              · have hg1 : decide (t < p1) = false := decide_eq_false (by omega)
                have hg2 : (p1 == t) = false := by rw [beq_eq_false_iff_ne]; omega
                clear hpc hp
                refine Fx.wp_region_f [] (fun _ w' => Mod W5 w' []) (by kernel_rfl) (by decide) (Mod.refl _ _).drew ?_
                have hSS : ∀ (m' : Nat) w', Mod W5 w' [] → _ := fun m' w' h => (⟨keepC h x0, keepC h x1, keepC h d0, keepC h d1⟩ : _ ∧ _ ∧ _ ∧ _)
                refine Fx.take (i := 0) (v := ?_) _ rfl (by kernel_rfl) (by kernel_rfl) (by rfl) hSS ?_ ?_
                rotate_left
                · (intro w' hSw; (try dsimp only at hSw); go_simp; first | done | with_reducible rfl)
                try simp only [List.getElem_toArray, List.getElem_cons_succ, List.getElem_cons_zero, Act.put, List.setIfInBounds_toArray, List.set_cons_zero, List.set_cons_succ]
                refine Fx.take (i := 1) (v := ?_) _ rfl (by kernel_rfl) (by kernel_rfl) (by rfl) hSS ?_ ?_
                rotate_left
                · (intro w' hSw; (try dsimp only at hSw); go_simp; first | done | with_reducible rfl)
                try simp only [List.getElem_toArray, List.getElem_cons_succ, List.getElem_cons_zero, Act.put, List.setIfInBounds_toArray, List.set_cons_zero, List.set_cons_succ]
                refine Fx.take (i := 2) (v := ?_) _ rfl (by kernel_rfl) (by kernel_rfl) (by rfl) hSS ?_ ?_
                rotate_left
                · (intro w' hSw; (try dsimp only at hSw); go_simp; first | done | with_reducible rfl)
                try simp only [List.getElem_toArray, List.getElem_cons_succ, List.getElem_cons_zero, Act.put, List.setIfInBounds_toArray, List.set_cons_zero, List.set_cons_succ]
                refine Fx.take (i := 3) (v := ?_) _ rfl (by kernel_rfl) (by kernel_rfl) (by rfl) hSS ?_ ?_
                rotate_left
                · (intro w' hSw; (try dsimp only at hSw); go_simp; first | done | with_reducible rfl)
                try simp only [List.getElem_toArray, List.getElem_cons_succ, List.getElem_cons_zero, Act.put, List.setIfInBounds_toArray, List.set_cons_zero, List.set_cons_succ]
                refine Fx.take (i := 4) (v := ?_) _ rfl (by kernel_rfl) (by kernel_rfl) (by rfl) hSS ?_ ?_
                rotate_left
                · (intro w' hSw; (try dsimp only at hSw); go_simp; first | done | with_reducible rfl)
                try simp only [List.getElem_toArray, List.getElem_cons_succ, List.getElem_cons_zero, Act.put, List.setIfInBounds_toArray, List.set_cons_zero, List.set_cons_succ]
                refine Fx.take (i := 5) (v := ?_) _ rfl (by kernel_rfl) (by kernel_rfl) (by rfl) hSS ?_ ?_
                rotate_left
                · (intro w' hSw; (try dsimp only at hSw); go_simp; first | done | with_reducible rfl)
                try simp only [List.getElem_toArray, List.getElem_cons_succ, List.getElem_cons_zero, Act.put, List.setIfInBounds_toArray, List.set_cons_zero, List.set_cons_succ]
                refine Fx.take (i := 6) (v := ?_) _ rfl (by kernel_rfl) (by kernel_rfl) (by rfl) hSS ?_ ?_
                rotate_left
                · (intro w' hSw; (try dsimp only at hSw); go_simp; first | done | with_reducible rfl)
                try simp only [List.getElem_toArray, List.getElem_cons_succ, List.getElem_cons_zero, Act.put, List.setIfInBounds_toArray, List.set_cons_zero, List.set_cons_succ]
                refine Fx.take (i := 7) (v := ?_) _ rfl (by kernel_rfl) (by kernel_rfl) (by rfl) hSS ?_ ?_
                rotate_left
                · (intro w' hSw; (try dsimp only at hSw); go_simp; first | done | with_reducible rfl)
                try simp only [List.getElem_toArray, List.getElem_cons_succ, List.getElem_cons_zero, Act.put, List.setIfInBounds_toArray, List.set_cons_zero, List.set_cons_succ]
                refine Fx.take (i := 8) (v := ?_) _ rfl (by kernel_rfl) (by kernel_rfl) (by rfl) hSS ?_ ?_
                rotate_left
                · (intro w' hSw; (try dsimp only at hSw); go_simp; first | done | with_reducible rfl)
                try simp only [List.getElem_toArray, List.getElem_cons_succ, List.getElem_cons_zero, Act.put, List.setIfInBounds_toArray, List.set_cons_zero, List.set_cons_succ]
                refine Fx.take (i := 9) (v := ?_) _ rfl (by kernel_rfl) (by kernel_rfl) (by rfl) hSS ?_ ?_
                rotate_left
                · (intro w' hSw; (try dsimp only at hSw); go_simp; first | done | with_reducible rfl)
                try simp only [List.getElem_toArray, List.getElem_cons_succ, List.getElem_cons_zero, Act.put, List.setIfInBounds_toArray, List.set_cons_zero, List.set_cons_succ]
                refine Fx.take (i := 10) (v := ?_) _ rfl (by kernel_rfl) (by kernel_rfl) (by rfl) hSS ?_ ?_
                rotate_left
                · (intro w' hSw; (try dsimp only at hSw); go_simp; first | done | with_reducible rfl)
                try simp only [List.getElem_toArray, List.getElem_cons_succ, List.getElem_cons_zero, Act.put, List.setIfInBounds_toArray, List.set_cons_zero, List.set_cons_succ]
                refine Fx.take (i := 11) (v := ?_) _ rfl (by kernel_rfl) (by kernel_rfl) (by rfl) hSS ?_ ?_
                rotate_left
                · (intro w' hSw; (try dsimp only at hSw); go_simp; first | done | with_reducible rfl)
                try simp only [List.getElem_toArray, List.getElem_cons_succ, List.getElem_cons_zero, Act.put, List.setIfInBounds_toArray, List.set_cons_zero, List.set_cons_succ]
                refine Fx.take (i := 12) (v := ?_) _ rfl (by kernel_rfl) (by kernel_rfl) (by rfl) hSS ?_ ?_
                rotate_left
                · (intro w' hSw; (try dsimp only at hSw); go_simp; first | done | with_reducible rfl)
                try simp only [List.getElem_toArray, List.getElem_cons_succ, List.getElem_cons_zero, Act.put, List.setIfInBounds_toArray, List.set_cons_zero, List.set_cons_succ]
                refine Fx.take (i := 13) (v := ?_) _ rfl (by kernel_rfl) (by kernel_rfl) (by rfl) hSS ?_ ?_
                rotate_left
                · (intro w' hSw; (try dsimp only at hSw); go_simp; first | done | with_reducible rfl)
                try simp only [List.getElem_toArray, List.getElem_cons_succ, List.getElem_cons_zero, Act.put, List.setIfInBounds_toArray, List.set_cons_zero, List.set_cons_succ]
                refine Fx.take (i := 14) (v := ?_) _ rfl (by kernel_rfl) (by kernel_rfl) (by rfl) hSS ?_ ?_
                rotate_left
                · (intro w' hSw; (try dsimp only at hSw); go_simp; first | done | with_reducible rfl)
                try simp only [List.getElem_toArray, List.getElem_cons_succ, List.getElem_cons_zero, Act.put, List.setIfInBounds_toArray, List.set_cons_zero, List.set_cons_succ]
                refine Fx.take (i := 15) (v := ?_) _ rfl (by kernel_rfl) (by kernel_rfl) (by rfl) hSS ?_ ?_
                rotate_left
                · (intro w' hSw; (try dsimp only at hSw); go_simp; first | done | with_reducible rfl)
                try simp only [List.getElem_toArray, List.getElem_cons_succ, List.getElem_cons_zero, Act.put, List.setIfInBounds_toArray, List.set_cons_zero, List.set_cons_succ]
                refine Fx.take (i := 16) (v := ?_) _ rfl (by kernel_rfl) (by kernel_rfl) (by rfl) hSS ?_ ?_
                rotate_left
                · (intro w' hSw; (try dsimp only at hSw); go_simp; first | done | with_reducible rfl)
                try simp only [List.getElem_toArray, List.getElem_cons_succ, List.getElem_cons_zero, Act.put, List.setIfInBounds_toArray, List.set_cons_zero, List.set_cons_succ]
                refine Fx.take (i := 17) (v := ?_) _ rfl (by kernel_rfl) (by kernel_rfl) (by rfl) hSS ?_ ?_
                rotate_left
                · (intro w' hSw; (try dsimp only at hSw); go_simp; first | done | with_reducible rfl)
                try simp only [List.getElem_toArray, List.getElem_cons_succ, List.getElem_cons_zero, Act.put, List.setIfInBounds_toArray, List.set_cons_zero, List.set_cons_succ]
                refine Fx.take (i := 18) (v := ?_) _ rfl (by kernel_rfl) (by kernel_rfl) (by rfl) hSS ?_ ?_
                rotate_left
                · (intro w' hSw; (try dsimp only at hSw); go_simp; first | done | with_reducible rfl)
                try simp only [List.getElem_toArray, List.getElem_cons_succ, List.getElem_cons_zero, Act.put, List.setIfInBounds_toArray, List.set_cons_zero, List.set_cons_succ]
                refine Fx.take (i := 19) (v := ?_) _ rfl (by kernel_rfl) (by kernel_rfl) (by rfl) hSS ?_ ?_
                rotate_left
                · (intro w' hSw; (try dsimp only at hSw); go_simp; first | done | with_reducible rfl)
                try simp only [List.getElem_toArray, List.getElem_cons_succ, List.getElem_cons_zero, Act.put, List.setIfInBounds_toArray, List.set_cons_zero, List.set_cons_succ]
                refine Fx.take (i := 20) (v := ?_) _ rfl (by kernel_rfl) (by kernel_rfl) (by rfl) hSS ?_ ?_
                rotate_left
                · (intro w' hSw; (try dsimp only at hSw); go_simp; first | done | with_reducible rfl)
                try simp only [List.getElem_toArray, List.getElem_cons_succ, List.getElem_cons_zero, Act.put, List.setIfInBounds_toArray, List.set_cons_zero, List.set_cons_succ]
                refine Fx.take (i := 21) (v := ?_) _ rfl (by kernel_rfl) (by kernel_rfl) (by rfl) hSS ?_ ?_
                rotate_left
                · (intro w' hSw; (try dsimp only at hSw); go_simp; first | done | with_reducible rfl)
                try simp only [List.getElem_toArray, List.getElem_cons_succ, List.getElem_cons_zero, Act.put, List.setIfInBounds_toArray, List.set_cons_zero, List.set_cons_succ]
                refine Fx.take (i := 22) (v := ?_) _ rfl (by kernel_rfl) (by kernel_rfl) (by rfl) hSS ?_ ?_
                rotate_left
                · (intro w' hSw; (try dsimp only at hSw); go_simp; first | done | with_reducible rfl)
                try simp only [List.getElem_toArray, List.getElem_cons_succ, List.getElem_cons_zero, Act.put, List.setIfInBounds_toArray, List.set_cons_zero, List.set_cons_succ]
                refine Fx.skip (i := 23) rfl (by kernel_rfl) (by kernel_rfl) (by rfl) ?_
                try simp only [List.getElem_toArray, List.getElem_cons_succ, List.getElem_cons_zero, Act.put, List.setIfInBounds_toArray, List.set_cons_zero, List.set_cons_succ]
                refine Fx.skip (i := 24) rfl (by kernel_rfl) (by kernel_rfl) (by rfl) ?_
                try simp only [List.getElem_toArray, List.getElem_cons_succ, List.getElem_cons_zero, Act.put, List.setIfInBounds_toArray, List.set_cons_zero, List.set_cons_succ]
                refine Fx.skip (i := 25) rfl (by kernel_rfl) (by kernel_rfl) (by rfl) ?_
                try simp only [List.getElem_toArray, List.getElem_cons_succ, List.getElem_cons_zero, Act.put, List.setIfInBounds_toArray, List.set_cons_zero, List.set_cons_succ]
                refine Fx.skip (i := 26) rfl (by kernel_rfl) (by kernel_rfl) (by rfl) ?_
                try simp only [List.getElem_toArray, List.getElem_cons_succ, List.getElem_cons_zero, Act.put, List.setIfInBounds_toArray, List.set_cons_zero, List.set_cons_succ]
                refine Fx.skip (i := 27) rfl (by kernel_rfl) (by kernel_rfl) (by rfl) ?_
                try simp only [List.getElem_toArray, List.getElem_cons_succ, List.getElem_cons_zero, Act.put, List.setIfInBounds_toArray, List.set_cons_zero, List.set_cons_succ]
                refine Fx.skip (i := 28) rfl (by kernel_rfl) (by kernel_rfl) (by rfl) ?_
                try simp only [List.getElem_toArray, List.getElem_cons_succ, List.getElem_cons_zero, Act.put, List.setIfInBounds_toArray, List.set_cons_zero, List.set_cons_succ]
                refine Fx.skip (i := 29) rfl (by kernel_rfl) (by kernel_rfl) (by rfl) ?_
                try simp only [List.getElem_toArray, List.getElem_cons_succ, List.getElem_cons_zero, Act.put, List.setIfInBounds_toArray, List.set_cons_zero, List.set_cons_succ]
                refine Fx.skip (i := 30) rfl (by kernel_rfl) (by kernel_rfl) (by rfl) ?_
                try simp only [List.getElem_toArray, List.getElem_cons_succ, List.getElem_cons_zero, Act.put, List.setIfInBounds_toArray, List.set_cons_zero, List.set_cons_succ]
                refine Fx.skip (i := 31) rfl (by kernel_rfl) (by kernel_rfl) (by rfl) ?_
                try simp only [List.getElem_toArray, List.getElem_cons_succ, List.getElem_cons_zero, Act.put, List.setIfInBounds_toArray, List.set_cons_zero, List.set_cons_succ]
                refine Fx.take (i := 32) (v := ?_) _ rfl (by kernel_rfl) (by kernel_rfl) (by rfl) hSS ?_ ?_
                rotate_left
                · (intro w' hSw; (try dsimp only at hSw); go_simp; first | done | with_reducible rfl)
                try simp only [List.getElem_toArray, List.getElem_cons_succ, List.getElem_cons_zero, Act.put, List.setIfInBounds_toArray, List.set_cons_zero, List.set_cons_succ]
                refine Fx.take (i := 33) (v := ?_) _ rfl (by kernel_rfl) (by kernel_rfl) (by rfl) hSS ?_ ?_
                rotate_left
                · (intro w' hSw; (try dsimp only at hSw); go_simp; first | done | with_reducible rfl)
                try simp only [List.getElem_toArray, List.getElem_cons_succ, List.getElem_cons_zero, Act.put, List.setIfInBounds_toArray, List.set_cons_zero, List.set_cons_succ]
                refine Fx.take (i := 34) (v := ?_) _ rfl (by kernel_rfl) (by kernel_rfl) (by rfl) hSS ?_ ?_
                rotate_left
                · (intro w' hSw; (try dsimp only at hSw); go_simp; first | done | with_reducible rfl)
                try simp only [List.getElem_toArray, List.getElem_cons_succ, List.getElem_cons_zero, Act.put, List.setIfInBounds_toArray, List.set_cons_zero, List.set_cons_succ]
                refine Fx.done 0 (by kernel_rfl) (by kernel_rfl) (fun w6 hC => ?_)
                have HA6 := Lib.hid (HA5.out.mod hC)
                have HI6 := Lib.hid (HI5.out.mod hC (by simp))
                have HB6 := Lib.hid (HB5.out.mod hC (by simp))
                clear hC hSS HX5 HM5 HA5 HI5 HB5
                go_wp2_with fail
                go_roundw
                case rel => exact ⟨(m + 1) + 1, by omega, by go_num, HA6.out, HI6.out, HB6.out⟩
                case measure => first | (simp [intOf]; done) | (simp [intOf]; omega)

              · have hg1 : decide (t < p1) = false := decide_eq_false (by omega)
                have hg2 : (p1 == t) = true := by rw [beq_iff_eq]; omega
                have hg3 : decide ((j : Int) + 1 ≤ p2) = false := decide_eq_false (by omega)
                have hg4 : decide ((j : Int) < p2) = false := decide_eq_false (by omega)
                clear hpc hp hp2
                refine Fx.wp_region_f [] (fun _ w' => Mod W5 w' []) (by kernel_rfl) (by decide) (Mod.refl _ _).drew ?_
                have hSS : ∀ (m' : Nat) w', Mod W5 w' [] → _ := fun m' w' h => (⟨keepC h x0, keepC h x1, keepC h d0, keepC h d1⟩ : _ ∧ _ ∧ _ ∧ _)
                refine Fx.take (i := 0) (v := ?_) _ rfl (by kernel_rfl) (by kernel_rfl) (by rfl) hSS ?_ ?_
                rotate_left
                · (intro w' hSw; (try dsimp only at hSw); go_simp; first | done | with_reducible rfl)
                try simp only [List.getElem_toArray, List.getElem_cons_succ, List.getElem_cons_zero, Act.put, List.setIfInBounds_toArray, List.set_cons_zero, List.set_cons_succ]
                refine Fx.take (i := 1) (v := ?_) _ rfl (by kernel_rfl) (by kernel_rfl) (by rfl) hSS ?_ ?_
                rotate_left
                · (intro w' hSw; (try dsimp only at hSw); go_simp; first | done | with_reducible rfl)
                try simp only [List.getElem_toArray, List.getElem_cons_succ, List.getElem_cons_zero, Act.put, List.setIfInBounds_toArray, List.set_cons_zero, List.set_cons_succ]
                refine Fx.take (i := 2) (v := ?_) _ rfl (by kernel_rfl) (by kernel_rfl) (by rfl) hSS ?_ ?_
                rotate_left
                · (intro w' hSw; (try dsimp only at hSw); go_simp; first | done | with_reducible rfl)
                try simp only [List.getElem_toArray, List.getElem_cons_succ, List.getElem_cons_zero, Act.put, List.setIfInBounds_toArray, List.set_cons_zero, List.set_cons_succ]
                refine Fx.take (i := 3) (v := ?_) _ rfl (by kernel_rfl) (by kernel_rfl) (by rfl) hSS ?_ ?_
                rotate_left
                · (intro w' hSw; (try dsimp only at hSw); go_simp; first | done | with_reducible rfl)
                try simp only [List.getElem_toArray, List.getElem_cons_succ, List.getElem_cons_zero, Act.put, List.setIfInBounds_toArray, List.set_cons_zero, List.set_cons_succ]
                refine Fx.take (i := 4) (v := ?_) _ rfl (by kernel_rfl) (by kernel_rfl) (by rfl) hSS ?_ ?_
                rotate_left
                · (intro w' hSw; (try dsimp only at hSw); go_simp; first | done | with_reducible rfl)
                try simp only [List.getElem_toArray, List.getElem_cons_succ, List.getElem_cons_zero, Act.put, List.setIfInBounds_toArray, List.set_cons_zero, List.set_cons_succ]
                refine Fx.take (i := 5) (v := ?_) _ rfl (by kernel_rfl) (by kernel_rfl) (by rfl) hSS ?_ ?_
                rotate_left
                · (intro w' hSw; (try dsimp only at hSw); go_simp; first | done | with_reducible rfl)
                try simp only [List.getElem_toArray, List.getElem_cons_succ, List.getElem_cons_zero, Act.put, List.setIfInBounds_toArray, List.set_cons_zero, List.set_cons_succ]
                refine Fx.take (i := 6) (v := ?_) _ rfl (by kernel_rfl) (by kernel_rfl) (by rfl) hSS ?_ ?_
                rotate_left
                · (intro w' hSw; (try dsimp only at hSw); go_simp; first | done | with_reducible rfl)
                try simp only [List.getElem_toArray, List.getElem_cons_succ, List.getElem_cons_zero, Act.put, List.setIfInBounds_toArray, List.set_cons_zero, List.set_cons_succ]
                refine Fx.take (i := 7) (v := ?_) _ rfl (by kernel_rfl) (by kernel_rfl) (by rfl) hSS ?_ ?_
                rotate_left
                · (intro w' hSw; (try dsimp only at hSw); go_simp; first | done | with_reducible rfl)
                try simp only [List.getElem_toArray, List.getElem_cons_succ, List.getElem_cons_zero, Act.put, List.setIfInBounds_toArray, List.set_cons_zero, List.set_cons_succ]
                refine Fx.take (i := 8) (v := ?_) _ rfl (by kernel_rfl) (by kernel_rfl) (by rfl) hSS ?_ ?_
                rotate_left
                · (intro w' hSw; (try dsimp only at hSw); go_simp; first | done | with_reducible rfl)
                try simp only [List.getElem_toArray, List.getElem_cons_succ, List.getElem_cons_zero, Act.put, List.setIfInBounds_toArray, List.set_cons_zero, List.set_cons_succ]
                refine Fx.take (i := 9) (v := ?_) _ rfl (by kernel_rfl) (by kernel_rfl) (by rfl) hSS ?_ ?_
                rotate_left
                · (intro w' hSw; (try dsimp only at hSw); go_simp; first | done | with_reducible rfl)
                try simp only [List.getElem_toArray, List.getElem_cons_succ, List.getElem_cons_zero, Act.put, List.setIfInBounds_toArray, List.set_cons_zero, List.set_cons_succ]
                refine Fx.take (i := 10) (v := ?_) _ rfl (by kernel_rfl) (by kernel_rfl) (by rfl) hSS ?_ ?_
                rotate_left
                · (intro w' hSw; (try dsimp only at hSw); go_simp; first | done | with_reducible rfl)
                try simp only [List.getElem_toArray, List.getElem_cons_succ, List.getElem_cons_zero, Act.put, List.setIfInBounds_toArray, List.set_cons_zero, List.set_cons_succ]
                refine Fx.take (i := 11) (v := ?_) _ rfl (by kernel_rfl) (by kernel_rfl) (by rfl) hSS ?_ ?_
                rotate_left
                · (intro w' hSw; (try dsimp only at hSw); go_simp; first | done | with_reducible rfl)
                try simp only [List.getElem_toArray, List.getElem_cons_succ, List.getElem_cons_zero, Act.put, List.setIfInBounds_toArray, List.set_cons_zero, List.set_cons_succ]
                refine Fx.take (i := 12) (v := ?_) _ rfl (by kernel_rfl) (by kernel_rfl) (by rfl) hSS ?_ ?_
                rotate_left
                · (intro w' hSw; (try dsimp only at hSw); go_simp; first | done | with_reducible rfl)
                try simp only [List.getElem_toArray, List.getElem_cons_succ, List.getElem_cons_zero, Act.put, List.setIfInBounds_toArray, List.set_cons_zero, List.set_cons_succ]
                refine Fx.take (i := 13) (v := ?_) _ rfl (by kernel_rfl) (by kernel_rfl) (by rfl) hSS ?_ ?_
                rotate_left
                · (intro w' hSw; (try dsimp only at hSw); go_simp; first | done | with_reducible rfl)
                try simp only [List.getElem_toArray, List.getElem_cons_succ, List.getElem_cons_zero, Act.put, List.setIfInBounds_toArray, List.set_cons_zero, List.set_cons_succ]
                refine Fx.take (i := 14) (v := ?_) _ rfl (by kernel_rfl) (by kernel_rfl) (by rfl) hSS ?_ ?_
                rotate_left
                · (intro w' hSw; (try dsimp only at hSw); go_simp; first | done | with_reducible rfl)
                try simp only [List.getElem_toArray, List.getElem_cons_succ, List.getElem_cons_zero, Act.put, List.setIfInBounds_toArray, List.set_cons_zero, List.set_cons_succ]
                refine Fx.take (i := 15) (v := ?_) _ rfl (by kernel_rfl) (by kernel_rfl) (by rfl) hSS ?_ ?_
                rotate_left
                · (intro w' hSw; (try dsimp only at hSw); go_simp; first | done | with_reducible rfl)
                try simp only [List.getElem_toArray, List.getElem_cons_succ, List.getElem_cons_zero, Act.put, List.setIfInBounds_toArray, List.set_cons_zero, List.set_cons_succ]
                refine Fx.take (i := 16) (v := ?_) _ rfl (by kernel_rfl) (by kernel_rfl) (by rfl) hSS ?_ ?_
                rotate_left
                · (intro w' hSw; (try dsimp only at hSw); go_simp; first | done | with_reducible rfl)
                try simp only [List.getElem_toArray, List.getElem_cons_succ, List.getElem_cons_zero, Act.put, List.setIfInBounds_toArray, List.set_cons_zero, List.set_cons_succ]
                refine Fx.take (i := 17) (v := ?_) _ rfl (by kernel_rfl) (by kernel_rfl) (by rfl) hSS ?_ ?_
                rotate_left
                · (intro w' hSw; (try dsimp only at hSw); go_simp; first | done | with_reducible rfl)
                try simp only [List.getElem_toArray, List.getElem_cons_succ, List.getElem_cons_zero, Act.put, List.setIfInBounds_toArray, List.set_cons_zero, List.set_cons_succ]
                refine Fx.take (i := 18) (v := ?_) _ rfl (by kernel_rfl) (by kernel_rfl) (by rfl) hSS ?_ ?_
                rotate_left
                · (intro w' hSw; (try dsimp only at hSw); go_simp; first | done | with_reducible rfl)
                try simp only [List.getElem_toArray, List.getElem_cons_succ, List.getElem_cons_zero, Act.put, List.setIfInBounds_toArray, List.set_cons_zero, List.set_cons_succ]
                refine Fx.take (i := 19) (v := ?_) _ rfl (by kernel_rfl) (by kernel_rfl) (by rfl) hSS ?_ ?_
                rotate_left
                · (intro w' hSw; (try dsimp only at hSw); go_simp; first | done | with_reducible rfl)
                try simp only [List.getElem_toArray, List.getElem_cons_succ, List.getElem_cons_zero, Act.put, List.setIfInBounds_toArray, List.set_cons_zero, List.set_cons_succ]
                refine Fx.take (i := 20) (v := ?_) _ rfl (by kernel_rfl) (by kernel_rfl) (by rfl) hSS ?_ ?_
                rotate_left
                · (intro w' hSw; (try dsimp only at hSw); go_simp; first | done | with_reducible rfl)
                try simp only [List.getElem_toArray, List.getElem_cons_succ, List.getElem_cons_zero, Act.put, List.setIfInBounds_toArray, List.set_cons_zero, List.set_cons_succ]
                refine Fx.take (i := 21) (v := ?_) _ rfl (by kernel_rfl) (by kernel_rfl) (by rfl) hSS ?_ ?_
                rotate_left
                · (intro w' hSw; (try dsimp only at hSw); go_simp; first | done | with_reducible rfl)
                try simp only [List.getElem_toArray, List.getElem_cons_succ, List.getElem_cons_zero, Act.put, List.setIfInBounds_toArray, List.set_cons_zero, List.set_cons_succ]
                refine Fx.take (i := 22) (v := ?_) _ rfl (by kernel_rfl) (by kernel_rfl) (by rfl) hSS ?_ ?_
                rotate_left
                · (intro w' hSw; (try dsimp only at hSw); go_simp; first | done | with_reducible rfl)
                try simp only [List.getElem_toArray, List.getElem_cons_succ, List.getElem_cons_zero, Act.put, List.setIfInBounds_toArray, List.set_cons_zero, List.set_cons_succ]
                refine Fx.take (i := 23) (v := ?_) _ rfl (by kernel_rfl) (by kernel_rfl) (by rfl) hSS ?_ ?_
                rotate_left
                · (intro w' hSw; (try dsimp only at hSw); go_simp; first | done | with_reducible rfl)
                try simp only [List.getElem_toArray, List.getElem_cons_succ, List.getElem_cons_zero, Act.put, List.setIfInBounds_toArray, List.set_cons_zero, List.set_cons_succ]
                refine Fx.take (i := 24) (v := ?_) _ rfl (by kernel_rfl) (by kernel_rfl) (by rfl) hSS ?_ ?_
                rotate_left
                · (intro w' hSw; (try dsimp only at hSw); go_simp; first | done | with_reducible rfl)
                try simp only [List.getElem_toArray, List.getElem_cons_succ, List.getElem_cons_zero, Act.put, List.setIfInBounds_toArray, List.set_cons_zero, List.set_cons_succ]
                refine Fx.take (i := 25) (v := ?_) _ rfl (by kernel_rfl) (by kernel_rfl) (by rfl) hSS ?_ ?_
                rotate_left
                · (intro w' hSw; (try dsimp only at hSw); go_simp; first | done | with_reducible rfl)
                try simp only [List.getElem_toArray, List.getElem_cons_succ, List.getElem_cons_zero, Act.put, List.setIfInBounds_toArray, List.set_cons_zero, List.set_cons_succ]
                refine Fx.take (i := 26) (v := ?_) _ rfl (by kernel_rfl) (by kernel_rfl) (by rfl) hSS ?_ ?_
                rotate_left
                · (intro w' hSw; (try dsimp only at hSw); go_simp; first | done | with_reducible rfl)
                try simp only [List.getElem_toArray, List.getElem_cons_succ, List.getElem_cons_zero, Act.put, List.setIfInBounds_toArray, List.set_cons_zero, List.set_cons_succ]
                refine Fx.take (i := 27) (v := ?_) _ rfl (by kernel_rfl) (by kernel_rfl) (by rfl) hSS ?_ ?_
                rotate_left
                · (intro w' hSw; (try dsimp only at hSw); go_simp; first | done | with_reducible rfl)
                try simp only [List.getElem_toArray, List.getElem_cons_succ, List.getElem_cons_zero, Act.put, List.setIfInBounds_toArray, List.set_cons_zero, List.set_cons_succ]
                refine Fx.take (i := 28) (v := ?_) _ rfl (by kernel_rfl) (by kernel_rfl) (by rfl) hSS ?_ ?_
                rotate_left
                · (intro w' hSw; (try dsimp only at hSw); go_simp; first | done | with_reducible rfl)
                try simp only [List.getElem_toArray, List.getElem_cons_succ, List.getElem_cons_zero, Act.put, List.setIfInBounds_toArray, List.set_cons_zero, List.set_cons_succ]
                refine Fx.take (i := 29) (v := ?_) _ rfl (by kernel_rfl) (by kernel_rfl) (by rfl) hSS ?_ ?_
                rotate_left
                · (intro w' hSw; (try dsimp only at hSw); go_simp; first | done | with_reducible rfl)
                try simp only [List.getElem_toArray, List.getElem_cons_succ, List.getElem_cons_zero, Act.put, List.setIfInBounds_toArray, List.set_cons_zero, List.set_cons_succ]
                refine Fx.take (i := 30) (v := ?_) _ rfl (by kernel_rfl) (by kernel_rfl) (by rfl) hSS ?_ ?_
                rotate_left
                · (intro w' hSw; (try dsimp only at hSw); go_simp; first | done | with_reducible rfl)
                try simp only [List.getElem_toArray, List.getElem_cons_succ, List.getElem_cons_zero, Act.put, List.setIfInBounds_toArray, List.set_cons_zero, List.set_cons_succ]
                refine Fx.take (i := 31) (v := ?_) _ rfl (by kernel_rfl) (by kernel_rfl) (by rfl) hSS ?_ ?_
                rotate_left
                · (intro w' hSw; (try dsimp only at hSw); go_simp; first | done | with_reducible rfl)
                try simp only [List.getElem_toArray, List.getElem_cons_succ, List.getElem_cons_zero, Act.put, List.setIfInBounds_toArray, List.set_cons_zero, List.set_cons_succ]
                refine Fx.take (i := 32) (v := ?_) _ rfl (by kernel_rfl) (by kernel_rfl) (by rfl) hSS ?_ ?_
                rotate_left
                · (intro w' hSw; (try dsimp only at hSw); go_simp; first | done | with_reducible rfl)
                try simp only [List.getElem_toArray, List.getElem_cons_succ, List.getElem_cons_zero, Act.put, List.setIfInBounds_toArray, List.set_cons_zero, List.set_cons_succ]
                refine Fx.take (i := 33) (v := ?_) _ rfl (by kernel_rfl) (by kernel_rfl) (by rfl) hSS ?_ ?_
                rotate_left
                · (intro w' hSw; (try dsimp only at hSw); go_simp; first | done | with_reducible rfl)
                try simp only [List.getElem_toArray, List.getElem_cons_succ, List.getElem_cons_zero, Act.put, List.setIfInBounds_toArray, List.set_cons_zero, List.set_cons_succ]
                refine Fx.take (i := 34) (v := ?_) _ rfl (by kernel_rfl) (by kernel_rfl) (by rfl) hSS ?_ ?_
                rotate_left
                · (intro w' hSw; (try dsimp only at hSw); go_simp; first | done | with_reducible rfl)
                try simp only [List.getElem_toArray, List.getElem_cons_succ, List.getElem_cons_zero, Act.put, List.setIfInBounds_toArray, List.set_cons_zero, List.set_cons_succ]
                refine Fx.done 0 (by kernel_rfl) (by kernel_rfl) (fun w6 hC => ?_)
                have HA6 := Lib.hid (HA5.out.mod hC)
                have HI6 := Lib.hid (HI5.out.mod hC (by simp))
                have HB6 := Lib.hid (HB5.out.mod hC (by simp))
                clear hC hSS HX5 HM5 HA5 HI5 HB5
                go_wp2_with fail
                go_roundw
                case rel => exact ⟨(m + 1) + 1, by omega, by go_num, HA6.out, HI6.out, HB6.out⟩
                case measure => first | (simp [intOf]; done) | (simp [intOf]; omega)
        · have hge2 : (S.length : Int) ≤ k := by omega
          have LN := Lib.hid (alen_calls w wr w.heap.size (xs.length : Int) [] HA.out)
          have hfin := Lib.hid HA.out.md.below0
          have hle : ((S.length : Int) == (xs.length : Int)) = true := by rw [beq_iff_eq]; omega
          go_wp2_with fail
          (with_reducible refine LN.out.mono ?_)
          rintro e w9 ⟨rfl, rfl⟩
          go_wp2_with fail
          go_ret
          exact ⟨rfl, hfin.out⟩
end Go.Proofs.Ytceocpohdckkoaa.Ag
