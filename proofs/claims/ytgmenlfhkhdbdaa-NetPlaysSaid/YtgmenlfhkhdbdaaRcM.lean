/- Several texts in one. -/
import Derived.Test.YtgmenlfhkhdbdaaRb3
import Derived.Test.YtgmenlfhkhdbdaaNt9
import Derived.Test.YtgmenlfhkhdbdaaRb2
import Derived.Deep.DeepCutAuto
section
/- NetPlays: the law's light; the reference's time and Off. -/
namespace Go.Proofs.Ytgmenlfhkhdbdaa.Nt
open Go.RowKit Mem Nm Ra
set_option linter.unusedSimpArgs false
set_option linter.unusedVariables false
set_option maxRecDepth 100000

def LightP (m : Ms) (w : World) (e : Ending) (w' : World) : Prop := ∃ B : Bool, e = .returned (.bool B) ∧ Mod w w' [] ∧ (B = true → m.es.length ≤ 20)
set_option maxHeartbeats 4000000 in
theorem light_calls (m : Ms) (v : Value) (w : World) (h : EnsV w v m.es) (hn : m.es.length ≤ 140737488351232) (hx : m.sx.size ≤ 140737488351232) (hes : ∀ x ∈ m.es, x.x.size ≤ 140737488351232) :
    Calls Try.prog 19 #[msV m v] w (LightP m w) := by
  have HV := Lib.hid h
  obtain ⟨ad, cap, rfl, hcap, _⟩ := h
  obtain ⟨kind, frm, dst, term, index, lt, commit, yes, es, si, st, sm, sx⟩ := m
  have HLP : Hid (∀ e w', (∃ B : Bool, e = Ending.returned (.bool B) ∧ Mod w w' [] ∧ (B = true → es.length ≤ 20)) → LightP ⟨kind, frm, dst, term, index, lt, commit, yes, es, si, st, sm, sx⟩ w e w') := Lib.hid (fun _ _ h => h)
  generalize LightP _ w = LP at *
  simp only at hn hx hes HV hcap
  have HES := Lib.hid hes
  clear hes
  have hn' : (es.length : Int) ≤ 140737488351232 := by omega
  have hx' : (sx.size : Int) ≤ 140737488351232 := by omega
  show Calls _ _ #[.agg #[.int .i64 kind, .int .i64 frm, .int .i64 dst, .int .i64 term, .int .i64 index, .int .i64 lt, .int .i64 commit, .bool yes, .slice ad es.length cap, .int .i64 si, .int .i64 st, .int .i64 sm, .string sx]] _ _
  have HM := Lib.hid ((Mod.refl w []).alloc (.cells #[.int .i64 kind, .int .i64 frm, .int .i64 dst, .int .i64 term, .int .i64 index, .int .i64 lt, .int .i64 commit, .bool yes, .slice ad es.length cap, .int .i64 si, .int .i64 st, .int .i64 sm, .string sx] 33))
  have HB := Lib.hid (Blk.new w #[.int .i64 kind, .int .i64 frm, .int .i64 dst, .int .i64 term, .int .i64 index, .int .i64 lt, .int .i64 commit, .bool yes, .slice ad es.length cap, .int .i64 si, .int .i64 st, .int .i64 sm, .string sx] 33)
  by_cases h1 : 20 < es.length
  · have h1' : (20 : Int) < es.length := by omega
    go_enter Try.func19, Try.ntmps19
    go_wp2_with fail
    exact HLP.out _ _ ⟨false, rfl, HM.out, fun h => by cases h⟩
  have h1' : ¬ (20 : Int) < es.length := by omega
  by_cases h2 : 3000 < sx.size
  · have h2' : (3000 : Int) < sx.size := by omega
    go_enter Try.func19, Try.ntmps19
    go_wp2_with fail
    exact HLP.out _ _ ⟨false, rfl, HM.out, fun h => by cases h⟩
  have h2' : ¬ (3000 : Int) < sx.size := by omega
  go_enter Try.func19, Try.ntmps19
  go_wp2_with fail
  go_loopw [4] (fun vi wr => ∃ i : Nat, i ≤ es.length ∧ vi = .int .i64 (i : Int) ∧ Mod w wr [] ∧ Blk wr w.heap.size #[.int .i64 kind, .int .i64 frm, .int .i64 dst, .int .i64 term, .int .i64 index, .int .i64 lt, .int .i64 commit, .bool yes, .slice ad es.length cap, .int .i64 si, .int .i64 st, .int .i64 sm, .string sx] 33) (fun vi _ => es.length + 1 - (intOf vi).toNat)
  case atStart => exact ⟨0, Nat.zero_le _, rfl, HM.out, HB.out⟩
  case round =>
    obtain ⟨i, hi, rfl, hm, hbr⟩ := hrel
    have HMr := Lib.hid hm
    have HBr := Lib.hid hbr
    clear hm hbr HM HB
    have c8 := HBr.out.cell 8
    by_cases hlt : i < es.length
    · have hlt' : (i : Int) < es.length := by omega
      obtain ⟨ad', cap', e', _, hcs⟩ := HV.out
      injection e' with e1 e2 e3
      subst e1 e3
      obtain ⟨bb, off, hadd, hcs2⟩ := hcs.resolve_left (fun h => by rw [h] at hlt; simp at hlt)
      subst hadd
      obtain ⟨_, _, _, e3⟩ := (hcs2 i hlt).mod HMr.out
      have hz := HES.out _ (List.getElem_mem hlt)
      clear hcs hcs2 e2
      generalize (es[i]'hlt).x = x at *
      have hz' : (x.size : Int) ≤ 140737488351232 := by omega
      by_cases hx3 : 3000 < x.size
      · have hx3' : (3000 : Int) < x.size := by omega
        go_wp2_with fail
        exact HLP.out _ _ ⟨false, rfl, HMr.out, fun h => by cases h⟩
      · have hx3' : ¬ (3000 : Int) < x.size := by omega
        go_wp2_with fail
        go_roundw
        case rel => exact ⟨i + 1, by omega, by go_num, HMr.out, HBr.out⟩
        case measure => simp [intOf]; omega
    · obtain rfl : i = es.length := by omega
      go_wp2_with fail
      exact HLP.out _ _ ⟨true, rfl, HMr.out, fun _ => by omega⟩
theorem rtime_calls (t : Int) (w : World) : Calls Try.prog 90 #[.int .i64 t] w fun e w' => e = .returned (.bool (ixB t)) ∧ w = w' := by
  by_cases h1 : 0 ≤ t
  · by_cases h2 : t ≤ 549755813888
    · rw [show ixB t = true from inB_t.2 ⟨h1, h2⟩]
      go_enter Try.func90, Try.ntmps90
      go_wp2_with fail
      go_ret
      exact ⟨Bits.ret_bool (by simp [h1, h2]), rfl⟩
    · rw [show ixB t = false from inB_f.2 (fun h => h2 h.2)]
      go_enter Try.func90, Try.ntmps90
      go_wp2_with fail
      go_ret
      exact ⟨Bits.ret_bool (by simp [h1, h2]), rfl⟩
  · rw [show ixB t = false from inB_f.2 (fun h => h1 h.1)]
    go_enter Try.func90, Try.ntmps90
    go_wp2_with fail
    go_ret
    exact ⟨Bits.ret_bool (by simp [h1]), rfl⟩
/-- Who is cut off, as pairs. -/
def PairsV (w : World) (v : Value) (l : List (Int × Int)) : Prop := ∃ ad cap, v = .slice ad l.length cap ∧ l.length ≤ cap ∧ (l = [] ∨ ∃ b off, ad = some ⟨b, off, none⟩ ∧ ∀ i (hi : i < l.length), w.cell? ⟨b, off + i * 2, none⟩ = some (.int .i64 l[i].1) ∧ w.cell? ⟨b, off + i * 2 + 1, none⟩ = some (.int .i64 l[i].2))
theorem PairsV.mod {a b : World} {v : Value} {l : List (Int × Int)} (h : PairsV a v l) (m : Mod a b []) : PairsV b v l := by
  obtain ⟨ad, cap, h1, h2, h3⟩ := h
  exact ⟨ad, cap, h1, h2, h3.imp id (fun ⟨g, off, e, hc⟩ => ⟨g, off, e, fun i hi => ⟨Ra.keepC m (hc i hi).1, Ra.keepC m (hc i hi).2⟩⟩)⟩
def pairB (p : Int × Int) (a b : Int) : Bool := (p.1 == a && p.2 == b) || (p.1 == b && p.2 == a)
def offL (l : List (Int × Int)) (a b : Int) : Bool := l.any (fun p => pairB p a b)
set_option maxHeartbeats 8000000 in
theorem off_calls (la : Option Addr) (ln lc : Nat) (last : Int) (vc : Value) (l : List (Int × Int)) (a b : Int) (w : World) (h : PairsV w vc l) (hn : l.length ≤ 100000) :
    Calls Try.prog 91 #[.agg #[.slice la ln lc, .int .i64 last, vc], .int .i64 a, .int .i64 b] w fun e w' => e = .returned (.bool (offL l a b)) ∧ Mod w w' [] := by
  obtain ⟨ad, cap, rfl, hcap, hr⟩ := h
  have HV := Lib.hid hr
  clear hr
  have hn' : (l.length : Int) ≤ 100000 := by omega
  have HOF : Hid (offL l a b = l.any (fun p => pairB p a b)) := Lib.hid rfl
  generalize offL l a b = OF at *
  have HM := Lib.hid ((Mod.refl w []).alloc (.cells #[.slice la ln lc, .int .i64 last, .slice ad l.length cap] 49))
  have HB := Lib.hid (Blk.new w #[.slice la ln lc, .int .i64 last, .slice ad l.length cap] 49)
  go_enter Try.func91, Try.ntmps91
  go_wp2_with fail
  go_loopw [7] (fun vi wr => ∃ i : Nat, i ≤ l.length ∧ vi = .int .i64 (i : Int) ∧ Mod w wr [] ∧ Blk wr w.heap.size #[.slice la ln lc, .int .i64 last, .slice ad l.length cap] 49 ∧ Hid (∀ t (ht : t < l.length), t < i → pairB l[t] a b = false)) (fun vi _ => l.length + 1 - (intOf vi).toNat)
  case atStart => exact ⟨0, Nat.zero_le _, rfl, HM.out, HB.out, Lib.hid (fun t _ h => by omega)⟩
  case round =>
    obtain ⟨i, hi, rfl, hm, hbr, HJ⟩ := hrel
    have HMr := Lib.hid hm
    have HBr := Lib.hid hbr
    clear hm hbr HM HB
    have c2 := HBr.out.cell 2
    by_cases hlt : i < l.length
    · have hlt' : (i : Int) < l.length := by omega
      obtain ⟨bb, off, rfl, hcs⟩ := HV.out.resolve_left (fun h => by rw [h] at hlt; simp at hlt)
      obtain ⟨e0, e1⟩ := hcs i hlt
      replace e0 := Ra.keepC HMr.out e0
      replace e1 := Ra.keepC HMr.out e1
      have HX : Hid (pairB (l[i]'hlt) a b = true → OF = true) := Lib.hid (fun h => by rw [HOF.out, List.any_eq_true]; exact ⟨_, List.getElem_mem hlt, h⟩)
      have HY : Hid (pairB (l[i]'hlt) a b = false → ∀ t (ht : t < l.length), t < i + 1 → pairB l[t] a b = false) := Lib.hid (fun h t ht hti => by
        by_cases e : t = i
        · subst e; exact h
        · exact HJ.out t ht (by omega))
      clear hcs HJ
      generalize l[i]'hlt = x at *
      obtain ⟨p, q⟩ := x
      simp only at e0 e1
      by_cases h1 : p = a
      · have b1 : ((p : Int) == a) = true := by simpa using h1
        clear h1
        by_cases h2 : q = b
        · have b2 : ((q : Int) == b) = true := by simpa using h2
          clear h2
          have hr := Lib.hid (show true = OF from (HX.out (by simp [pairB, b1, b2])).symm)
          clear HX HY HOF
          go_wp2_with fail
          go_ret
          exact ⟨Bits.ret_bool hr.out, HMr.out⟩
        · have b2 : ((q : Int) == b) = false := by simpa using h2
          clear h2
          by_cases h3 : p = b
          · have b3 : ((p : Int) == b) = true := by simpa using h3
            clear h3
            by_cases h4 : q = a
            · have b4 : ((q : Int) == a) = true := by simpa using h4
              clear h4
              have hr := Lib.hid (show true = OF from (HX.out (by simp [pairB, b1, b2, b3, b4])).symm)
              clear HX HY HOF
              go_wp2_with fail
              go_ret
              exact ⟨Bits.ret_bool hr.out, HMr.out⟩
            · have b4 : ((q : Int) == a) = false := by simpa using h4
              clear h4
              have HZ := Lib.hid (HY.out (by simp [pairB, b1, b2, b3, b4]))
              clear HX HY
              go_wp2_with fail
              go_roundw
              case rel => exact ⟨i + 1, by omega, by go_num, HMr.out, HBr.out, HZ⟩
              case measure => simp [intOf]; omega
          · have b3 : ((p : Int) == b) = false := by simpa using h3
            clear h3
            have HZ := Lib.hid (HY.out (by simp [pairB, b1, b2, b3]))
            clear HX HY
            go_wp2_with fail
            go_roundw
            case rel => exact ⟨i + 1, by omega, by go_num, HMr.out, HBr.out, HZ⟩
            case measure => simp [intOf]; omega
      · have b1 : ((p : Int) == a) = false := by simpa using h1
        clear h1
        by_cases h3 : p = b
        · have b3 : ((p : Int) == b) = true := by simpa using h3
          clear h3
          by_cases h4 : q = a
          · have b4 : ((q : Int) == a) = true := by simpa using h4
            clear h4
            have hr := Lib.hid (show true = OF from (HX.out (by simp [pairB, b1, b3, b4])).symm)
            clear HX HY HOF
            go_wp2_with fail
            go_ret
            exact ⟨Bits.ret_bool hr.out, HMr.out⟩
          · have b4 : ((q : Int) == a) = false := by simpa using h4
            clear h4
            have HZ := Lib.hid (HY.out (by simp [pairB, b1, b3, b4]))
            clear HX HY
            go_wp2_with fail
            go_roundw
            case rel => exact ⟨i + 1, by omega, by go_num, HMr.out, HBr.out, HZ⟩
            case measure => simp [intOf]; omega
        · have b3 : ((p : Int) == b) = false := by simpa using h3
          clear h3
          have HZ := Lib.hid (HY.out (by simp [pairB, b1, b3]))
          clear HX HY
          go_wp2_with fail
          go_roundw
          case rel => exact ⟨i + 1, by omega, by go_num, HMr.out, HBr.out, HZ⟩
          case measure => simp [intOf]; omega
    · obtain rfl : i = l.length := by omega
      have hr := Lib.hid (show false = OF from by
        rw [HOF.out]; symm; rw [List.any_eq_false]
        intro x hx
        obtain ⟨t, ht, rfl⟩ := List.getElem_of_mem hx
        rw [HJ.out t ht ht]; simp)
      clear HOF HJ
      go_wp2_with fail
      go_ret
      exact ⟨Bits.ret_bool hr.out, HMr.out⟩
end Go.Proofs.Ytgmenlfhkhdbdaa.Nt
end

section
/- NetPlays: the reference's rows of items; its Send. (Printed by mkRc2.py.) -/
namespace Go.Proofs.Ytgmenlfhkhdbdaa.Nt
open Go.RowKit Mem Nm Ra
open Ag (It)
set_option linter.unusedSimpArgs false
set_option linter.unusedVariables false
set_option maxRecDepth 100000

/-- An item of the reference's: when, its number, the message, the value of its entries. -/
structure Ri where
  at_ : Int
  id : Int
  m : Ms
  u : Value
def riC (x : Ri) : List Value := [.int .i64 x.at_, .int .i64 x.id] ++ msC x.m x.u
def rowsR (xs : List Ri) : List Value := xs.flatMap riC
theorem rowsR_snoc (xs : List Ri) (x : Ri) : rowsR (xs ++ [x]) = rowsR xs ++ riC x := by simp [rowsR]
abbrev tRI : TypeId := 170
abbrev tRE : TypeId := 142
abbrev tRM : TypeId := 88
abbrev t2I : TypeId := 40
abbrev TR (ty : TypeId) : Prop := ty = tRI ∨ ty = tRE ∨ ty = tRM ∨ ty = t2I
structure RIt (base : Nat) (W : World) (v : Value) (xs : List Ri) : Prop where
  own : W.ownsRow base tRI 15 v xs.length (rowsR xs)
  ens : ∀ x ∈ xs, W.ownsRow 0 tRE 4 x.u x.m.es.length (rowsE x.m.es)
/-- Blocks of the reference's items and entries that stay. -/
def KpR (a b : World) : Prop := ∀ k cs ty, Blk a k cs ty → TR ty → Blk b k cs ty
theorem notNet : ¬ TR 49 := by rintro (h | h | h | h) <;> revert h <;> decide
theorem KpR.mod {a b : World} (m : Mod a b []) : KpR a b := fun k cs ty h _ => h.mod m (by simp)
theorem RIt.kp {base : Nat} {a b : World} {v : Value} {xs : List Ri} (h : RIt base a v xs) (k : KpR a b) : RIt base b v xs :=
  ⟨own_kp h.own (fun j cs hb => k j cs _ hb (.inl rfl)), fun x hx => own_kp (h.ens x hx) (fun j cs hb => k j cs _ hb (.inr (.inl rfl)))⟩
theorem RIt.mod {base : Nat} {a b : World} {v : Value} {xs : List Ri} (h : RIt base a v xs) (m : Mod a b []) : RIt base b v xs := h.kp (KpR.mod m)
theorem KpR.set {w : World} {b : Nat} {cs : Array Value} {ty : TypeId} (hb : Blk w b cs ty) (hne : ¬ TR ty) (i : Nat) (v : Value) : KpR w (w.setCell ⟨b, i, none⟩ v) := fun k cs' ty' h ht => h.far (by
  rintro rfl
  have := blk_uni h hb
  subst this
  exact hne ht) v
theorem RIt.low {base base' : Nat} {W : World} {v : Value} {xs : List Ri} (h : RIt base W v xs) (hb : base' ≤ base) : RIt base' W v xs := ⟨own_low h.own hb, h.ens⟩
theorem RIt.nil (base : Nat) (W : World) : RIt base W (.slice none 0 0) [] := ⟨⟨rfl, .inl ⟨rfl, rfl⟩⟩, by simp⟩
theorem RIt.app {base : Nat} {A B : World} {v v' : Value} {xs : List Ri} {x : Ri} (h : RIt base A v xs) (hu : A.ownsRow 0 tRE 4 x.u x.m.es.length (rowsE x.m.es)) (hg : A.grownBy B v.ownBlock) (ho : B.ownsRow base tRI 15 v' (xs.length + 1) (rowsR xs ++ riC x)) : RIt base B v' (xs ++ [x]) := by
  have hk : ∀ j cs, Blk A j cs tRE → Blk B j cs tRE := fun j cs hb => Rw.blk_grown hb hg (fun e => by
    obtain ⟨cur, hc⟩ := own_ty h.own j e.symm
    exact absurd (blk_uni hb hc) (by decide))
  refine ⟨by rw [List.length_append, rowsR_snoc]; exact ho, fun y hy => ?_⟩
  rcases List.mem_append.1 hy with hy | hy
  · exact own_kp (h.ens y hy) hk
  · rw [List.mem_singleton] at hy; subst hy; exact own_kp hu hk
theorem RIt.cell {base : Nat} {W : World} {v : Value} {xs : List Ri} (h : RIt base W v xs) {k : Nat} (hk : k < xs.length) : ∃ gb cap, v = .slice (some ⟨gb, 0, none⟩) xs.length cap ∧ xs.length ≤ cap ∧ ∀ c, c < 15 → W.cell? ⟨gb, k * 15 + c, none⟩ = (riC xs[k])[c]? := by
  rcases Rw.own_cellN h.own with ⟨_, h2, _⟩ | ⟨g, cap, h1, _, h3, _, h5, h6⟩
  · omega
  · refine ⟨g, cap, h1, h3, fun c hc => ?_⟩
    have hr : rowsR xs = (xs.map riC).flatten := by unfold rowsR; rw [List.flatMap_def]
    have hlen : (rowsR xs).length = xs.length * 15 := h5
    rw [h6 (k * 15 + c) (by omega)]
    have := Rw.flat_get (n := 15) (xs.map riC) k c (by intro r hr; obtain ⟨x, _, rfl⟩ := List.mem_map.1 hr; rfl) (by simpa using hk) hc
    rw [← hr, List.getElem_map] at this
    rw [← this, List.getElem?_eq_getElem (by omega)]
theorem info_ri : (Try.prog.info? tRI).map (fun i => (i.zero, i.size, i.bytes)) = some (some (.agg #[.int .i64 0, .int .i64 0, .int .i64 0, .int .i64 0, .int .i64 0, .int .i64 0, .int .i64 0, .int .i64 0, .int .i64 0, .bool false, .slice none 0 0, .int .i64 0, .int .i64 0, .int .i64 0, .string ⟨#[]⟩]), 15, 144) := by kernel_rfl
abbrev rnV (vl : Value) (last : Int) (vc : Value) : Value := .agg #[vl, .int .i64 last, vc]
/-- What the reference's Send answers. -/
def RSendP (base : Nat) (vl vc : Value) (last : Int) (xs : List Ri) (cl : List (Int × Int)) (now : Int) (m : Ms) (u : Value) (delay : Int) (w : World) (e : Ending) (w' : World) : Prop :=
  Mod w w' [] ∧
  if (ixB now && (ixB delay && checkB m)) = true then
    if offL cl m.frm m.dst = true then e = .returned (.tuple #[rnV vl last vc, .int .i64 0, .int .i64 0])
    else if 4096 ≤ xs.length then e = .returned (.tuple #[rnV vl last vc, .int .i64 0, .int .i64 7])
    else ∃ vl', e = .returned (.tuple #[rnV vl' (last + 1) vc, .int .i64 (last + 1), .int .i64 0]) ∧ RIt base w' vl' (xs ++ [⟨now + delay, last + 1, m, u⟩])
  else e = .returned (.tuple #[rnV vl last vc, .int .i64 0, .int .i64 1])
set_option maxHeartbeats 32000000 in
theorem rsend_calls (base : Nat) (w : World) (vl vc : Value) (last : Int) (xs : List Ri) (cl : List (Int × Int)) (now : Int) (m : Ms) (u : Value) (delay : Int) (h : RIt base w vl xs) (hb : base ≤ w.heap.size) (hc : PairsV w vc cl) (hcn : cl.length ≤ 100000) (hxn : xs.length ≤ 100000) (hl : 0 ≤ last ∧ last ≤ 1000000) (hu : w.ownsRow 0 tRE 4 u m.es.length (rowsE m.es)) (hn : m.es.length ≤ 100000) :
    Calls Try.prog 42 #[rnV vl last vc, .int .i64 now, msV m u, .int .i64 delay] w (RSendP base vl vc last xs cl now m u delay w) := by
  obtain ⟨i0, hi0, hz0, hz1, hz2⟩ := info_parts info_ri
  have HP : Hid (∀ e w', (Mod w w' [] ∧
  if (ixB now && (ixB delay && checkB m)) = true then
    if offL cl m.frm m.dst = true then e = .returned (.tuple #[rnV vl last vc, .int .i64 0, .int .i64 0])
    else if 4096 ≤ xs.length then e = .returned (.tuple #[rnV vl last vc, .int .i64 0, .int .i64 7])
    else ∃ vl', e = .returned (.tuple #[rnV vl' (last + 1) vc, .int .i64 (last + 1), .int .i64 0]) ∧ RIt base w' vl' (xs ++ [⟨now + delay, last + 1, m, u⟩])
  else e = .returned (.tuple #[rnV vl last vc, .int .i64 0, .int .i64 1])) → RSendP base vl vc last xs cl now m u delay w e w') := Lib.hid (fun _ _ h => h)
  generalize RSendP base vl vc last xs cl now m u delay w = SP at *
  have HI := Lib.hid h
  have HU := Lib.hid hu
  have HV := Lib.hid (ensV_own2 hu)
  obtain ⟨la, lc, rfl⟩ := Rw.own_slice h.own
  obtain ⟨ad, cap, rfl⟩ := Rw.own_slice hu
  have HPV := Lib.hid hc
  obtain ⟨ca, cc, rfl, _, _⟩ := hc
  have T1 := Lib.hid (fun w => rtime_calls now w)
  have T2 := Lib.hid (fun w => rtime_calls delay w)
  obtain ⟨kind, frm, dst, term, index, lt, commit, yes, es, si, st, sm, sx⟩ := m
  simp only at hn HV HP HU
  clear h hu
  show Calls _ _ #[.agg #[.slice la xs.length lc, .int .i64 last, .slice ca cl.length cc], _, .agg #[.int .i64 kind, .int .i64 frm, .int .i64 dst, .int .i64 term, .int .i64 index, .int .i64 lt, .int .i64 commit, .bool yes, .slice ad es.length cap, .int .i64 si, .int .i64 st, .int .i64 sm, .string sx], _] _ _
  have HMM := Lib.hid ((((Mod.refl w []).alloc (.cells #[.slice la xs.length lc, .int .i64 last, .slice ca cl.length cc] 49)).alloc (.cells #[.int .i64 kind, .int .i64 frm, .int .i64 dst, .int .i64 term, .int .i64 index, .int .i64 lt, .int .i64 commit, .bool yes, .slice ad es.length cap, .int .i64 si, .int .i64 st, .int .i64 sm, .string sx] 88)).alloc (.cells #[.slice none 0 0, .int .i64 0, .slice none 0 0] 49))
  have HB := Lib.hid (((Blk.new w #[.slice la xs.length lc, .int .i64 last, .slice ca cl.length cc] 49).alloc (.cells #[.int .i64 kind, .int .i64 frm, .int .i64 dst, .int .i64 term, .int .i64 index, .int .i64 lt, .int .i64 commit, .bool yes, .slice ad es.length cap, .int .i64 si, .int .i64 st, .int .i64 sm, .string sx] 88)).alloc (.cells #[.slice none 0 0, .int .i64 0, .slice none 0 0] 49))
  have hc0 := (Blk.new (w.alloc (.cells #[.slice la xs.length lc, .int .i64 last, .slice ca cl.length cc] 49)) #[.int .i64 kind, .int .i64 frm, .int .i64 dst, .int .i64 term, .int .i64 index, .int .i64 lt, .int .i64 commit, .bool yes, .slice ad es.length cap, .int .i64 si, .int .i64 st, .int .i64 sm, .string sx] 88).alloc (.cells #[.slice none 0 0, .int .i64 0, .slice none 0 0] 49)
  have hr0 := Blk.new ((w.alloc (.cells #[.slice la xs.length lc, .int .i64 last, .slice ca cl.length cc] 49)).alloc (.cells #[.int .i64 kind, .int .i64 frm, .int .i64 dst, .int .i64 term, .int .i64 index, .int .i64 lt, .int .i64 commit, .bool yes, .slice ad es.length cap, .int .i64 si, .int .i64 st, .int .i64 sm, .string sx] 88)) #[.slice none 0 0, .int .i64 0, .slice none 0 0] 49
  simp only [World.size_alloc] at hc0 hr0
  have HC := Lib.hid hc0
  have HR := Lib.hid hr0
  clear hc0 hr0
  go_enter Try.func42, Try.ntmps42
  go_upto_region 1 with (fail)
  generalize ((w.alloc _).alloc _).alloc _ = w3 at *
  have HM := HMM
  have CC := Lib.hid (rcheck_calls ⟨kind, frm, dst, term, index, lt, commit, yes, es, si, st, sm, sx⟩ (.slice ad es.length cap) w3 (HV.out.mod HM.out) hn)
  generalize hcb : checkB ⟨kind, frm, dst, term, index, lt, commit, yes, es, si, st, sm, sx⟩ = CB at *
  have HOK : Hid (CB = true → (0 ≤ frm ∧ frm ≤ 6) ∧ (0 ≤ dst ∧ dst ≤ 6)) := Lib.hid (fun h => by rw [← hcb] at h; exact ⟨(checkB_ok h).frm, (checkB_ok h).dst⟩)
  replace CC : Hid (Calls Try.prog 33 #[.agg #[.int .i64 kind, .int .i64 frm, .int .i64 dst, .int .i64 term, .int .i64 index, .int .i64 lt, .int .i64 commit, .bool yes, .slice ad es.length cap, .int .i64 si, .int .i64 st, .int .i64 sm, .string sx]] w3 fun e w' => e = .returned (.bool CB) ∧ Mod w3 w' []) := CC
  clear hcb
  have q0 := HC.out.cell 0
  have q1 := HC.out.cell 1
  have q2 := HC.out.cell 2
  have q3 := HC.out.cell 3
  have q4 := HC.out.cell 4
  have q5 := HC.out.cell 5
  have q6 := HC.out.cell 6
  have q7' := HC.out.cell 7
  have q8 := HC.out.cell 8
  have q9 := HC.out.cell 9
  have q10 := HC.out.cell 10
  have q11 := HC.out.cell 11
  have q12 := HC.out.cell 12
  by_cases h1 : ixB now = true
  · rw [h1] at T1
    by_cases h2 : ixB delay = true
    · rw [h2] at T2
      cases CB
      · go_wp2_with fail
        (with_reducible refine (T1.out _).mono ?_)
        rintro e w1 ⟨rfl, rfl⟩
        go_wp2_with fail
        (with_reducible refine (T2.out _).mono ?_)
        rintro e w1 ⟨rfl, rfl⟩
        go_wp2_with fail
        (with_reducible refine (CC.out).mono ?_)
        rintro e w4 ⟨rfl, hm4⟩
        have HM4 := Lib.hid (HM.out.trans0 hm4)
        have HB4 := Lib.hid (HB.out.mod hm4 (by simp))
        have HC4 := Lib.hid (HC.out.mod hm4 (by simp))
        have HR4 := Lib.hid (HR.out.mod hm4 (by simp))
        have HI4 := Lib.hid (HI.out.mod (HMM.out.trans0 hm4))
        clear hm4 CC
        have r0 := HR4.out.cell 0
        have r1 := HR4.out.cell 1
        have r2 := HR4.out.cell 2
        have g0 := HR4.out.free 0
        have g1 := HR4.out.free 1
        have g2 := HR4.out.free 2
        have n0 := HB4.out.cell 0
        have n1 := HB4.out.cell 1
        have n2 := HB4.out.cell 2
        have hb2 : w.heap.size ≤ w.heap.size + 1 + 1 := by omega
        go_wp2_with fail
        refine bodyPost_ret (v := .tuple #[.agg #[.slice la xs.length lc, .int .i64 last, .slice ca cl.length cc], .int .i64 0, .int .i64 1]) (by simp [results, Try.results42, go_sem, r0, r1, r2]) rfl ?_
        refine HP.out _ _ ⟨((HM4.out.setCell (.inr hb2) _).setCell (.inr hb2) _).setCell (.inr hb2) _, ?_⟩
        rw [if_neg (by simp)]
      · go_wp2_with fail
        (with_reducible refine (T1.out _).mono ?_)
        rintro e w1 ⟨rfl, rfl⟩
        go_wp2_with fail
        (with_reducible refine (T2.out _).mono ?_)
        rintro e w1 ⟨rfl, rfl⟩
        go_wp2_with fail
        (with_reducible refine (CC.out).mono ?_)
        rintro e w4 ⟨rfl, hm4⟩
        have HM4 := Lib.hid (HM.out.trans0 hm4)
        have HB4 := Lib.hid (HB.out.mod hm4 (by simp))
        have HC4 := Lib.hid (HC.out.mod hm4 (by simp))
        have HR4 := Lib.hid (HR.out.mod hm4 (by simp))
        have HI4 := Lib.hid (HI.out.mod (HMM.out.trans0 hm4))
        clear hm4 CC
        clear q0 q1 q2 q3 q4 q5 q6 q7' q8 q9 q10 q11 q12
        have n0 := HB4.out.cell 0
        have n1 := HB4.out.cell 1
        have n2 := HB4.out.cell 2
        have m1 := HC4.out.cell 1
        have m2 := HC4.out.cell 2
        have OC := Lib.hid (off_calls la xs.length lc last (.slice ca cl.length cc) cl frm dst w4 (HPV.out.mod HM4.out) hcn)
        generalize hoff : offL cl frm dst = OF at *
        go_wp2_with fail
        (with_reducible refine (OC.out).mono ?_)
        rintro e w5 ⟨rfl, hm5⟩
        have HM5 := Lib.hid (HM4.out.trans0 hm5)
        have HB5 := Lib.hid (HB4.out.mod hm5 (by simp))
        have HC5 := Lib.hid (HC4.out.mod hm5 (by simp))
        have HR5 := Lib.hid (HR4.out.mod hm5 (by simp))
        have HI5 := Lib.hid (HI4.out.mod hm5)
        clear hm5 OC n0 n1 n2 m1 m2 HB4 HC4 HR4 HI4
        cases OF
        · have r0 := HB5.out.cell 0
          have n1 := HB5.out.cell 1
          have n2 := HB5.out.cell 2
          by_cases hfull : 4096 ≤ xs.length
          · have hfull' : (4096 : Int) ≤ xs.length := by omega
            clear r0 n1 n2
            have r0 := HR5.out.cell 0
            have r1 := HR5.out.cell 1
            have r2 := HR5.out.cell 2
            have g0 := HR5.out.free 0
            have g1 := HR5.out.free 1
            have g2 := HR5.out.free 2
            have n0 := HB5.out.cell 0
            have n1 := HB5.out.cell 1
            have n2 := HB5.out.cell 2
            have hb2 : w.heap.size ≤ w.heap.size + 1 + 1 := by omega
            go_wp2_with fail
            refine bodyPost_ret (v := .tuple #[.agg #[.slice la xs.length lc, .int .i64 last, .slice ca cl.length cc], .int .i64 0, .int .i64 7]) (by simp [results, Try.results42, go_sem, r0, r1, r2]) rfl ?_
            refine HP.out _ _ ⟨((HM5.out.setCell (.inr hb2) _).setCell (.inr hb2) _).setCell (.inr hb2) _, ?_⟩
            rw [if_pos (by simp [h1, h2])]; rw [if_neg (by simp)]; rw [if_pos hfull]
          · have hfull' : ¬ (4096 : Int) ≤ xs.length := by omega
            go_upto_region 8 with (fail)
            go_wp2_with fail
            clear r0 n1 n2
            go_loopw [11, 12] (fun vo vi wr => ∃ i : Nat, vi = .int .i64 (i : Int) ∧ i ≤ xs.length ∧ Mod w5 wr [] ∧ RIt w5.heap.size wr vo (xs.take i)) (fun _ vi _ => xs.length + 1 - (intOf vi).toNat)
            case atStart => exact ⟨0, rfl, Nat.zero_le _, Mod.refl _ _, RIt.nil _ _⟩
            case round =>
              obtain ⟨i, rfl, hi, hm, ho⟩ := hrel
              have HM := Lib.hid hm
              have HO := Lib.hid ho
              have n0 := (HB5.out.mod hm (by simp)).cell 0
              have HIr := Lib.hid (HI5.out.mod hm)
              have hbr := hm.size
              clear hm ho
              by_cases hlt : i < xs.length
              · have hlt' : (i : Int) < xs.length := by omega
                have HTK : Hid (xs.take (i + 1) = xs.take i ++ [xs[i]'hlt]) := Lib.hid (by rw [List.take_add_one, List.getElem?_eq_getElem hlt]; rfl)
                have HOi : Hid (wr.ownsRow w5.heap.size tRI 15 u11 i (rowsR (xs.take i))) := Lib.hid (by have h := HO.out.own; rw [List.length_take, Nat.min_eq_left hi] at h; exact h)
                obtain ⟨gb, gcp, hv, hge, hcs⟩ := HIr.out.cell hlt
                injection hv with hv1 hv2 hv3
                subst hv1 hv3
                clear hv2
                have e0 := hcs 0 (by decide)
                have e1 := hcs 1 (by decide)
                have e2 := hcs 2 (by decide)
                have e3 := hcs 3 (by decide)
                have e4 := hcs 4 (by decide)
                have e5 := hcs 5 (by decide)
                have e6 := hcs 6 (by decide)
                have e7 := hcs 7 (by decide)
                have e8 := hcs 8 (by decide)
                have e9 := hcs 9 (by decide)
                have e10 := hcs 10 (by decide)
                have e11 := hcs 11 (by decide)
                have e12 := hcs 12 (by decide)
                have e13 := hcs 13 (by decide)
                have e14 := hcs 14 (by decide)
                have HEU := Lib.hid (HIr.out.ens _ (List.getElem_mem hlt))
                clear hcs
                generalize xs[i]'hlt = x at *
                obtain ⟨x0, x1, ⟨kk, kf, kd, kt, ki, kl, kc0, ky, ks, ksi, kst, ksm, ksx⟩, xu⟩ := x
                rw [Nat.add_zero] at e0
                simp only [riC, msC] at e0 e1 e2 e3 e4 e5 e6 e7 e8 e9 e10 e11 e12 e13 e14
                simp only [List.cons_append, List.nil_append, List.getElem?_cons_zero, List.getElem?_cons_succ] at e0 e1 e2 e3 e4 e5 e6 e7 e8 e9 e10 e11 e12 e13 e14
                simp only at HEU
                obtain ⟨ea, ec, rfl⟩ := Rw.own_slice HEU.out
                have HAP : Hid (∀ B gg gcap, (wr.alloc (.cells #[.int .i64 x0, .int .i64 x1, .int .i64 kk, .int .i64 kf, .int .i64 kd, .int .i64 kt, .int .i64 ki, .int .i64 kl, .int .i64 kc0, .bool ky, .slice ea ks.length ec, .int .i64 ksi, .int .i64 kst, .int .i64 ksm, .string ksx] tRI)).grownBy B u11.ownBlock → B.ownsRow w5.heap.size tRI 15 (.slice (some ⟨gg, 0, none⟩) (i + 1) gcap) (i + 1) (rowsR (xs.take i) ++ [.int .i64 x0, .int .i64 x1, .int .i64 kk, .int .i64 kf, .int .i64 kd, .int .i64 kt, .int .i64 ki, .int .i64 kl, .int .i64 kc0, .bool ky, .slice ea ks.length ec, .int .i64 ksi, .int .i64 kst, .int .i64 ksm, .string ksx]) → RIt w5.heap.size B (.slice (some ⟨gg, 0, none⟩) (i + 1) gcap) (xs.take (i + 1))) := Lib.hid (fun B gg gcap h1 h2 => by
                  rw [HTK.out]
                  exact (HO.out.mod ((Mod.refl wr []).alloc _)).app (x := ⟨x0, x1, ⟨kk, kf, kd, kt, ki, kl, kc0, ky, ks, ksi, kst, ksm, ksx⟩, .slice ea ks.length ec⟩) (own_mod HEU.out ((Mod.refl wr []).alloc _) (by simp)) h1 (by rw [List.length_take, Nat.min_eq_left hi]; exact h2))
                have HOa := Lib.hid (HOi.out.alloc (.cells #[.int .i64 x0, .int .i64 x1, .int .i64 kk, .int .i64 kf, .int .i64 kd, .int .i64 kt, .int .i64 ki, .int .i64 kl, .int .i64 kc0, .bool ky, .slice ea ks.length ec, .int .i64 ksi, .int .i64 kst, .int .i64 ksm, .string ksx] tRI))
                have HMa := Lib.hid (HM.out.alloc (.cells #[.int .i64 x0, .int .i64 x1, .int .i64 kk, .int .i64 kf, .int .i64 kd, .int .i64 kt, .int .i64 ki, .int .i64 kl, .int .i64 kc0, .bool ky, .slice ea ks.length ec, .int .i64 ksi, .int .i64 kst, .int .i64 ksm, .string ksx] tRI))
                clear HEU HTK HO
                go_wp2_with (at_builtin; refine wpList_append_lies _ rfl _ _ 47 rfl w5.heap.size tRI i0 _ 15 144 Try.underlying47 hi0 hz0 hz1 hz2 rfl (by decide) u11 i (rowsR (xs.take i)) rfl HOa.out ⟨wr.heap.size, 0, none⟩ 1 1 [.int .i64 x0, .int .i64 x1, .int .i64 kk, .int .i64 kf, .int .i64 kd, .int .i64 kt, .int .i64 ki, .int .i64 kl, .int .i64 kc0, .bool ky, .slice ea ks.length ec, .int .i64 ksi, .int .i64 kst, .int .i64 ksm, .string ksx] rfl rfl (World.news_of_block (cs := #[.int .i64 x0, .int .i64 x1, .int .i64 kk, .int .i64 kf, .int .i64 kd, .int .i64 kt, .int .i64 ki, .int .i64 kl, .int .i64 kc0, .bool ky, .slice ea ks.length ec, .int .i64 ksi, .int .i64 kst, .int .i64 ksm, .string ksx]) (t := tRI) (fr := (0, 0)) (heap_alloc_new wr _)) (by simp [Value.oneCell']) (by omega) (by unfold maxLen; omega) (by omega) (by simp; omega) (wr.heap.size + 1) (by simp) ?_; intro gg gcap w55 hown5 hgrow hat hlt5; have HO55 := Lib.hid (HAP.out w55 gg gcap hgrow hown5); have HM55 := Lib.hid (HMa.out.grown hgrow (fun k hk => .inr (own_ge HOa.out k hk))); clear hown5 hgrow hat hlt5)
                exact ⟨⟨i + 1, rfl, by omega, HM55.out, HO55.out⟩, by simp only [intOf]; omega⟩
              · obtain rfl : i = xs.length := by omega
                rw [List.take_length] at HO
                have HOe := HO
                clear hlt HO HIr
                have HBr := Lib.hid (HB5.out.mod HM.out (by simp))
                have HCr := Lib.hid (HC5.out.mod HM.out (by simp))
                have HRr := Lib.hid (HR5.out.mod HM.out (by simp))
                have n1 := HBr.out.cell 1
                have n2 := HBr.out.cell 2
                have f0 := HBr.out.free 0
                have f1 := HBr.out.free 1
                obtain ⟨hn0, hn1⟩ := inB_t.1 h1
                obtain ⟨hd0, hd1⟩ := inB_t.1 h2
                go_upto_region 13 with (fail)
                clear n0 n1 n2 f0 f1
                have HBs := Lib.hid (HBr.out.set 1 (.int .i64 (last + 1)))
                have HKs := Lib.hid (KpR.set HBr.out notNet 1 (.int .i64 (last + 1)))
                have hbs : w.heap.size ≤ w.heap.size := Nat.le_refl _
                have HMs := Lib.hid ((HM5.out.trans0 HM.out).setCell (p := ⟨w.heap.size, 1, none⟩) (.inr hbs) (.int .i64 (last + 1)))
                have HCs := Lib.hid (HCr.out.far (p := ⟨w.heap.size, 1, none⟩) (by simp) (.int .i64 (last + 1)))
                have HRs := Lib.hid (HRr.out.far (p := ⟨w.heap.size, 1, none⟩) (by show ¬ (w.heap.size + 1 + 1 = w.heap.size); omega) (.int .i64 (last + 1)))
                have HOs := Lib.hid (HOe.out.kp HKs.out)
                have HUs := Lib.hid (own_kp (own_mod HU.out (HM5.out.trans0 HM.out) (by simp)) (fun j cs hb => HKs.out j cs _ hb (.inr (.inl rfl))))
                have hz5 : w5.heap.size ≤ (wr.setCell ⟨w.heap.size, 1, none⟩ (.int .i64 (last + 1))).heap.size := by rw [World.size_setCell]; exact hbr
                simp only [List.setIfInBounds_toArray, List.set_cons_zero, List.set_cons_succ] at HBs
                generalize World.setCell wr _ _ = ws at *
                clear HBr HCr HRr HKs HOe
                have n1 := HBs.out.cell 1
                have q0 := HCs.out.cell 0
                have q1 := HCs.out.cell 1
                have q2 := HCs.out.cell 2
                have q3 := HCs.out.cell 3
                have q4 := HCs.out.cell 4
                have q5 := HCs.out.cell 5
                have q6 := HCs.out.cell 6
                have q7' := HCs.out.cell 7
                have q8 := HCs.out.cell 8
                have q9 := HCs.out.cell 9
                have q10 := HCs.out.cell 10
                have q11 := HCs.out.cell 11
                have q12 := HCs.out.cell 12
                have HAP : Hid (∀ B gg gcap, (ws.alloc (.cells #[.int .i64 (now + delay), .int .i64 (last + 1), .int .i64 kind, .int .i64 frm, .int .i64 dst, .int .i64 term, .int .i64 index, .int .i64 lt, .int .i64 commit, .bool yes, .slice ad es.length cap, .int .i64 si, .int .i64 st, .int .i64 sm, .string sx] tRI)).grownBy B u11.ownBlock → B.ownsRow w5.heap.size tRI 15 (.slice (some ⟨gg, 0, none⟩) (xs.length + 1) gcap) (xs.length + 1) (rowsR xs ++ [.int .i64 (now + delay), .int .i64 (last + 1), .int .i64 kind, .int .i64 frm, .int .i64 dst, .int .i64 term, .int .i64 index, .int .i64 lt, .int .i64 commit, .bool yes, .slice ad es.length cap, .int .i64 si, .int .i64 st, .int .i64 sm, .string sx]) → RIt w5.heap.size B (.slice (some ⟨gg, 0, none⟩) (xs.length + 1) gcap) (xs ++ [⟨now + delay, last + 1, ⟨kind, frm, dst, term, index, lt, commit, yes, es, si, st, sm, sx⟩, .slice ad es.length cap⟩])) := Lib.hid (fun B gg gcap h1 h2 => by
                  exact (HOs.out.mod ((Mod.refl ws []).alloc _)).app (x := ⟨now + delay, last + 1, ⟨kind, frm, dst, term, index, lt, commit, yes, es, si, st, sm, sx⟩, .slice ad es.length cap⟩) (own_mod HUs.out ((Mod.refl ws []).alloc _) (by simp)) h1 h2)
                have HOa := Lib.hid (HOs.out.own.alloc (.cells #[.int .i64 (now + delay), .int .i64 (last + 1), .int .i64 kind, .int .i64 frm, .int .i64 dst, .int .i64 term, .int .i64 index, .int .i64 lt, .int .i64 commit, .bool yes, .slice ad es.length cap, .int .i64 si, .int .i64 st, .int .i64 sm, .string sx] tRI))
                have HBa := Lib.hid (HBs.out.alloc (.cells #[.int .i64 (now + delay), .int .i64 (last + 1), .int .i64 kind, .int .i64 frm, .int .i64 dst, .int .i64 term, .int .i64 index, .int .i64 lt, .int .i64 commit, .bool yes, .slice ad es.length cap, .int .i64 si, .int .i64 st, .int .i64 sm, .string sx] tRI))
                have HRa := Lib.hid (HRs.out.alloc (.cells #[.int .i64 (now + delay), .int .i64 (last + 1), .int .i64 kind, .int .i64 frm, .int .i64 dst, .int .i64 term, .int .i64 index, .int .i64 lt, .int .i64 commit, .bool yes, .slice ad es.length cap, .int .i64 si, .int .i64 st, .int .i64 sm, .string sx] tRI))
                have HMa := Lib.hid (HMs.out.alloc (.cells #[.int .i64 (now + delay), .int .i64 (last + 1), .int .i64 kind, .int .i64 frm, .int .i64 dst, .int .i64 term, .int .i64 index, .int .i64 lt, .int .i64 commit, .bool yes, .slice ad es.length cap, .int .i64 si, .int .i64 st, .int .i64 sm, .string sx] tRI))
                have hsz5 : w.heap.size ≤ w5.heap.size := HM5.out.size
                have HNE : Hid (∀ k, u11.ownBlock = some k → k ≠ w.heap.size ∧ k ≠ w.heap.size + 1 + 1 ∧ w.heap.size ≤ k) := Lib.hid (fun k hk => by
                  have h1 := own_ge HOs.out.own k hk
                  obtain ⟨cur, hc⟩ := own_ty HOs.out.own k hk
                  exact ⟨fun e => by subst e; exact absurd (blk_uni hc HBs.out) (by decide), fun e => by subst e; exact absurd (blk_uni hc HRs.out) (by decide), by omega⟩)
                go_upto_region 13 with (fail)
                go_upto_region 14 with (at_builtin; refine wpList_append_lies _ rfl _ _ 47 rfl w5.heap.size tRI i0 _ 15 144 Try.underlying47 hi0 hz0 hz1 hz2 rfl (by decide) u11 xs.length (rowsR xs) rfl HOa.out ⟨ws.heap.size, 0, none⟩ 1 1 [.int .i64 (now + delay), .int .i64 (last + 1), .int .i64 kind, .int .i64 frm, .int .i64 dst, .int .i64 term, .int .i64 index, .int .i64 lt, .int .i64 commit, .bool yes, .slice ad es.length cap, .int .i64 si, .int .i64 st, .int .i64 sm, .string sx] rfl rfl (World.news_of_block (cs := #[.int .i64 (now + delay), .int .i64 (last + 1), .int .i64 kind, .int .i64 frm, .int .i64 dst, .int .i64 term, .int .i64 index, .int .i64 lt, .int .i64 commit, .bool yes, .slice ad es.length cap, .int .i64 si, .int .i64 st, .int .i64 sm, .string sx]) (t := tRI) (fr := (0, 0)) (heap_alloc_new ws _)) (by simp [Value.oneCell']) (by omega) (by unfold maxLen; omega) (by omega) (by simp; omega) (ws.heap.size + 1) (by simp) ?_; intro gg gcap w56 hown5 hgrow hat hlt5; have HO56 := Lib.hid (HAP.out w56 gg gcap hgrow hown5); have HM56 := Lib.hid (HMa.out.grown hgrow (fun k hk => .inr ((HNE.out k hk).2.2))); have HB56 := Lib.hid (Rw.blk_grown HBa.out hgrow (fun e => (HNE.out _ e.symm).1 rfl)); have HR56 := Lib.hid (Rw.blk_grown HRa.out hgrow (fun e => (HNE.out _ e.symm).2.1 rfl)); clear hown5 hgrow hat hlt5)
                have f0 := HB56.out.free 0
                have m0 := HB56.out.cell 0
                clear n1 q0 q1 q2 q3 q4 q5 q6 q7' q8 q9 q10 q11 q12
                go_upto_region 15 with (fail)
                generalize hvl : Value.slice (some ⟨gg, 0, none⟩) (xs.length + 1) gcap = vl'' at *
                have HBt := Lib.hid (HB56.out.set 0 vl'')
                have HKt := Lib.hid (KpR.set HB56.out notNet 0 vl'')
                have HMt := Lib.hid (HM56.out.setCell (p := ⟨w.heap.size, 0, none⟩) (.inr hbs) vl'')
                have HRt := Lib.hid (HR56.out.far (p := ⟨w.heap.size, 0, none⟩) (by show ¬ (w.heap.size + 1 + 1 = w.heap.size); omega) vl'')
                have HOt := Lib.hid (HO56.out.kp HKt.out)
                simp only [List.setIfInBounds_toArray, List.set_cons_zero, List.set_cons_succ] at HBt
                have HVS : Hid (∃ a c, vl'' = .slice a (xs.length + 1) c) := Lib.hid ⟨_, _, hvl.symm⟩
                clear hvl
                obtain ⟨va, vc', rfl⟩ := HVS.out
                generalize World.setCell w56 _ _ = wt at *
                clear HB56 HKt HM56 HR56 HO56 f0 m0
                refine He.wp_region_e 5 (fun w' => w'.cell? ⟨w.heap.size, 0, none⟩ = some (.slice va (xs.length + 1) vc') ∧ w'.cell? ⟨w.heap.size, 1, none⟩ = some (.int .i64 (last + 1)) ∧ w'.cell? ⟨w.heap.size, 2, none⟩ = some (.slice ca cl.length cc)) (by kernel_rfl) ⟨HBt.out.cell 0, HBt.out.cell 1, HBt.out.cell 2⟩ (fun S0 => ?_)
                have HRd := Lib.hid HRt.out.drew
                have HBd := Lib.hid HBt.out.drew
                have HMd := Lib.hid HMt.out.drew
                have HOd := Lib.hid (HOt.out.mod ((Mod.refl wt []).drew))
                clear HRt HBt HMt HOt
                generalize wt.drew = wd at *
                refine He.wpE_take (i := 0) (v := ?_) rfl (by kernel_rfl) (by kernel_rfl) (by kernel_rfl) (by kernel_rfl) (by kernel_rfl) (fun _ _ _ h => h) (by rfl) ?_ (by assumption) ?_
                rotate_left
                · (intro w' hSw; (try dsimp only at hSw); go_simp; first | done | with_reducible rfl)
                try simp only [List.getElem_toArray, List.getElem_cons_succ, List.getElem_cons_zero, Act.put, List.setIfInBounds_toArray, List.set_cons_zero, List.set_cons_succ]
                refine He.wpE_take (i := 1) (v := ?_) rfl (by kernel_rfl) (by kernel_rfl) (by kernel_rfl) (by kernel_rfl) (by kernel_rfl) (fun _ _ _ h => h) (by rfl) ?_ (by assumption) ?_
                rotate_left
                · (intro w' hSw; (try dsimp only at hSw); go_simp; first | done | with_reducible rfl)
                try simp only [List.getElem_toArray, List.getElem_cons_succ, List.getElem_cons_zero, Act.put, List.setIfInBounds_toArray, List.set_cons_zero, List.set_cons_succ]
                refine He.wpE_take (i := 2) (v := ?_) rfl (by kernel_rfl) (by kernel_rfl) (by kernel_rfl) (by kernel_rfl) (by kernel_rfl) (fun _ _ _ h => h) (by rfl) ?_ (by assumption) ?_
                rotate_left
                · (intro w' hSw; (try dsimp only at hSw); go_simp; first | done | with_reducible rfl)
                try simp only [List.getElem_toArray, List.getElem_cons_succ, List.getElem_cons_zero, Act.put, List.setIfInBounds_toArray, List.set_cons_zero, List.set_cons_succ]
                refine He.wpE_one (i := 3) (by kernel_rfl) rfl (by rfl) (fun K hK => ?_)
                have z0 := HRd.out.cell 0
                have z1 := HRd.out.cell 1
                have z2 := HRd.out.cell 2
                have fz0 := HRd.out.free 0
                have fz1 := HRd.out.free 1
                have fz2 := HRd.out.free 2
                go_simp
                have hb2 : w.heap.size ≤ w.heap.size + 1 + 1 := by omega
                have HRe := Lib.hid (((HRd.out.set 0 (.slice va (xs.length + 1) vc')).set 1 (.int .i64 (last + 1))).set 2 (.slice ca cl.length cc))
                have HBe := Lib.hid (((HBd.out.far (p := ⟨w.heap.size + 1 + 1, 0, none⟩) (by show ¬ (w.heap.size = w.heap.size + 1 + 1); omega) (.slice va (xs.length + 1) vc')).far (p := ⟨w.heap.size + 1 + 1, 1, none⟩) (by show ¬ (w.heap.size = w.heap.size + 1 + 1); omega) (.int .i64 (last + 1))).far (p := ⟨w.heap.size + 1 + 1, 2, none⟩) (by show ¬ (w.heap.size = w.heap.size + 1 + 1); omega) (.slice ca cl.length cc))
                have HMe := Lib.hid (((HMd.out.setCell (p := ⟨w.heap.size + 1 + 1, 0, none⟩) (.inr hb2) (.slice va (xs.length + 1) vc')).setCell (p := ⟨w.heap.size + 1 + 1, 1, none⟩) (.inr hb2) (.int .i64 (last + 1))).setCell (p := ⟨w.heap.size + 1 + 1, 2, none⟩) (.inr hb2) (.slice ca cl.length cc))
                have HOe := Lib.hid (((HOd.out.kp (KpR.set HRd.out notNet 0 (.slice va (xs.length + 1) vc'))).kp (KpR.set (HRd.out.set 0 (.slice va (xs.length + 1) vc')) notNet 1 (.int .i64 (last + 1)))).kp (KpR.set ((HRd.out.set 0 (.slice va (xs.length + 1) vc')).set 1 (.int .i64 (last + 1))) notNet 2 (.slice ca cl.length cc)))
                simp only [List.setIfInBounds_toArray, List.set_cons_zero, List.set_cons_succ] at HRe
                refine hK.out _ _ (fun _ => ⟨HBe.out.cell 0, HBe.out.cell 1, HBe.out.cell 2⟩) ?_
                clear hK K S0 z0 z1 z2 fz0 fz1 fz2 HRd HBd HMd HOd
                try simp only [Act.put, List.setIfInBounds_toArray, List.set_cons_zero, List.set_cons_succ]
                generalize World.setCell _ ⟨w.heap.size + 1 + 1, 2, none⟩ _ = we at *
                refine He.wpE_one (i := 4) (by kernel_rfl) rfl (by rfl) (fun K hK => ?_)
                go_simp
                refine hK.out _ _ (fun _ => ⟨HBe.out.cell 0, HBe.out.cell 1, HBe.out.cell 2⟩) ?_
                clear hK K
                try simp only [Act.put, List.setIfInBounds_toArray, List.set_cons_zero, List.set_cons_succ]
                refine He.wpE_one (i := 5) (by kernel_rfl) rfl (by rfl) (fun K hK => ?_)
                go_simp
                refine hK.out _ _ (fun h => absurd rfl h) ?_
                clear hK K
                refine He.wpE_done (by kernel_rfl) ?_
                try simp only [Act.put, List.setIfInBounds_toArray, List.set_cons_zero, List.set_cons_succ]
                have r0 := HRe.out.cell 0
                have r1 := HRe.out.cell 1
                have r2 := HRe.out.cell 2
                go_wp2_with fail
                refine bodyPost_ret (v := .tuple #[.agg #[.slice va (xs.length + 1) vc', .int .i64 (last + 1), .slice ca cl.length cc], .int .i64 (last + 1), .int .i64 0]) (by simp [results, Try.results42, go_sem, r0, r1, r2]) rfl ?_
                refine HP.out _ _ ⟨HMe.out, ?_⟩
                rw [if_pos (by simp [h1, h2])]; rw [if_neg (by simp)]; rw [if_neg hfull]
                exact ⟨_, rfl, HOe.out.low (Nat.le_trans hb hsz5)⟩
        · have r0 := HR5.out.cell 0
          have r1 := HR5.out.cell 1
          have r2 := HR5.out.cell 2
          have g0 := HR5.out.free 0
          have g1 := HR5.out.free 1
          have g2 := HR5.out.free 2
          have n0 := HB5.out.cell 0
          have n1 := HB5.out.cell 1
          have n2 := HB5.out.cell 2
          have hb2 : w.heap.size ≤ w.heap.size + 1 + 1 := by omega
          go_wp2_with fail
          refine bodyPost_ret (v := .tuple #[.agg #[.slice la xs.length lc, .int .i64 last, .slice ca cl.length cc], .int .i64 0, .int .i64 0]) (by simp [results, Try.results42, go_sem, r0, r1, r2]) rfl ?_
          refine HP.out _ _ ⟨((HM5.out.setCell (.inr hb2) _).setCell (.inr hb2) _).setCell (.inr hb2) _, ?_⟩
          rw [if_pos (by simp [h1, h2])]; first | rw [if_pos rfl] | rw [if_pos trivial] | simp only [if_true]
    · have h2' : ixB delay = false := by simpa using h2
      rw [h2'] at T2
      go_wp2_with fail
      (with_reducible refine (T1.out _).mono ?_)
      rintro e w1 ⟨rfl, rfl⟩
      go_wp2_with fail
      (with_reducible refine (T2.out _).mono ?_)
      rintro e w1 ⟨rfl, rfl⟩
      have r0 := HR.out.cell 0
      have r1 := HR.out.cell 1
      have r2 := HR.out.cell 2
      have g0 := HR.out.free 0
      have g1 := HR.out.free 1
      have g2 := HR.out.free 2
      have n0 := HB.out.cell 0
      have n1 := HB.out.cell 1
      have n2 := HB.out.cell 2
      have hb2 : w.heap.size ≤ w.heap.size + 1 + 1 := by omega
      go_wp2_with fail
      refine bodyPost_ret (v := .tuple #[.agg #[.slice la xs.length lc, .int .i64 last, .slice ca cl.length cc], .int .i64 0, .int .i64 1]) (by simp [results, Try.results42, go_sem, r0, r1, r2]) rfl ?_
      refine HP.out _ _ ⟨((HM.out.setCell (.inr hb2) _).setCell (.inr hb2) _).setCell (.inr hb2) _, ?_⟩
      rw [if_neg (by simp [h2'])]
  · have h1' : ixB now = false := by simpa using h1
    rw [h1'] at T1
    go_wp2_with fail
    (with_reducible refine (T1.out _).mono ?_)
    rintro e w1 ⟨rfl, rfl⟩
    have r0 := HR.out.cell 0
    have r1 := HR.out.cell 1
    have r2 := HR.out.cell 2
    have g0 := HR.out.free 0
    have g1 := HR.out.free 1
    have g2 := HR.out.free 2
    have n0 := HB.out.cell 0
    have n1 := HB.out.cell 1
    have n2 := HB.out.cell 2
    have hb2 : w.heap.size ≤ w.heap.size + 1 + 1 := by omega
    go_wp2_with fail
    refine bodyPost_ret (v := .tuple #[.agg #[.slice la xs.length lc, .int .i64 last, .slice ca cl.length cc], .int .i64 0, .int .i64 1]) (by simp [results, Try.results42, go_sem, r0, r1, r2]) rfl ?_
    refine HP.out _ _ ⟨((HM.out.setCell (.inr hb2) _).setCell (.inr hb2) _).setCell (.inr hb2) _, ?_⟩
    rw [if_neg (by simp [h1'])]
end Go.Proofs.Ytgmenlfhkhdbdaa.Nt
end

section
/- NetPlays: the reference's Lose and Twice. (Printed by mkRc3.py.) -/
namespace Go.Proofs.Ytgmenlfhkhdbdaa.Nt
open Go.RowKit Mem Nm Ra
open Ag (It)
set_option linter.unusedSimpArgs false
set_option linter.unusedVariables false
set_option maxRecDepth 100000

def loseR (xs : List Ri) (id : Int) : List Ri := xs.filter (fun x => decide (x.id ≠ id))
theorem loseR_len (xs : List Ri) (id : Int) : (loseR xs id).length ≤ xs.length := List.length_filter_le _ _
theorem loseR_snoc (xs : List Ri) (x : Ri) (id : Int) : loseR (xs ++ [x]) id = if x.id = id then loseR xs id else loseR xs id ++ [x] := by
  unfold loseR
  rw [List.filter_append]
  by_cases h : x.id = id <;> simp [h]
/-- What the reference's Lose answers. -/
def RLoseP (vc : Value) (last : Int) (xs : List Ri) (id : Int) (w : World) (e : Ending) (w' : World) : Prop :=
  Mod w w' [] ∧ ∃ vl', e = .returned (.tuple #[rnV vl' last vc, .bool (decide ((loseR xs id).length < xs.length))]) ∧ RIt w.heap.size w' vl' (loseR xs id)
set_option maxHeartbeats 32000000 in
theorem rlose_calls (base : Nat) (w : World) (vl : Value) (ca : Option Addr) (cn cc : Nat) (last : Int) (xs : List Ri) (id : Int) (h : RIt base w vl xs) (hxn : xs.length ≤ 100000) :
    Calls Try.prog 43 #[rnV vl last (.slice ca cn cc), .int .i64 id] w (RLoseP (.slice ca cn cc) last xs id w) := by
  obtain ⟨i0, hi0, hz0, hz1, hz2⟩ := info_parts info_ri
  have HP : Hid (∀ e w', (Mod w w' [] ∧ ∃ vl', e = .returned (.tuple #[rnV vl' last (.slice ca cn cc), .bool (decide ((loseR xs id).length < xs.length))]) ∧ RIt w.heap.size w' vl' (loseR xs id)) → RLoseP (.slice ca cn cc) last xs id w e w') := Lib.hid (fun _ _ h => h)
  generalize RLoseP (.slice ca cn cc) last xs id w = SP at *
  have HLN := Lib.hid (loseR_len xs id)
  obtain ⟨la, lc, rfl⟩ := Rw.own_slice h.own
  show Calls _ _ #[.agg #[.slice la xs.length lc, .int .i64 last, .slice ca cn cc], _] _ _
  have HMM := Lib.hid (((Mod.refl w []).alloc (.cells #[.slice la xs.length lc, .int .i64 last, .slice ca cn cc] 49)).alloc (.cells #[.slice none 0 0, .int .i64 0, .slice none 0 0] 49))
  have HB := Lib.hid ((Blk.new w #[.slice la xs.length lc, .int .i64 last, .slice ca cn cc] 49).alloc (.cells #[.slice none 0 0, .int .i64 0, .slice none 0 0] 49))
  have hr0 := Blk.new (w.alloc (.cells #[.slice la xs.length lc, .int .i64 last, .slice ca cn cc] 49)) #[.slice none 0 0, .int .i64 0, .slice none 0 0] 49
  simp only [World.size_alloc] at hr0
  have HR := Lib.hid hr0
  clear hr0
  have HI := Lib.hid (h.mod HMM.out)
  clear h
  go_enter Try.func43, Try.ntmps43
  go_upto_region 1 with (fail)
  generalize (w.alloc _).alloc _ = w3 at *
  have h03 : w.heap.size ≤ w3.heap.size := HMM.out.size
  go_upto_region 3 with (fail)
  go_loopw [6, 7] (fun vo vi wr => ∃ (i : Nat) (ys : List Ri), vi = .int .i64 (i : Int) ∧ i ≤ xs.length ∧ ys = loseR (xs.take i) id ∧ Mod w3 wr [] ∧ RIt w3.heap.size wr vo ys) (fun _ vi _ => xs.length + 1 - (intOf vi).toNat)
  case atStart => exact ⟨0, [], rfl, Nat.zero_le _, rfl, Mod.refl _ _, RIt.nil _ _⟩
  case round =>
    obtain ⟨i, ys, rfl, hi, hys, hm, ho⟩ := hrel
    have HM := Lib.hid hm
    have HO := Lib.hid ho
    have n0 := (HB.out.mod hm (by simp)).cell 0
    have HIr := Lib.hid (HI.out.mod hm)
    have hbr := hm.size
    have hyn : ys.length ≤ i := by rw [hys]; exact Nat.le_trans (loseR_len _ _) (by rw [List.length_take]; omega)
    have HYS := Lib.hid hys
    clear hm ho hys
    by_cases hlt : i < xs.length
    · have hlt' : (i : Int) < xs.length := by omega
      have HTK : Hid (loseR (xs.take (i + 1)) id = if (xs[i]'hlt).id = id then ys else ys ++ [xs[i]'hlt]) := Lib.hid (by rw [HYS.out, List.take_add_one, List.getElem?_eq_getElem hlt]; exact loseR_snoc _ _ _)
      have HOi : Hid (wr.ownsRow w3.heap.size tRI 15 u6 ys.length (rowsR ys)) := Lib.hid HO.out.own
      obtain ⟨gb, gcp, hv, hge, hcs⟩ := HIr.out.cell hlt
      injection hv with hv1 hv2 hv3
      subst hv1 hv3
      clear hv2
      have e0 := hcs 0 (by decide)
      have e1 := hcs 1 (by decide)
      have e2 := hcs 2 (by decide)
      have e3 := hcs 3 (by decide)
      have e4 := hcs 4 (by decide)
      have e5 := hcs 5 (by decide)
      have e6 := hcs 6 (by decide)
      have e7 := hcs 7 (by decide)
      have e8 := hcs 8 (by decide)
      have e9 := hcs 9 (by decide)
      have e10 := hcs 10 (by decide)
      have e11 := hcs 11 (by decide)
      have e12 := hcs 12 (by decide)
      have e13 := hcs 13 (by decide)
      have e14 := hcs 14 (by decide)
      have HEU := Lib.hid (HIr.out.ens _ (List.getElem_mem hlt))
      clear hcs
      generalize xs[i]'hlt = x at *
      obtain ⟨x0, x1, ⟨kk, kf, kd, kt, ki, kl, kc0, ky, ks, ksi, kst, ksm, ksx⟩, xu⟩ := x
      rw [Nat.add_zero] at e0
      simp only [riC, msC] at e0 e1 e2 e3 e4 e5 e6 e7 e8 e9 e10 e11 e12 e13 e14
      simp only [List.cons_append, List.nil_append, List.getElem?_cons_zero, List.getElem?_cons_succ] at e0 e1 e2 e3 e4 e5 e6 e7 e8 e9 e10 e11 e12 e13 e14
      simp only at HEU
      obtain ⟨ea, ec, rfl⟩ := Rw.own_slice HEU.out
      simp only at HTK
      by_cases hx : x1 = id
      · go_wp2_with fail
        exact ⟨⟨i + 1, ys, rfl, by omega, by rw [HTK.out, if_pos hx], HM.out, HO.out⟩, by simp only [intOf]; omega⟩
      · have HAP : Hid (∀ B gg gcap, (wr.alloc (.cells #[.int .i64 x0, .int .i64 x1, .int .i64 kk, .int .i64 kf, .int .i64 kd, .int .i64 kt, .int .i64 ki, .int .i64 kl, .int .i64 kc0, .bool ky, .slice ea ks.length ec, .int .i64 ksi, .int .i64 kst, .int .i64 ksm, .string ksx] tRI)).grownBy B u6.ownBlock → B.ownsRow w3.heap.size tRI 15 (.slice (some ⟨gg, 0, none⟩) (ys.length + 1) gcap) (ys.length + 1) (rowsR ys ++ [.int .i64 x0, .int .i64 x1, .int .i64 kk, .int .i64 kf, .int .i64 kd, .int .i64 kt, .int .i64 ki, .int .i64 kl, .int .i64 kc0, .bool ky, .slice ea ks.length ec, .int .i64 ksi, .int .i64 kst, .int .i64 ksm, .string ksx]) → RIt w3.heap.size B (.slice (some ⟨gg, 0, none⟩) (ys.length + 1) gcap) (ys ++ [⟨x0, x1, ⟨kk, kf, kd, kt, ki, kl, kc0, ky, ks, ksi, kst, ksm, ksx⟩, .slice ea ks.length ec⟩])) := Lib.hid (fun B gg gcap h1 h2 => by
          exact (HO.out.mod ((Mod.refl wr []).alloc _)).app (x := ⟨x0, x1, ⟨kk, kf, kd, kt, ki, kl, kc0, ky, ks, ksi, kst, ksm, ksx⟩, .slice ea ks.length ec⟩) (own_mod HEU.out ((Mod.refl wr []).alloc _) (by simp)) h1 h2)
        have HOa := Lib.hid (HOi.out.alloc (.cells #[.int .i64 x0, .int .i64 x1, .int .i64 kk, .int .i64 kf, .int .i64 kd, .int .i64 kt, .int .i64 ki, .int .i64 kl, .int .i64 kc0, .bool ky, .slice ea ks.length ec, .int .i64 ksi, .int .i64 kst, .int .i64 ksm, .string ksx] tRI))
        have HMa := Lib.hid (HM.out.alloc (.cells #[.int .i64 x0, .int .i64 x1, .int .i64 kk, .int .i64 kf, .int .i64 kd, .int .i64 kt, .int .i64 ki, .int .i64 kl, .int .i64 kc0, .bool ky, .slice ea ks.length ec, .int .i64 ksi, .int .i64 kst, .int .i64 ksm, .string ksx] tRI))
        clear HEU HO
        go_wp2_with (at_builtin; refine wpList_append_lies _ rfl _ _ 47 rfl w3.heap.size tRI i0 _ 15 144 Try.underlying47 hi0 hz0 hz1 hz2 rfl (by decide) u6 ys.length (rowsR ys) rfl HOa.out ⟨wr.heap.size, 0, none⟩ 1 1 [.int .i64 x0, .int .i64 x1, .int .i64 kk, .int .i64 kf, .int .i64 kd, .int .i64 kt, .int .i64 ki, .int .i64 kl, .int .i64 kc0, .bool ky, .slice ea ks.length ec, .int .i64 ksi, .int .i64 kst, .int .i64 ksm, .string ksx] rfl rfl (World.news_of_block (cs := #[.int .i64 x0, .int .i64 x1, .int .i64 kk, .int .i64 kf, .int .i64 kd, .int .i64 kt, .int .i64 ki, .int .i64 kl, .int .i64 kc0, .bool ky, .slice ea ks.length ec, .int .i64 ksi, .int .i64 kst, .int .i64 ksm, .string ksx]) (t := tRI) (fr := (0, 0)) (heap_alloc_new wr _)) (by simp [Value.oneCell']) (by omega) (by unfold maxLen; omega) (by omega) (by simp; omega) (wr.heap.size + 1) (by simp) ?_; intro gg gcap w55 hown5 hgrow hat hlt5; have HO55 := Lib.hid (HAP.out w55 gg gcap hgrow hown5); have HM55 := Lib.hid (HMa.out.grown hgrow (fun k hk => .inr (own_ge HOa.out k hk))); clear hown5 hgrow hat hlt5)
        exact ⟨⟨i + 1, _, rfl, by omega, by rw [HTK.out, if_neg hx], HM55.out, HO55.out⟩, by simp only [intOf]; omega⟩
    · obtain rfl : i = xs.length := by omega
      rw [List.take_length] at HYS
      obtain ⟨oa, oc, rfl⟩ := Rw.own_slice HO.out.own
      have HBr := Lib.hid (HB.out.mod HM.out (by simp))
      have HRr := Lib.hid (HR.out.mod HM.out (by simp))
      clear hlt HIr n0 hi
      have n0 := HBr.out.cell 0
      have f0 := HBr.out.free 0
      go_upto_region 9 with (fail)
      have HBt := Lib.hid (HBr.out.set 0 (.slice oa ys.length oc))
      have HKt := Lib.hid (KpR.set HBr.out notNet 0 (.slice oa ys.length oc))
      have HMt := Lib.hid ((HMM.out.trans0 HM.out).setCell (p := ⟨w.heap.size, 0, none⟩) (.inr (Nat.le_refl _)) (.slice oa ys.length oc))
      have HRt := Lib.hid (HRr.out.far (p := ⟨w.heap.size, 0, none⟩) (by show ¬ (w.heap.size + 1 = w.heap.size); omega) (.slice oa ys.length oc))
      have HOt := Lib.hid (HO.out.kp HKt.out)
      simp only [List.setIfInBounds_toArray, List.set_cons_zero, List.set_cons_succ] at HBt
      generalize World.setCell wr _ _ = wt at *
      clear HBr HRr HKt HO n0 f0
      have n0 := HBt.out.cell 0
      have n1 := HBt.out.cell 1
      have n2 := HBt.out.cell 2
      have g0 := HRt.out.free 0
      have g1 := HRt.out.free 1
      have g2 := HRt.out.free 2
      have r0 := HRt.out.cell 0
      have r1 := HRt.out.cell 1
      have r2 := HRt.out.cell 2
      have hb2 : w.heap.size ≤ w.heap.size + 1 := by omega
      have HMe := Lib.hid (((HMt.out.setCell (p := ⟨w.heap.size + 1, 0, none⟩) (.inr hb2) (.slice oa ys.length oc)).setCell (p := ⟨w.heap.size + 1, 1, none⟩) (.inr hb2) (.int .i64 last)).setCell (p := ⟨w.heap.size + 1, 2, none⟩) (.inr hb2) (.slice ca cn cc))
      have HOe := Lib.hid (((HOt.out.kp (KpR.set HRt.out notNet 0 (.slice oa ys.length oc))).kp (KpR.set (HRt.out.set 0 (.slice oa ys.length oc)) notNet 1 (.int .i64 last))).kp (KpR.set ((HRt.out.set 0 (.slice oa ys.length oc)).set 1 (.int .i64 last)) notNet 2 (.slice ca cn cc)))
      have HCC : Hid (∀ b, b = decide (ys.length < xs.length) → b = decide ((loseR xs id).length < xs.length)) := Lib.hid (fun b hb => by rw [hb, HYS.out])
      go_wp2_with fail
      refine bodyPost_ret (v := .tuple #[.agg #[.slice oa ys.length oc, .int .i64 last, .slice ca cn cc], .bool (decide ((ys.length : Int) < xs.length))]) (by simp [results, Try.results43, go_sem, r0, r1, r2]) rfl ?_
      refine HP.out _ _ ⟨HMe.out, .slice oa ys.length oc, ?_, ?_⟩
      · rw [← HYS.out]
        have : decide ((ys.length : Int) < xs.length) = decide (ys.length < xs.length) := decide_eq_decide.2 (by omega)
        rw [this]
      · rw [← HYS.out]
        exact HOe.out.low h03
end Go.Proofs.Ytgmenlfhkhdbdaa.Nt
end

section
/- NetPlays: the reference's Turn. (Printed by mkRc5.py.) -/
namespace Go.Proofs.Ytgmenlfhkhdbdaa.Nt
open Go.RowKit Mem Nm Ra
open Ag (It)
set_option linter.unusedSimpArgs false
set_option linter.unusedVariables false
set_option maxRecDepth 100000

def rowsP (l : List (Int × Int)) : List Value := l.flatMap (fun p => [.int .i64 p.1, .int .i64 p.2])
theorem rowsP_snoc (l : List (Int × Int)) (p : Int × Int) : rowsP (l ++ [p]) = rowsP l ++ [.int .i64 p.1, .int .i64 p.2] := by simp [rowsP]
/-- The pairs in a row of their own. -/
def PRow (base : Nat) (W : World) (v : Value) (l : List (Int × Int)) : Prop := W.ownsRow base t2I 2 v l.length (rowsP l)
theorem PRow.kp {base : Nat} {a b : World} {v : Value} {l : List (Int × Int)} (h : PRow base a v l) (k : KpR a b) : PRow base b v l := own_kp h (fun j cs hb => k j cs _ hb (.inr (.inr (.inr rfl))))
theorem PRow.low {base base' : Nat} {W : World} {v : Value} {l : List (Int × Int)} (h : PRow base W v l) (hb : base' ≤ base) : PRow base' W v l := own_low h hb
theorem PRow.nil (base : Nat) (W : World) : PRow base W (.slice none 0 0) [] := ⟨rfl, .inl ⟨rfl, rfl⟩⟩
theorem PRow.v {base : Nat} {W : World} {v : Value} {l : List (Int × Int)} (h : PRow base W v l) : PairsV W v l := by
  rcases Rw.own_cellN h with ⟨h1, h2, _⟩ | ⟨g, cap, h1, _, h3, _, h5, h6⟩
  · exact ⟨none, 0, by rw [h1, h2], by omega, .inl (List.length_eq_zero_iff.1 h2)⟩
  · refine ⟨_, cap, h1, h3, .inr ⟨g, 0, rfl, fun i hi => ?_⟩⟩
    have hr : rowsP l = (l.map (fun p => [Value.int .i64 p.1, .int .i64 p.2])).flatten := by unfold rowsP; rw [List.flatMap_def]
    have hlen : (rowsP l).length = l.length * 2 := h5
    have hg : ∀ c, c < 2 → W.cell? ⟨g, i * 2 + c, none⟩ = [Value.int .i64 l[i].1, .int .i64 l[i].2][c]? := fun c hc => by
      rw [h6 (i * 2 + c) (by omega)]
      have := Rw.flat_get (n := 2) (l.map (fun p => [Value.int .i64 p.1, .int .i64 p.2])) i c (by intro r hr; obtain ⟨x, _, rfl⟩ := List.mem_map.1 hr; rfl) (by simpa using hi) hc
      rw [← hr, List.getElem_map] at this
      rw [← this, List.getElem?_eq_getElem (by omega)]
    rw [Nat.zero_add]
    exact ⟨hg 0 (by decide), hg 1 (by decide)⟩
theorem info_2i : (Try.prog.info? t2I).map (fun i => (i.zero, i.size, i.bytes)) = some (some (.agg #[.int .i64 0, .int .i64 0]), 2, 16) := by kernel_rfl
theorem alen2i : Try.prog.arrayLen t2I = 2 := by kernel_rfl
theorem ael2i : Try.prog.elem t2I = 3 := by kernel_rfl
def cutP (l : List (Int × Int)) (a b : Int) : List (Int × Int) := l.filter (fun p => !(pairB p a b))
theorem cutP_len (l : List (Int × Int)) (a b : Int) : (cutP l a b).length ≤ l.length := List.length_filter_le _ _
theorem cutP_snoc (l : List (Int × Int)) (a b p q : Int) : cutP (l ++ [(p, q)]) a b = if pairB (p, q) a b = true then cutP l a b else cutP l a b ++ [(p, q)] := by
  unfold cutP
  rw [List.filter_append]
  by_cases h : pairB (p, q) a b = true <;> simp [h]
def badP (a b : Int) : Bool := decide (a < 0) || (decide (6 < a) || (decide (b < 0) || (decide (6 < b) || (a == b))))
def turnR (l : List (Int × Int)) (a b : Int) (off : Bool) : List (Int × Int) := if badP a b = true then l else cutP l a b ++ (if off = true then [(a, b)] else [])
def RTurnP (base : Nat) (vl : Value) (last : Int) (l : List (Int × Int)) (w : World) (e : Ending) (w' : World) : Prop :=
  Mod w w' [] ∧ ∃ vc', e = .returned (rnV vl last vc') ∧ PRow base w' vc' l
set_option maxHeartbeats 32000000 in
theorem rturn_calls (base : Nat) (w : World) (la : Option Addr) (ln lc : Nat) (vc : Value) (last : Int) (cl : List (Int × Int)) (a b : Int) (off : Bool) (h : PRow base w vc cl) (hb : base ≤ w.heap.size) (hcn : cl.length ≤ 100000) :
    Calls Try.prog 45 #[rnV (.slice la ln lc) last vc, .int .i64 a, .int .i64 b, .bool off] w (RTurnP base (.slice la ln lc) last (turnR cl a b off) w) := by
  obtain ⟨i0, hi0, hz0, hz1, hz2⟩ := info_parts info_2i
  have A2 := alen2i
  have E2 := ael2i
  have HP : Hid (∀ e w', (Mod w w' [] ∧ ∃ vc', e = .returned (rnV (.slice la ln lc) last vc') ∧ PRow base w' vc' (turnR cl a b off)) → RTurnP base (.slice la ln lc) last (turnR cl a b off) w e w') := Lib.hid (fun _ _ h => h)
  generalize RTurnP base (.slice la ln lc) last (turnR cl a b off) w = SP at *
  obtain ⟨ca, cc, rfl⟩ := Rw.own_slice h
  have HLT := Lib.hid (Rw.own_lt h)
  show Calls _ _ #[.agg #[.slice la ln lc, .int .i64 last, .slice ca cl.length cc], _, _, _] _ _
  have HMM := Lib.hid (((Mod.refl w []).alloc (.cells #[.slice la ln lc, .int .i64 last, .slice ca cl.length cc] 49)).alloc (.cells #[.slice none 0 0, .int .i64 0, .slice none 0 0] 49))
  have HB := Lib.hid ((Blk.new w #[.slice la ln lc, .int .i64 last, .slice ca cl.length cc] 49).alloc (.cells #[.slice none 0 0, .int .i64 0, .slice none 0 0] 49))
  have hr0 := Blk.new (w.alloc (.cells #[.slice la ln lc, .int .i64 last, .slice ca cl.length cc] 49)) #[.slice none 0 0, .int .i64 0, .slice none 0 0] 49
  simp only [World.size_alloc] at hr0
  have HR := Lib.hid hr0
  clear hr0
  have HI := Lib.hid (h.kp (KpR.mod HMM.out))
  clear h
  go_enter Try.func45, Try.ntmps45
  go_upto_region 1 with (fail)
  generalize (w.alloc _).alloc _ = w3 at *
  have h03 : w.heap.size ≤ w3.heap.size := HMM.out.size
  have hb2 : w.heap.size ≤ w.heap.size + 1 := by omega
  by_cases hbad : badP a b = true
  · have HRES : Hid (turnR cl a b off = cl) := Lib.hid (by unfold turnR; rw [if_pos hbad])
    have HBD := Lib.hid hbad
    have n0 := HB.out.cell 0
    have n1 := HB.out.cell 1
    have n2 := HB.out.cell 2
    have r0 := HR.out.cell 0
    have r1 := HR.out.cell 1
    have r2 := HR.out.cell 2
    have g0 := HR.out.free 0
    have g1 := HR.out.free 1
    have g2 := HR.out.free 2
    clear hbad
    rcases Bool.eq_false_or_eq_true (decide (a < 0)) with d1 | d1
    · go_wp2_with fail
      refine bodyPost_ret (v := .agg #[.slice la ln lc, .int .i64 last, .slice ca cl.length cc]) (by simp [results, Try.results45, go_sem, r0, r1, r2]) rfl ?_
      refine HP.out _ _ ?_
      rw [HRES.out]
      exact ⟨((HMM.out.setCell (.inr hb2) _).setCell (.inr hb2) _).setCell (.inr hb2) _, _, rfl, ((HI.out.kp (KpR.set HR.out notNet 0 _)).kp (KpR.set (HR.out.set 0 _) notNet 1 _)).kp (KpR.set ((HR.out.set 0 _).set 1 _) notNet 2 _)⟩
    · rcases Bool.eq_false_or_eq_true (decide (6 < a)) with d2 | d2
      · go_wp2_with fail
        refine bodyPost_ret (v := .agg #[.slice la ln lc, .int .i64 last, .slice ca cl.length cc]) (by simp [results, Try.results45, go_sem, r0, r1, r2]) rfl ?_
        refine HP.out _ _ ?_
        rw [HRES.out]
        exact ⟨((HMM.out.setCell (.inr hb2) _).setCell (.inr hb2) _).setCell (.inr hb2) _, _, rfl, ((HI.out.kp (KpR.set HR.out notNet 0 _)).kp (KpR.set (HR.out.set 0 _) notNet 1 _)).kp (KpR.set ((HR.out.set 0 _).set 1 _) notNet 2 _)⟩
      · rcases Bool.eq_false_or_eq_true (decide (b < 0)) with d3 | d3
        · go_wp2_with fail
          refine bodyPost_ret (v := .agg #[.slice la ln lc, .int .i64 last, .slice ca cl.length cc]) (by simp [results, Try.results45, go_sem, r0, r1, r2]) rfl ?_
          refine HP.out _ _ ?_
          rw [HRES.out]
          exact ⟨((HMM.out.setCell (.inr hb2) _).setCell (.inr hb2) _).setCell (.inr hb2) _, _, rfl, ((HI.out.kp (KpR.set HR.out notNet 0 _)).kp (KpR.set (HR.out.set 0 _) notNet 1 _)).kp (KpR.set ((HR.out.set 0 _).set 1 _) notNet 2 _)⟩
        · rcases Bool.eq_false_or_eq_true (decide (6 < b)) with d4 | d4
          · go_wp2_with fail
            refine bodyPost_ret (v := .agg #[.slice la ln lc, .int .i64 last, .slice ca cl.length cc]) (by simp [results, Try.results45, go_sem, r0, r1, r2]) rfl ?_
            refine HP.out _ _ ?_
            rw [HRES.out]
            exact ⟨((HMM.out.setCell (.inr hb2) _).setCell (.inr hb2) _).setCell (.inr hb2) _, _, rfl, ((HI.out.kp (KpR.set HR.out notNet 0 _)).kp (KpR.set (HR.out.set 0 _) notNet 1 _)).kp (KpR.set ((HR.out.set 0 _).set 1 _) notNet 2 _)⟩
          · rcases Bool.eq_false_or_eq_true ((a == b)) with d5 | d5
            · go_wp2_with fail
              refine bodyPost_ret (v := .agg #[.slice la ln lc, .int .i64 last, .slice ca cl.length cc]) (by simp [results, Try.results45, go_sem, r0, r1, r2]) rfl ?_
              refine HP.out _ _ ?_
              rw [HRES.out]
              exact ⟨((HMM.out.setCell (.inr hb2) _).setCell (.inr hb2) _).setCell (.inr hb2) _, _, rfl, ((HI.out.kp (KpR.set HR.out notNet 0 _)).kp (KpR.set (HR.out.set 0 _) notNet 1 _)).kp (KpR.set ((HR.out.set 0 _).set 1 _) notNet 2 _)⟩
            · exact absurd HBD.out (by simp [badP, d1, d2, d3, d4, d5])
  · have hbad' : badP a b = false := by simpa using hbad
    have HRES : Hid (turnR cl a b off = cutP cl a b ++ (if off = true then [(a, b)] else [])) := Lib.hid (by unfold turnR; rw [if_neg hbad])
    clear hbad
    unfold badP at hbad'
    simp only [Bool.or_eq_false_iff] at hbad'
    obtain ⟨d1, d2, d3, d4, d5⟩ := hbad'
    go_upto_region 3 with (fail)
    clear d1 d2 d3 d4 d5
    go_upto_region 5 with (fail)
    go_loopw [9, 10] (fun vo vi wr => ∃ (i : Nat) (ys : List (Int × Int)), vi = .int .i64 (i : Int) ∧ i ≤ cl.length ∧ ys = cutP (cl.take i) a b ∧ Mod w3 wr [] ∧ PRow w3.heap.size wr vo ys) (fun _ vi _ => cl.length + 1 - (intOf vi).toNat)
    case atStart => exact ⟨0, [], rfl, Nat.zero_le _, rfl, Mod.refl _ _, PRow.nil _ _⟩
    case round =>
      obtain ⟨i, ys, rfl, hi, hys, hm, ho⟩ := hrel
      have HM := Lib.hid hm
      have HO := Lib.hid ho
      have n2 := (HB.out.mod hm (by simp)).cell 2
      have HIr := Lib.hid (HI.out.kp (KpR.mod hm)).v
      have hbr := hm.size
      have hyn : ys.length ≤ i := by rw [hys]; exact Nat.le_trans (cutP_len _ _ _) (by rw [List.length_take]; omega)
      have HYS := Lib.hid hys
      clear hm ho hys
      by_cases hlt : i < cl.length
      · have hlt' : (i : Int) < cl.length := by omega
        obtain ⟨ad', cap', hv, _, hcs⟩ := HIr.out
        injection hv with hv1 _ hv3
        subst hv1 hv3
        obtain ⟨gb, go, rfl, hcs2⟩ := hcs.resolve_left (fun h => by rw [h] at hlt; simp at hlt)
        obtain ⟨e0, e1⟩ := hcs2 i hlt
        have HTK : Hid (∀ p q, (cl[i]'hlt) = (p, q) → cutP (cl.take (i + 1)) a b = if pairB (p, q) a b = true then ys else ys ++ [(p, q)]) := Lib.hid (fun p q h => by rw [HYS.out, List.take_add_one, List.getElem?_eq_getElem hlt, h]; exact cutP_snoc _ _ _ _ _)
        clear hcs hcs2 HIr
        obtain ⟨⟨p, q⟩, hpq'⟩ : ∃ x, x = cl[i]'hlt := ⟨_, rfl⟩
        have hpq := hpq'.symm
        clear hpq'
        replace HTK := Lib.hid (HTK.out p q hpq)
        rw [hpq] at e0 e1
        simp only at e0 e1
        clear hpq
        have HOx := Lib.hid (HO.out.kp (KpR.mod (((Mod.refl wr []).alloc (.cells #[.int .i64 p, .int .i64 q] t2I)))))
        have HMx := Lib.hid (HM.out.alloc (.cells #[.int .i64 p, .int .i64 q] t2I))
        have HBx := Lib.hid (Blk.new wr #[.int .i64 p, .int .i64 q] t2I)
        have hbx : w3.heap.size ≤ wr.heap.size := hbr
        have hsx : (wr.alloc (.cells #[.int .i64 p, .int .i64 q] t2I)).heap.size = wr.heap.size + 1 := World.size_alloc _ _
        go_upto_region 8 with (fail)
        generalize hq : wr.heap.size = xb at *
        generalize wr.alloc _ = wx at *
        have hbw : w3.heap.size ≤ wx.heap.size := by omega
        clear HO HM e0 e1 n2 hq hsx
        have x0 := HBx.out.cell 0
        have x1 := HBx.out.cell 1
        have HAP : Hid (∀ B gg gcap, B.ownsRow w3.heap.size t2I 2 (.slice (some ⟨gg, 0, none⟩) (ys.length + 1) gcap) (ys.length + 1) (rowsP ys ++ [.int .i64 p, .int .i64 q]) → PRow w3.heap.size B (.slice (some ⟨gg, 0, none⟩) (ys.length + 1) gcap) (ys ++ [(p, q)])) := Lib.hid (fun B gg gcap h1 => by
          unfold PRow; rw [rowsP_snoc, List.length_append]; exact h1)
        have HOa := Lib.hid (HOx.out.alloc (.cells #[.int .i64 p, .int .i64 q] t2I))
        have HMa := Lib.hid (HMx.out.alloc (.cells #[.int .i64 p, .int .i64 q] t2I))
        rcases Bool.eq_false_or_eq_true ((p : Int) == a) with b1 | b1
        · rcases Bool.eq_false_or_eq_true ((q : Int) == b) with b2 | b2
          · replace HTK := Lib.hid (HTK.out.trans (if_pos (by simp [pairB, b1, b2])))
            go_wp2_with fail
            exact ⟨⟨i + 1, ys, rfl, by omega, HTK.out.symm, HMx.out, HOx.out⟩, by simp only [intOf]; omega⟩
          · rcases Bool.eq_false_or_eq_true ((p : Int) == b) with b3 | b3
            · rcases Bool.eq_false_or_eq_true ((q : Int) == a) with b4 | b4
              · replace HTK := Lib.hid (HTK.out.trans (if_pos (by simp [pairB, b1, b2, b3, b4])))
                go_wp2_with fail
                exact ⟨⟨i + 1, ys, rfl, by omega, HTK.out.symm, HMx.out, HOx.out⟩, by simp only [intOf]; omega⟩
              · replace HTK := Lib.hid (HTK.out.trans (if_neg (by simp [pairB, b1, b2, b3, b4])))
                go_wp2_with (at_builtin; refine wpList_append_lies _ rfl _ _ 39 rfl w3.heap.size t2I i0 _ 2 16 Try.underlying39 hi0 hz0 hz1 hz2 rfl (by decide) u9 ys.length (rowsP ys) rfl HOa.out ⟨wx.heap.size, 0, none⟩ 1 1 [.int .i64 p, .int .i64 q] rfl rfl (World.news_of_block (cs := #[.int .i64 p, .int .i64 q]) (t := t2I) (fr := (0, 0)) (heap_alloc_new wx _)) (by simp [Value.oneCell']) (by omega) (by unfold maxLen; omega) (by omega) (by simp; omega) (wx.heap.size + 1) (by simp) ?_; intro gg gcap w55 hown5 hgrow hat hlt5; have HO55 := Lib.hid (HAP.out w55 gg gcap hown5); have HM55 := Lib.hid (HMa.out.grown hgrow (fun k hk => .inr (own_ge HOa.out k hk)));  clear hown5 hgrow hat hlt5)
                exact ⟨⟨i + 1, _, rfl, by omega, HTK.out.symm, HM55.out, HO55.out⟩, by simp only [intOf]; omega⟩
            · replace HTK := Lib.hid (HTK.out.trans (if_neg (by simp [pairB, b1, b2, b3])))
              go_wp2_with (at_builtin; refine wpList_append_lies _ rfl _ _ 39 rfl w3.heap.size t2I i0 _ 2 16 Try.underlying39 hi0 hz0 hz1 hz2 rfl (by decide) u9 ys.length (rowsP ys) rfl HOa.out ⟨wx.heap.size, 0, none⟩ 1 1 [.int .i64 p, .int .i64 q] rfl rfl (World.news_of_block (cs := #[.int .i64 p, .int .i64 q]) (t := t2I) (fr := (0, 0)) (heap_alloc_new wx _)) (by simp [Value.oneCell']) (by omega) (by unfold maxLen; omega) (by omega) (by simp; omega) (wx.heap.size + 1) (by simp) ?_; intro gg gcap w55 hown5 hgrow hat hlt5; have HO55 := Lib.hid (HAP.out w55 gg gcap hown5); have HM55 := Lib.hid (HMa.out.grown hgrow (fun k hk => .inr (own_ge HOa.out k hk)));  clear hown5 hgrow hat hlt5)
              exact ⟨⟨i + 1, _, rfl, by omega, HTK.out.symm, HM55.out, HO55.out⟩, by simp only [intOf]; omega⟩
        · rcases Bool.eq_false_or_eq_true ((p : Int) == b) with b3 | b3
          · rcases Bool.eq_false_or_eq_true ((q : Int) == a) with b4 | b4
            · replace HTK := Lib.hid (HTK.out.trans (if_pos (by simp [pairB, b1, b3, b4])))
              go_wp2_with fail
              exact ⟨⟨i + 1, ys, rfl, by omega, HTK.out.symm, HMx.out, HOx.out⟩, by simp only [intOf]; omega⟩
            · replace HTK := Lib.hid (HTK.out.trans (if_neg (by simp [pairB, b1, b3, b4])))
              go_wp2_with (at_builtin; refine wpList_append_lies _ rfl _ _ 39 rfl w3.heap.size t2I i0 _ 2 16 Try.underlying39 hi0 hz0 hz1 hz2 rfl (by decide) u9 ys.length (rowsP ys) rfl HOa.out ⟨wx.heap.size, 0, none⟩ 1 1 [.int .i64 p, .int .i64 q] rfl rfl (World.news_of_block (cs := #[.int .i64 p, .int .i64 q]) (t := t2I) (fr := (0, 0)) (heap_alloc_new wx _)) (by simp [Value.oneCell']) (by omega) (by unfold maxLen; omega) (by omega) (by simp; omega) (wx.heap.size + 1) (by simp) ?_; intro gg gcap w55 hown5 hgrow hat hlt5; have HO55 := Lib.hid (HAP.out w55 gg gcap hown5); have HM55 := Lib.hid (HMa.out.grown hgrow (fun k hk => .inr (own_ge HOa.out k hk)));  clear hown5 hgrow hat hlt5)
              exact ⟨⟨i + 1, _, rfl, by omega, HTK.out.symm, HM55.out, HO55.out⟩, by simp only [intOf]; omega⟩
          · replace HTK := Lib.hid (HTK.out.trans (if_neg (by simp [pairB, b1, b3])))
            go_wp2_with (at_builtin; refine wpList_append_lies _ rfl _ _ 39 rfl w3.heap.size t2I i0 _ 2 16 Try.underlying39 hi0 hz0 hz1 hz2 rfl (by decide) u9 ys.length (rowsP ys) rfl HOa.out ⟨wx.heap.size, 0, none⟩ 1 1 [.int .i64 p, .int .i64 q] rfl rfl (World.news_of_block (cs := #[.int .i64 p, .int .i64 q]) (t := t2I) (fr := (0, 0)) (heap_alloc_new wx _)) (by simp [Value.oneCell']) (by omega) (by unfold maxLen; omega) (by omega) (by simp; omega) (wx.heap.size + 1) (by simp) ?_; intro gg gcap w55 hown5 hgrow hat hlt5; have HO55 := Lib.hid (HAP.out w55 gg gcap hown5); have HM55 := Lib.hid (HMa.out.grown hgrow (fun k hk => .inr (own_ge HOa.out k hk)));  clear hown5 hgrow hat hlt5)
            exact ⟨⟨i + 1, _, rfl, by omega, HTK.out.symm, HM55.out, HO55.out⟩, by simp only [intOf]; omega⟩
      · obtain rfl : i = cl.length := by omega
        rw [List.take_length] at HYS
        obtain ⟨oa, oc, rfl⟩ := Rw.own_slice HO.out
        have HBr := Lib.hid (HB.out.mod HM.out (by simp))
        have HRr := Lib.hid (HR.out.mod HM.out (by simp))
        have hyn : ys.length ≤ 100000 := by omega
        clear hlt HIr hi HI HB HR
        replace HRES : Hid (turnR cl a b off = ys ++ (if off = true then [(a, b)] else [])) := Lib.hid (by rw [HRES.out, HYS.out])
        clear HYS
        cases off
        · simp only [Bool.false_eq_true, if_false, List.append_nil] at HRES
          go_upto_region 12 with (fail)
          have HMf := Lib.hid (HMM.out.trans0 HM.out)
          have HOf := HO
          have HBf := HBr
          have HRf := HRr
          clear HO HBr HRr HM HMM n2
          generalize hvv : Value.slice oa ys.length oc = vv at *
          have HVS : Hid (∃ a c, vv = .slice a ys.length c) := Lib.hid ⟨_, _, hvv.symm⟩
          obtain ⟨va, vb, hvq⟩ := HVS.out
          clear hvv HVS
          subst hvq
          have f2 := HBf.out.free 2
          have m2 := HBf.out.cell 2
          go_upto_region 13 with (fail)
          have HBt := Lib.hid (HBf.out.set 2 (.slice va ys.length vb))
          have HKt := Lib.hid (KpR.set HBf.out notNet 2 (.slice va ys.length vb))
          have HMt := Lib.hid (HMf.out.setCell (p := ⟨w.heap.size, 2, none⟩) (.inr (Nat.le_refl _)) (.slice va ys.length vb))
          have HRt := Lib.hid (HRf.out.far (p := ⟨w.heap.size, 2, none⟩) (by show ¬ (w.heap.size + 1 = w.heap.size); omega) (.slice va ys.length vb))
          have HOt := Lib.hid (HOf.out.kp HKt.out)
          simp only [List.setIfInBounds_toArray, List.set_cons_zero, List.set_cons_succ] at HBt
          generalize World.setCell _ ⟨w.heap.size, 2, none⟩ _ = wt at *
          clear HBf HMf HRf HKt HOf f2 m2
          have n0 := HBt.out.cell 0
          have n1 := HBt.out.cell 1
          have n2 := HBt.out.cell 2
          have g0 := HRt.out.free 0
          have g1 := HRt.out.free 1
          have g2 := HRt.out.free 2
          have r0 := HRt.out.cell 0
          have r1 := HRt.out.cell 1
          have r2 := HRt.out.cell 2
          have HMe := Lib.hid (((HMt.out.setCell (p := ⟨w.heap.size + 1, 0, none⟩) (.inr hb2) (.slice la ln lc)).setCell (p := ⟨w.heap.size + 1, 1, none⟩) (.inr hb2) (.int .i64 last)).setCell (p := ⟨w.heap.size + 1, 2, none⟩) (.inr hb2) (.slice va ys.length vb))
          have HOe := Lib.hid (((HOt.out.kp (KpR.set HRt.out notNet 0 (.slice la ln lc))).kp (KpR.set (HRt.out.set 0 (.slice la ln lc)) notNet 1 (.int .i64 last))).kp (KpR.set ((HRt.out.set 0 (.slice la ln lc)).set 1 (.int .i64 last)) notNet 2 (.slice va ys.length vb)))
          go_wp2_with fail
          refine bodyPost_ret (v := .agg #[.slice la ln lc, .int .i64 last, .slice va ys.length vb]) (by simp [results, Try.results45, go_sem, r0, r1, r2]) rfl ?_
          refine HP.out _ _ ?_
          rw [HRES.out]
          exact ⟨HMe.out, _, rfl, HOe.out.low (Nat.le_trans hb h03)⟩
        · simp only [if_true] at HRES
          have HAP : Hid (∀ B gg gcap, B.ownsRow w3.heap.size t2I 2 (.slice (some ⟨gg, 0, none⟩) (ys.length + 1) gcap) (ys.length + 1) (rowsP ys ++ [.int .i64 a, .int .i64 b]) → PRow w3.heap.size B (.slice (some ⟨gg, 0, none⟩) (ys.length + 1) gcap) (ys ++ [(a, b)])) := Lib.hid (fun B gg gcap h1 => by
            unfold PRow; rw [rowsP_snoc, List.length_append]; exact h1)
          have HOa := Lib.hid (HO.out.alloc (.cells #[.int .i64 a, .int .i64 b] t2I))
          have HMa := Lib.hid ((HMM.out.trans0 HM.out).alloc (.cells #[.int .i64 a, .int .i64 b] t2I))
          have HBa := Lib.hid (HBr.out.alloc (.cells #[.int .i64 a, .int .i64 b] t2I))
          have HRa := Lib.hid (HRr.out.alloc (.cells #[.int .i64 a, .int .i64 b] t2I))
          have HNE : Hid (∀ k, (Value.slice oa ys.length oc).ownBlock = some k → k ≠ w.heap.size ∧ k ≠ w.heap.size + 1 ∧ w.heap.size ≤ k) := Lib.hid (fun k hk => by
            have h1 := own_ge HO.out k hk
            obtain ⟨cur, hc⟩ := own_ty HO.out k hk
            exact ⟨fun e => by subst e; exact absurd (blk_uni hc HBr.out) (by decide), fun e => by subst e; exact absurd (blk_uni hc HRr.out) (by decide), by omega⟩)
          go_upto_region 11 with (fail)
          go_upto_region 12 with (at_builtin; refine wpList_append_lies _ rfl _ _ 39 rfl w3.heap.size t2I i0 _ 2 16 Try.underlying39 hi0 hz0 hz1 hz2 rfl (by decide) (.slice oa ys.length oc) ys.length (rowsP ys) rfl HOa.out ⟨wr.heap.size, 0, none⟩ 1 1 [.int .i64 a, .int .i64 b] rfl rfl (World.news_of_block (cs := #[.int .i64 a, .int .i64 b]) (t := t2I) (fr := (0, 0)) (heap_alloc_new wr _)) (by simp [Value.oneCell']) (by omega) (by unfold maxLen; omega) (by omega) (by simp; omega) (wr.heap.size + 1) (by simp) ?_; intro gg gcap w56 hown5 hgrow hat hlt5; have HO56 := Lib.hid (HAP.out w56 gg gcap hown5); have HM56 := Lib.hid (HMa.out.grown hgrow (fun k hk => .inr ((HNE.out k hk).2.2))); have HB56 := Lib.hid (Rw.blk_grown HBa.out hgrow (fun e => (HNE.out _ e.symm).1 rfl)); have HR56 := Lib.hid (Rw.blk_grown HRa.out hgrow (fun e => (HNE.out _ e.symm).2.1 rfl)); clear hown5 hgrow hat hlt5)
          have HMf := HM56
          have HOf := HO56
          have HBf := HB56
          have HRf := HR56
          clear HM56 HO56 HB56 HR56 HOa HMa HBa HRa HO HBr HRr HM HMM HNE HAP n2
          generalize hvv : Value.slice (some ⟨gg, 0, none⟩) (ys.length + 1) gcap = vv at *
          have HVS : Hid (∃ a c, vv = .slice a (ys.length + 1) c) := Lib.hid ⟨_, _, hvv.symm⟩
          obtain ⟨va, vb, hvq⟩ := HVS.out
          clear hvv HVS
          subst hvq
          have f2 := HBf.out.free 2
          have m2 := HBf.out.cell 2
          go_upto_region 13 with (fail)
          have HBt := Lib.hid (HBf.out.set 2 (.slice va (ys.length + 1) vb))
          have HKt := Lib.hid (KpR.set HBf.out notNet 2 (.slice va (ys.length + 1) vb))
          have HMt := Lib.hid (HMf.out.setCell (p := ⟨w.heap.size, 2, none⟩) (.inr (Nat.le_refl _)) (.slice va (ys.length + 1) vb))
          have HRt := Lib.hid (HRf.out.far (p := ⟨w.heap.size, 2, none⟩) (by show ¬ (w.heap.size + 1 = w.heap.size); omega) (.slice va (ys.length + 1) vb))
          have HOt := Lib.hid (HOf.out.kp HKt.out)
          simp only [List.setIfInBounds_toArray, List.set_cons_zero, List.set_cons_succ] at HBt
          generalize World.setCell _ ⟨w.heap.size, 2, none⟩ _ = wt at *
          clear HBf HMf HRf HKt HOf f2 m2
          have n0 := HBt.out.cell 0
          have n1 := HBt.out.cell 1
          have n2 := HBt.out.cell 2
          have g0 := HRt.out.free 0
          have g1 := HRt.out.free 1
          have g2 := HRt.out.free 2
          have r0 := HRt.out.cell 0
          have r1 := HRt.out.cell 1
          have r2 := HRt.out.cell 2
          have HMe := Lib.hid (((HMt.out.setCell (p := ⟨w.heap.size + 1, 0, none⟩) (.inr hb2) (.slice la ln lc)).setCell (p := ⟨w.heap.size + 1, 1, none⟩) (.inr hb2) (.int .i64 last)).setCell (p := ⟨w.heap.size + 1, 2, none⟩) (.inr hb2) (.slice va (ys.length + 1) vb))
          have HOe := Lib.hid (((HOt.out.kp (KpR.set HRt.out notNet 0 (.slice la ln lc))).kp (KpR.set (HRt.out.set 0 (.slice la ln lc)) notNet 1 (.int .i64 last))).kp (KpR.set ((HRt.out.set 0 (.slice la ln lc)).set 1 (.int .i64 last)) notNet 2 (.slice va (ys.length + 1) vb)))
          go_wp2_with fail
          refine bodyPost_ret (v := .agg #[.slice la ln lc, .int .i64 last, .slice va (ys.length + 1) vb]) (by simp [results, Try.results45, go_sem, r0, r1, r2]) rfl ?_
          refine HP.out _ _ ?_
          rw [HRES.out]
          exact ⟨HMe.out, _, rfl, HOe.out.low (Nat.le_trans hb h03)⟩
end Go.Proofs.Ytgmenlfhkhdbdaa.Nt
end

section
/- NetPlays: what the reference's Due makes, plain; its rows of messages. -/
namespace Go.Proofs.Ytgmenlfhkhdbdaa.Nt
open Go.RowKit Mem Nm Ra
open Ag (It)
set_option linter.unusedSimpArgs false
set_option linter.unusedVariables false
set_option maxRecDepth 100000

def ltR (x y : Ri) : Prop := x.at_ < y.at_ ∨ x.at_ = y.at_ ∧ x.id < y.id
def dueF (ys : List Ri) (now : Int) : List Ri := ys.filter (fun x => decide (x.at_ ≤ now))
def leftF (ys : List Ri) (now : Int) : List Ri := ys.filter (fun x => decide (now < x.at_))
theorem dueF_snoc (ys : List Ri) (x : Ri) (now : Int) : dueF (ys ++ [x]) now = if now < x.at_ then dueF ys now else dueF ys now ++ [x] := by
  unfold dueF
  rw [List.filter_append]
  by_cases h : now < x.at_
  · rw [if_pos h]; simp [show ¬ x.at_ ≤ now by omega]
  · rw [if_neg h]; simp [show x.at_ ≤ now by omega]
theorem leftF_snoc (ys : List Ri) (x : Ri) (now : Int) : leftF (ys ++ [x]) now = if now < x.at_ then leftF ys now ++ [x] else leftF ys now := by
  unfold leftF
  rw [List.filter_append]
  by_cases h : now < x.at_ <;> simp [h]
structure CS (cs ys : List Ri) (now : Int) : Prop where
  perm : cs.Perm (dueF ys now)
  srt : cs.Pairwise ltR
theorem CS.nil (now : Int) : CS [] [] now := ⟨List.Perm.refl _, List.Pairwise.nil⟩
theorem CS.skip {cs ys : List Ri} {now : Int} {x : Ri} (h : CS cs ys now) (hx : now < x.at_) : CS cs (ys ++ [x]) now := ⟨by rw [dueF_snoc, if_pos hx]; exact h.perm, h.srt⟩
theorem CS.ins {cs ys : List Ri} {now : Int} {x : Ri} {k : Nat} (h : CS cs ys now) (hx : ¬ now < x.at_) (hid : ∀ y ∈ ys, y.id < x.id) (h1 : ∀ j (hj : j < cs.length), k ≤ j → x.at_ < cs[j].at_) (h2 : k = 0 ∨ ∃ h : k - 1 < cs.length, cs[k - 1].at_ ≤ x.at_) : CS (cs.take k ++ [x] ++ cs.drop k) (ys ++ [x]) now := by
  have hids : ∀ y ∈ cs, y.id < x.id := fun y hy => hid y (List.mem_filter.1 (h.perm.mem_iff.1 hy)).1
  have hsp : cs.take k ++ cs.drop k = cs := List.take_append_drop k cs
  have hs := h.srt
  rw [← hsp, List.pairwise_append] at hs
  obtain ⟨hs1, hs2, hs3⟩ := hs
  have ht : ∀ y ∈ cs.take k, ltR y x := fun y hy => by
    obtain ⟨j, hj, rfl⟩ := List.getElem_of_mem hy
    rw [List.length_take] at hj
    have hm := hids _ (List.mem_of_mem_take hy)
    rw [List.getElem_take] at hm ⊢
    have : cs[j].at_ ≤ x.at_ := by
      rcases h2 with h2 | ⟨hk, h2⟩
      · omega
      · rcases Nat.lt_or_ge j (k - 1) with hjk | hjk
        · have := List.pairwise_iff_getElem.1 h.srt j (k - 1) (by omega) hk hjk
          rcases this with h3 | h3 <;> omega
        · have : j = k - 1 := by omega
          subst this; exact h2
    rcases Int.lt_or_eq_of_le this with h3 | h3
    · exact .inl h3
    · exact .inr ⟨h3, hm⟩
  have hd : ∀ y ∈ cs.drop k, ltR x y := fun y hy => by
    obtain ⟨j, hj, rfl⟩ := List.getElem_of_mem hy
    rw [List.length_drop] at hj
    rw [List.getElem_drop]
    exact .inl (h1 (k + j) (by omega) (by omega))
  constructor
  · rw [dueF_snoc, if_neg hx]
    refine List.Perm.trans ?_ (h.perm.append_right [x])
    rw [List.append_assoc]
    refine List.Perm.trans (List.Perm.append_left _ List.perm_append_comm) ?_
    rw [← List.append_assoc, hsp]
  · rw [List.append_assoc, List.pairwise_append]
    refine ⟨hs1, ?_, ?_⟩
    · rw [List.singleton_append, List.pairwise_cons]; exact ⟨hd, hs2⟩
    · intro a ha b hb
      rw [List.singleton_append, List.mem_cons] at hb
      rcases hb with rfl | hb
      · exact ht a ha
      · exact hs3 a ha b hb
def outR (cl : List (Int × Int)) (cs : List Ri) : List (Ms × Value) := (cs.filter (fun x => !(offL cl x.m.frm x.m.dst))).map (fun x => (x.m, x.u))
theorem outR_snoc (cl : List (Int × Int)) (cs : List Ri) (x : Ri) : outR cl (cs ++ [x]) = if offL cl x.m.frm x.m.dst = true then outR cl cs else outR cl cs ++ [(x.m, x.u)] := by
  unfold outR
  rw [List.filter_append]
  by_cases h : offL cl x.m.frm x.m.dst = true <;> simp [h]
theorem outR_len (cl : List (Int × Int)) (cs : List Ri) : (outR cl cs).length ≤ cs.length := by
  unfold outR; rw [List.length_map]; exact List.length_filter_le _ _
/-- Rows of the reference's messages. -/
structure RMs (base : Nat) (W : World) (v : Value) (xs : List (Ms × Value)) : Prop where
  own : W.ownsRow base tRM 13 v xs.length (rowsM xs)
  ens : ∀ x ∈ xs, W.ownsRow 0 tRE 4 x.2 x.1.es.length (rowsE x.1.es)
theorem RMs.kp {base : Nat} {a b : World} {v : Value} {xs : List (Ms × Value)} (h : RMs base a v xs) (k : KpR a b) : RMs base b v xs :=
  ⟨own_kp h.own (fun j cs hb => k j cs _ hb (.inr (.inr (.inl rfl)))), fun x hx => own_kp (h.ens x hx) (fun j cs hb => k j cs _ hb (.inr (.inl rfl)))⟩
theorem RMs.nil (base : Nat) (W : World) : RMs base W (.slice none 0 0) [] := ⟨⟨rfl, .inl ⟨rfl, rfl⟩⟩, by simp⟩
theorem RMs.low {base base' : Nat} {W : World} {v : Value} {xs : List (Ms × Value)} (h : RMs base W v xs) (hb : base' ≤ base) : RMs base' W v xs := ⟨own_low h.own hb, h.ens⟩
theorem RMs.app {base : Nat} {A B : World} {v v' : Value} {xs : List (Ms × Value)} {m : Ms} {u : Value} (h : RMs base A v xs) (hu : A.ownsRow 0 tRE 4 u m.es.length (rowsE m.es)) (hg : A.grownBy B v.ownBlock) (ho : B.ownsRow base tRM 13 v' (xs.length + 1) (rowsM xs ++ msC m u)) : RMs base B v' (xs ++ [(m, u)]) := by
  have hk : ∀ j cs, Blk A j cs tRE → Blk B j cs tRE := fun j cs hb => Rw.blk_grown hb hg (fun e => by
    obtain ⟨cur, hc⟩ := own_ty h.own j e.symm
    exact absurd (blk_uni hb hc) (by decide))
  refine ⟨by rw [List.length_append, rowsM_snoc]; exact ho, fun y hy => ?_⟩
  rcases List.mem_append.1 hy with hy | hy
  · exact own_kp (h.ens y hy) hk
  · rw [List.mem_singleton] at hy; subst hy; exact own_kp hu hk
theorem RIt.far {base base' : Nat} {A B : World} {v v' : Value} {xs xs' : List Ri} (h : RIt base A v xs) (h' : RIt base' A v' xs') (hg : A.grownBy B v'.ownBlock) (hne : ∀ k, v.ownBlock = some k → v'.ownBlock ≠ some k) : RIt base B v xs := by
  cases hv : v'.ownBlock with
  | none =>
    rw [hv] at hg
    exact h.mod ((Mod.refl A []).grown hg (fun k hk => by cases hk))
  | some g =>
    rw [hv] at hg
    have m := mod_grown hg
    refine ⟨own_mod h.own m (fun k hk hm => ?_), fun x hx => own_mod (h.ens x hx) m (fun k hk hm => ?_)⟩
    · rw [List.mem_singleton] at hm; subst hm; exact hne _ hk hv
    · rw [List.mem_singleton] at hm; subst hm
      obtain ⟨cur, hc⟩ := own_ty (h.ens x hx) _ hk
      obtain ⟨cur', hc'⟩ := own_ty h'.own _ hv
      exact absurd (blk_uni hc hc') (by decide)
theorem info_rm : (Try.prog.info? tRM).map (fun i => (i.zero, i.size, i.bytes)) = some (some (.agg #[.int .i64 0, .int .i64 0, .int .i64 0, .int .i64 0, .int .i64 0, .int .i64 0, .int .i64 0, .bool false, .slice none 0 0, .int .i64 0, .int .i64 0, .int .i64 0, .string ⟨#[]⟩]), 13, 128) := by kernel_rfl
theorem cellA {W : World} {a : Addr} {v : Value} (h : W.cell? a = some v) : ∀ p : After W, p.world.cell? a = some v := cell_after (Rw.cell_lt h) h
end Go.Proofs.Ytgmenlfhkhdbdaa.Nt
end

section
/- NetPlays: the reference's Due. (Printed by mkRc7.py.) -/
namespace Go.Proofs.Ytgmenlfhkhdbdaa.Nt
open Go.RowKit Mem Nm Ra
open Ag (It)
set_option linter.unusedSimpArgs false
set_option linter.unusedVariables false
set_option maxRecDepth 100000

theorem take_snoc {α : Type} (l : List α) (j : Nat) (h : j < l.length) : l.take (j + 1) = l.take j ++ [l[j]] := by rw [List.take_add_one, List.getElem?_eq_getElem h]; rfl
theorem mid_snoc (cs : List Ri) (x : Ri) (k t : Nat) (h : k + t < cs.length) : cs.take k ++ [x] ++ (cs.drop k).take (t + 1) = cs.take k ++ [x] ++ (cs.drop k).take t ++ [cs[k + t]] := by
  rw [take_snoc (cs.drop k) t (by rw [List.length_drop]; omega), List.getElem_drop, List.append_assoc, List.append_assoc, List.append_assoc]
theorem drop_all (cs : List Ri) (k t : Nat) (h : k + t = cs.length) : (cs.drop k).take t = cs.drop k := List.take_of_length_le (by rw [List.length_drop]; omega)
def RDueP (vc : Value) (last : Int) (xs : List Ri) (cl : List (Int × Int)) (now : Int) (w : World) (e : Ending) (w' : World) : Prop :=
  Mod w w' [] ∧ ∃ (vl' vo : Value) (cs : List Ri), e = .returned (.tuple #[rnV vl' last vc, vo]) ∧ RIt w.heap.size w' vl' (leftF xs now) ∧ RMs w.heap.size w' vo (outR cl cs) ∧ CS cs xs now
set_option maxHeartbeats 64000000 in
theorem rdue_calls (base : Nat) (w : World) (vl vc : Value) (last : Int) (xs : List Ri) (cl : List (Int × Int)) (now : Int) (h : RIt base w vl xs) (hc : PairsV w vc cl) (hcn : cl.length ≤ 100000) (hxn : xs.length ≤ 100000) (hids : xs.Pairwise (fun a b => a.id < b.id)) :
    Calls Try.prog 46 #[rnV vl last vc, .int .i64 now] w (RDueP vc last xs cl now w) := by
  obtain ⟨i0, hi0, hz0, hz1, hz2⟩ := info_parts info_ri
  obtain ⟨m0, hm0, mz0, mz1, mz2⟩ := info_parts info_rm
  have HPV := Lib.hid hc
  have HIDS := Lib.hid hids
  obtain ⟨la, lc, rfl⟩ := Rw.own_slice h.own
  obtain ⟨ca, cc, rfl, hcd, hce⟩ := hc
  clear hcd hce hids
  have HP : Hid (∀ e w', (Mod w w' [] ∧ ∃ (vl' vo : Value) (cs : List Ri), e = .returned (.tuple #[rnV vl' last (.slice ca cl.length cc), vo]) ∧ RIt w.heap.size w' vl' (leftF xs now) ∧ RMs w.heap.size w' vo (outR cl cs) ∧ CS cs xs now) → RDueP (.slice ca cl.length cc) last xs cl now w e w') := Lib.hid (fun _ _ h => h)
  generalize RDueP (.slice ca cl.length cc) last xs cl now w = SP at *
  show Calls _ _ #[.agg #[.slice la xs.length lc, .int .i64 last, .slice ca cl.length cc], _] _ _
  have HMM := Lib.hid (((Mod.refl w []).alloc (.cells #[.slice la xs.length lc, .int .i64 last, .slice ca cl.length cc] 49)).alloc (.cells #[.slice none 0 0, .int .i64 0, .slice none 0 0] 49))
  have HB := Lib.hid ((Blk.new w #[.slice la xs.length lc, .int .i64 last, .slice ca cl.length cc] 49).alloc (.cells #[.slice none 0 0, .int .i64 0, .slice none 0 0] 49))
  have hr0 := Blk.new (w.alloc (.cells #[.slice la xs.length lc, .int .i64 last, .slice ca cl.length cc] 49)) #[.slice none 0 0, .int .i64 0, .slice none 0 0] 49
  simp only [World.size_alloc] at hr0
  have HR := Lib.hid hr0
  clear hr0
  have HI := Lib.hid (h.mod HMM.out)
  clear h
  go_enter Try.func46, Try.ntmps46
  go_upto_region 1 with (fail)
  generalize (w.alloc _).alloc _ = w3 at *
  have h03 : w.heap.size ≤ w3.heap.size := HMM.out.size
  go_upto_region 3 with (fail)
  go_loopw [6, 7, 8] (fun vk vf vi wr => ∃ (i : Nat) (cs ls : List Ri), vi = .int .i64 (i : Int) ∧ i ≤ xs.length ∧ CS cs (xs.take i) now ∧ ls = leftF (xs.take i) now ∧ Mod w3 wr [] ∧ RIt w3.heap.size wr vk cs ∧ RIt w3.heap.size wr vf ls ∧ (∀ k, vk.ownBlock = some k → vf.ownBlock ≠ some k) ∧ cs.length ≤ i ∧ ls.length ≤ i) (fun _ _ vi _ => xs.length + 1 - (intOf vi).toNat)
  case atStart => exact ⟨0, [], [], rfl, Nat.zero_le _, CS.nil now, rfl, Mod.refl _ _, RIt.nil _ _, RIt.nil _ _, fun k hk => (by cases hk), Nat.zero_le _, Nat.zero_le _⟩
  case round =>
    obtain ⟨i, cs, ls, rfl, hi, hcs, hls, hm, hk6, hk7, hne, hcl, hll⟩ := hrel
    have HCS := Lib.hid hcs
    have HLS := Lib.hid hls
    have HM := Lib.hid hm
    have HK := Lib.hid hk6
    have HF := Lib.hid hk7
    have HNE := Lib.hid hne
    have n0 := (HB.out.mod hm (by simp)).cell 0
    have HIr := Lib.hid (HI.out.mod hm)
    have hbr := hm.size
    clear hm hk6 hk7 hne hcs hls
    by_cases hlt : i < xs.length
    · have hlt' : (i : Int) < xs.length := by omega
      have HTK := Lib.hid (take_snoc xs i hlt)
      have HLT : Hid (∀ y ∈ xs.take i, y.id < (xs[i]'hlt).id) := Lib.hid (fun y hy => by
        obtain ⟨j, hj, rfl⟩ := List.getElem_of_mem hy
        rw [List.length_take] at hj
        rw [List.getElem_take]
        exact List.pairwise_iff_getElem.1 HIDS.out j i (by omega) hlt (by omega))
      obtain ⟨gb, gbc, gbv, gbe, gbs⟩ := HIr.out.cell hlt
      cases gbv
      have e0 := gbs 0 (by decide)
      have e1 := gbs 1 (by decide)
      have e2 := gbs 2 (by decide)
      have e3 := gbs 3 (by decide)
      have e4 := gbs 4 (by decide)
      have e5 := gbs 5 (by decide)
      have e6 := gbs 6 (by decide)
      have e7 := gbs 7 (by decide)
      have e8 := gbs 8 (by decide)
      have e9 := gbs 9 (by decide)
      have e10 := gbs 10 (by decide)
      have e11 := gbs 11 (by decide)
      have e12 := gbs 12 (by decide)
      have e13 := gbs 13 (by decide)
      have e14 := gbs 14 (by decide)
      have HEU := Lib.hid (HIr.out.ens _ (List.getElem_mem hlt))
      clear gbs
      generalize xs[i]'hlt = x at *
      obtain ⟨x0, x1, ⟨kk, kf, kd, kt, ki, kl, kc0, ky, ks, ksi, kst, ksm, ksx⟩, xu⟩ := x
      rw [Nat.add_zero] at e0
      simp only [riC, msC] at e0 e1 e2 e3 e4 e5 e6 e7 e8 e9 e10 e11 e12 e13 e14
      simp only [List.cons_append, List.nil_append, List.getElem?_cons_zero, List.getElem?_cons_succ] at e0 e1 e2 e3 e4 e5 e6 e7 e8 e9 e10 e11 e12 e13 e14
      simp only at HEU
      obtain ⟨ea, ec, rfl⟩ := Rw.own_slice HEU.out
      simp only at HLT
      by_cases hx : now < x0
      · have HFo : Hid (wr.ownsRow w3.heap.size tRI 15 u7 ls.length (rowsR ls)) := Lib.hid HF.out.own
        have HAP : Hid (∀ B gg gcap, (wr.alloc (.cells #[.int .i64 x0, .int .i64 x1, .int .i64 kk, .int .i64 kf, .int .i64 kd, .int .i64 kt, .int .i64 ki, .int .i64 kl, .int .i64 kc0, .bool ky, .slice ea ks.length ec, .int .i64 ksi, .int .i64 kst, .int .i64 ksm, .string ksx] tRI)).grownBy B u7.ownBlock → B.ownsRow w3.heap.size tRI 15 (.slice (some ⟨gg, 0, none⟩) (ls.length + 1) gcap) (ls.length + 1) (rowsR ls ++ [.int .i64 x0, .int .i64 x1, .int .i64 kk, .int .i64 kf, .int .i64 kd, .int .i64 kt, .int .i64 ki, .int .i64 kl, .int .i64 kc0, .bool ky, .slice ea ks.length ec, .int .i64 ksi, .int .i64 kst, .int .i64 ksm, .string ksx]) → RIt w3.heap.size B (.slice (some ⟨gg, 0, none⟩) (ls.length + 1) gcap) (ls ++ [⟨x0, x1, ⟨kk, kf, kd, kt, ki, kl, kc0, ky, ks, ksi, kst, ksm, ksx⟩, .slice ea ks.length ec⟩])) := Lib.hid (fun B gg gcap h1 h2 => by
          exact (HF.out.mod ((Mod.refl wr []).alloc _)).app (x := ⟨x0, x1, ⟨kk, kf, kd, kt, ki, kl, kc0, ky, ks, ksi, kst, ksm, ksx⟩, .slice ea ks.length ec⟩) (own_mod HEU.out ((Mod.refl wr []).alloc _) (by simp)) h1 h2)
        have HSEP : Hid (∀ gg n c, (u7.ownBlock = some gg ∨ gg = wr.heap.size + 1) → ∀ k, u6.ownBlock = some k → (Value.slice (some ⟨gg, 0, none⟩) n c).ownBlock ≠ some k) := Lib.hid (fun gg n c h1 k hk he => by
          have hkl := Rw.own_lt HK.out.own k hk
          have he2 : gg = k := by simpa [Value.ownBlock] using he
          rcases h1 with h1 | h1
          · rw [he2] at h1; exact HNE.out _ hk h1
          · omega)
        have HKf : Hid (∀ B, (wr.alloc (.cells #[.int .i64 x0, .int .i64 x1, .int .i64 kk, .int .i64 kf, .int .i64 kd, .int .i64 kt, .int .i64 ki, .int .i64 kl, .int .i64 kc0, .bool ky, .slice ea ks.length ec, .int .i64 ksi, .int .i64 kst, .int .i64 ksm, .string ksx] tRI)).grownBy B u7.ownBlock → RIt w3.heap.size B u6 cs) := Lib.hid (fun B h1 => (HK.out.mod ((Mod.refl wr []).alloc _)).far (HF.out.mod ((Mod.refl wr []).alloc _)) h1 HNE.out)
        have HFa := Lib.hid (HFo.out.alloc (.cells #[.int .i64 x0, .int .i64 x1, .int .i64 kk, .int .i64 kf, .int .i64 kd, .int .i64 kt, .int .i64 ki, .int .i64 kl, .int .i64 kc0, .bool ky, .slice ea ks.length ec, .int .i64 ksi, .int .i64 kst, .int .i64 ksm, .string ksx] tRI))
        have HMa := Lib.hid (HM.out.alloc (.cells #[.int .i64 x0, .int .i64 x1, .int .i64 kk, .int .i64 kf, .int .i64 kd, .int .i64 kt, .int .i64 ki, .int .i64 kl, .int .i64 kc0, .bool ky, .slice ea ks.length ec, .int .i64 ksi, .int .i64 kst, .int .i64 ksm, .string ksx] tRI))
        have HCN : Hid (CS cs (xs.take (i + 1)) now) := Lib.hid (by rw [HTK.out]; exact HCS.out.skip hx)
        have HLN : Hid (ls ++ [⟨x0, x1, ⟨kk, kf, kd, kt, ki, kl, kc0, ky, ks, ksi, kst, ksm, ksx⟩, .slice ea ks.length ec⟩] = leftF (xs.take (i + 1)) now) := Lib.hid (by rw [HTK.out, leftF_snoc, if_pos hx, ← HLS.out])
        clear HEU HK HF HCS HLS HTK HLT HNE HFo
        go_wp2_with (at_builtin; refine wpList_append_lies _ rfl _ _ 47 rfl w3.heap.size tRI i0 _ 15 144 Try.underlying47 hi0 hz0 hz1 hz2 rfl (by decide) u7 ls.length (rowsR ls) rfl HFa.out ⟨wr.heap.size, 0, none⟩ 1 1 [.int .i64 x0, .int .i64 x1, .int .i64 kk, .int .i64 kf, .int .i64 kd, .int .i64 kt, .int .i64 ki, .int .i64 kl, .int .i64 kc0, .bool ky, .slice ea ks.length ec, .int .i64 ksi, .int .i64 kst, .int .i64 ksm, .string ksx] rfl rfl (World.news_of_block (cs := #[.int .i64 x0, .int .i64 x1, .int .i64 kk, .int .i64 kf, .int .i64 kd, .int .i64 kt, .int .i64 ki, .int .i64 kl, .int .i64 kc0, .bool ky, .slice ea ks.length ec, .int .i64 ksi, .int .i64 kst, .int .i64 ksm, .string ksx]) (t := tRI) (fr := (0, 0)) (heap_alloc_new wr _)) (by simp [Value.oneCell']) (by omega) (by unfold maxLen; omega) (by omega) (by simp; omega) (wr.heap.size + 1) (by simp) ?_; intro gg gcap w55 hown5 hgrow hat hlt5; have HO55 := Lib.hid (HAP.out w55 gg gcap hgrow hown5); have HM55 := Lib.hid (HMa.out.grown hgrow (fun k hk => .inr (own_ge HFa.out k hk))); have HK55 := Lib.hid (HKf.out w55 hgrow); have HN55 := Lib.hid (HSEP.out gg (ls.length + 1) gcap hat); clear hown5 hgrow hat hlt5)
        exact ⟨⟨i + 1, cs, _, rfl, by omega, HCN.out, HLN.out, HM55.out, HK55.out, HO55.out, HN55.out, by omega, by simp; omega⟩, by simp only [intOf]; omega⟩
      · have HLN : Hid (ls = leftF (xs.take (i + 1)) now) := Lib.hid (by rw [HTK.out, leftF_snoc, if_neg hx]; exact HLS.out)
        have HCN : Hid (∀ k : Nat, (∀ j (hj : j < cs.length), k ≤ j → x0 < cs[j].at_) → (k = 0 ∨ ∃ h : k - 1 < cs.length, cs[k - 1].at_ ≤ x0) → CS (cs.take k ++ [⟨x0, x1, ⟨kk, kf, kd, kt, ki, kl, kc0, ky, ks, ksi, kst, ksm, ksx⟩, .slice ea ks.length ec⟩] ++ cs.drop k) (xs.take (i + 1)) now) := Lib.hid (fun k h1 h2 => by rw [HTK.out]; exact HCS.out.ins (x := ⟨x0, x1, ⟨kk, kf, kd, kt, ki, kl, kc0, ky, ks, ksi, kst, ksm, ksx⟩, .slice ea ks.length ec⟩) hx HLT.out h1 h2)
        clear HTK HLT HLS HCS
        obtain ⟨da, dc, rfl⟩ := Rw.own_slice HK.out.own
        go_upto_region 8 with (fail)
        have hcl' : cs.length ≤ 100000 := by omega
        obtain ⟨wo, hwo⟩ : ∃ wo, wo = wr := ⟨_, rfl⟩
        subst hwo
        clear n0
        go_loopw [9] (fun vk wr => ∃ k : Nat, vk = .int .i64 (k : Int) ∧ k ≤ cs.length ∧ Mod wo wr [] ∧ Hid (∀ j (hj : j < cs.length), k ≤ j → x0 < cs[j].at_)) (fun vk _ => (intOf vk).toNat)
        case atStart => exact ⟨cs.length, rfl, Nat.le_refl _, Mod.refl _ _, Lib.hid (fun j hj h => by omega)⟩
        case round =>
          obtain ⟨k, rfl, hk, hmk, HGT⟩ := hrel
          have HMk := Lib.hid hmk
          clear hmk
          have HBk := Lib.hid ((HB.out.mod HM.out (by simp)).mod HMk.out (by simp))
          have n0 := cellA (HBk.out.cell 0)
          rcases Nat.eq_zero_or_pos k with hk0 | hkp
          · subst hk0
            have HCI := Lib.hid (HCN.out 0 HGT.out (.inl rfl))
            go_upto_region 8 with (fail)
            (refine wp_region_quiet_after (by kernel_rfl) (by kernel_rfl) ?_; (repeat (go_big_quiet_step (fail))); refine wpQuiet_nil ?_; intro wq hw'; obtain ⟨⟨wq2, hmq⟩, hw''⟩ := hw'; subst hw'')
            go_upto_region 10 with (fail)
            have HMq := Lib.hid (HMk.out.trans0 hmq)
            clear hmq
            have hoq : wo.heap.size ≤ wq.heap.size := HMq.out.size
            have HKq := Lib.hid (HK.out.mod HMq.out)
            have HBq := Lib.hid ((HB.out.mod HM.out (by simp)).mod HMq.out (by simp))
            have HIq := Lib.hid (HIr.out.mod HMq.out)
            have HEQ := Lib.hid (own_mod HEU.out HMq.out (by simp))
            replace e0 := keepC HMq.out e0
            replace e1 := keepC HMq.out e1
            replace e2 := keepC HMq.out e2
            replace e3 := keepC HMq.out e3
            replace e4 := keepC HMq.out e4
            replace e5 := keepC HMq.out e5
            replace e6 := keepC HMq.out e6
            replace e7 := keepC HMq.out e7
            replace e8 := keepC HMq.out e8
            replace e9 := keepC HMq.out e9
            replace e10 := keepC HMq.out e10
            replace e11 := keepC HMq.out e11
            replace e12 := keepC HMq.out e12
            replace e13 := keepC HMq.out e13
            replace e14 := keepC HMq.out e14
            clear n0
            go_upto_region 12 with (fail)
            go_loopw [10, 11] (fun vm vj wr => ∃ j : Nat, vj = .int .i64 (j : Int) ∧ j ≤ 0 ∧ Mod wq wr [] ∧ RIt wq.heap.size wr vm (cs.take j)) (fun _ vj _ => 1 - (intOf vj).toNat)
            case atStart => exact ⟨0, rfl, Nat.zero_le _, Mod.refl _ _, by rw [List.take_zero]; exact RIt.nil _ _⟩
            case round =>
              obtain ⟨j, rfl, hj, hmj, hoj⟩ := hrel
              have HMj := Lib.hid hmj
              have HOj := Lib.hid hoj
              have hqr := hmj.size
              clear hmj hoj
              by_cases hjk : j < 0
              · exact absurd hjk (by omega)
              · obtain rfl : j = 0 := by omega
                have n0 := (HBq.out.mod HMj.out (by simp)).cell 0
                have HEJ := Lib.hid (own_mod HEQ.out HMj.out (by simp))
                replace e0 := keepC HMj.out e0
                replace e1 := keepC HMj.out e1
                replace e2 := keepC HMj.out e2
                replace e3 := keepC HMj.out e3
                replace e4 := keepC HMj.out e4
                replace e5 := keepC HMj.out e5
                replace e6 := keepC HMj.out e6
                replace e7 := keepC HMj.out e7
                replace e8 := keepC HMj.out e8
                replace e9 := keepC HMj.out e9
                replace e10 := keepC HMj.out e10
                replace e11 := keepC HMj.out e11
                replace e12 := keepC HMj.out e12
                replace e13 := keepC HMj.out e13
                replace e14 := keepC HMj.out e14
                have HOi : Hid (wr.ownsRow wq.heap.size tRI 15 u10 (0) (rowsR (cs.take (0)))) := Lib.hid (by have h := HOj.out.own; rw [List.length_take, Nat.min_eq_left (by omega)] at h; exact h)
                have HAP : Hid (∀ B gg gcap, (wr.alloc (.cells #[.int .i64 x0, .int .i64 x1, .int .i64 kk, .int .i64 kf, .int .i64 kd, .int .i64 kt, .int .i64 ki, .int .i64 kl, .int .i64 kc0, .bool ky, .slice ea ks.length ec, .int .i64 ksi, .int .i64 kst, .int .i64 ksm, .string ksx] tRI)).grownBy B u10.ownBlock → B.ownsRow wq.heap.size tRI 15 (.slice (some ⟨gg, 0, none⟩) (1) gcap) (1) (rowsR (cs.take (0)) ++ [.int .i64 x0, .int .i64 x1, .int .i64 kk, .int .i64 kf, .int .i64 kd, .int .i64 kt, .int .i64 ki, .int .i64 kl, .int .i64 kc0, .bool ky, .slice ea ks.length ec, .int .i64 ksi, .int .i64 kst, .int .i64 ksm, .string ksx]) → RIt wq.heap.size B (.slice (some ⟨gg, 0, none⟩) (1) gcap) (cs.take (0) ++ [(⟨x0, x1, ⟨kk, kf, kd, kt, ki, kl, kc0, ky, ks, ksi, kst, ksm, ksx⟩, .slice ea ks.length ec⟩ : Ri)])) := Lib.hid (fun B gg gcap h1 h2 => by
                  exact (HOj.out.mod ((Mod.refl wr []).alloc _)).app (x := ⟨x0, x1, ⟨kk, kf, kd, kt, ki, kl, kc0, ky, ks, ksi, kst, ksm, ksx⟩, .slice ea ks.length ec⟩) (own_mod HEJ.out ((Mod.refl wr []).alloc _) (by simp)) h1 (by rw [List.length_take, Nat.min_eq_left (by omega)]; exact h2))
                have HOa := Lib.hid (HOi.out.alloc (.cells #[.int .i64 x0, .int .i64 x1, .int .i64 kk, .int .i64 kf, .int .i64 kd, .int .i64 kt, .int .i64 ki, .int .i64 kl, .int .i64 kc0, .bool ky, .slice ea ks.length ec, .int .i64 ksi, .int .i64 kst, .int .i64 ksm, .string ksx] tRI))
                have HMa := Lib.hid (HMj.out.alloc (.cells #[.int .i64 x0, .int .i64 x1, .int .i64 kk, .int .i64 kf, .int .i64 kd, .int .i64 kt, .int .i64 ki, .int .i64 kl, .int .i64 kc0, .bool ky, .slice ea ks.length ec, .int .i64 ksi, .int .i64 kst, .int .i64 ksm, .string ksx] tRI))
                clear HEJ HOj
                go_upto_region 15 with (fail)
                go_upto_region 16 with (at_builtin; refine wpList_append_lies _ rfl _ _ 47 rfl wq.heap.size tRI i0 _ 15 144 Try.underlying47 hi0 hz0 hz1 hz2 rfl (by decide) u10 (0) (rowsR (cs.take (0))) rfl HOa.out ⟨wr.heap.size, 0, none⟩ 1 1 [.int .i64 x0, .int .i64 x1, .int .i64 kk, .int .i64 kf, .int .i64 kd, .int .i64 kt, .int .i64 ki, .int .i64 kl, .int .i64 kc0, .bool ky, .slice ea ks.length ec, .int .i64 ksi, .int .i64 kst, .int .i64 ksm, .string ksx] rfl rfl (World.news_of_block (cs := #[.int .i64 x0, .int .i64 x1, .int .i64 kk, .int .i64 kf, .int .i64 kd, .int .i64 kt, .int .i64 ki, .int .i64 kl, .int .i64 kc0, .bool ky, .slice ea ks.length ec, .int .i64 ksi, .int .i64 kst, .int .i64 ksm, .string ksx]) (t := tRI) (fr := (0, 0)) (heap_alloc_new wr _)) (by simp [Value.oneCell']) (by omega) (by unfold maxLen; omega) (by omega) (by simp; omega) (wr.heap.size + 1) (by simp) ?_; intro gg gcap w58 hown5 hgrow hat hlt5; have HO58 := Lib.hid (HAP.out w58 gg gcap hgrow hown5); have HM58 := Lib.hid (HMa.out.grown hgrow (fun k hk => .inr (own_ge HOa.out k hk))); clear hown5 hgrow hat hlt5)
                clear n0 e0 e1 e2 e3 e4 e5 e6 e7 e8 e9 e10 e11 e12 e13 e14 HAP HOa HMa
                go_upto_region 17 with (fail)
                have HO8 := HO58
                have HM8 := HM58
                clear HO58 HM58 HOi HMj
                go_loopw [10, 12] (fun vm vj wr => ∃ t : Nat, vj = .int .i64 ((t : Nat) : Int) ∧ t ≤ cs.length ∧ Mod wq wr [] ∧ RIt wq.heap.size wr vm ([(⟨x0, x1, ⟨kk, kf, kd, kt, ki, kl, kc0, ky, ks, ksi, kst, ksm, ksx⟩, .slice ea ks.length ec⟩ : Ri)] ++ cs.take t)) (fun _ vj _ => cs.length + 1 - (intOf vj).toNat)
                case atStart => exact ⟨0, by first | rfl | (congr 1; omega), by omega, HM8.out, HO8.out⟩
                case round =>
                  obtain ⟨t, rfl, ht, hmt, hot⟩ := hrel
                  have HMt := Lib.hid hmt
                  have HOt := Lib.hid hot
                  have hqt := hmt.size
                  clear hmt hot
                  have hln : ([(⟨x0, x1, ⟨kk, kf, kd, kt, ki, kl, kc0, ky, ks, ksi, kst, ksm, ksx⟩, .slice ea ks.length ec⟩ : Ri)] ++ cs.take t).length = 1 + t := by rw [List.length_append, List.length_take, Nat.min_eq_left (by omega)]; rfl
                  have HLN2 := Lib.hid hln
                  clear hln
                  by_cases htc : t < cs.length
                  · have htc' : ((t : Nat) : Int) < cs.length := by omega
                    have HKj := Lib.hid (HKq.out.mod HMt.out)
                    have HTJ := Lib.hid (show [(⟨x0, x1, ⟨kk, kf, kd, kt, ki, kl, kc0, ky, ks, ksi, kst, ksm, ksx⟩, .slice ea ks.length ec⟩ : Ri)] ++ cs.take (t + 1) = [(⟨x0, x1, ⟨kk, kf, kd, kt, ki, kl, kc0, ky, ks, ksi, kst, ksm, ksx⟩, .slice ea ks.length ec⟩ : Ri)] ++ cs.take t ++ [cs[t]'htc] from by rw [take_snoc cs t htc, List.append_assoc])
                    have HOi : Hid (wr.ownsRow wq.heap.size tRI 15 u10 (1 + t) (rowsR ([(⟨x0, x1, ⟨kk, kf, kd, kt, ki, kl, kc0, ky, ks, ksi, kst, ksm, ksx⟩, .slice ea ks.length ec⟩ : Ri)] ++ cs.take t))) := Lib.hid (by have h := HOt.out.own; rw [HLN2.out] at h; exact h)
                    obtain ⟨gj, gjc, gjv, gje, gjs⟩ := HKj.out.cell htc
                    cases gjv
                    have c0 := gjs 0 (by decide)
                    have c1 := gjs 1 (by decide)
                    have c2 := gjs 2 (by decide)
                    have c3 := gjs 3 (by decide)
                    have c4 := gjs 4 (by decide)
                    have c5 := gjs 5 (by decide)
                    have c6 := gjs 6 (by decide)
                    have c7 := gjs 7 (by decide)
                    have c8 := gjs 8 (by decide)
                    have c9 := gjs 9 (by decide)
                    have c10 := gjs 10 (by decide)
                    have c11 := gjs 11 (by decide)
                    have c12 := gjs 12 (by decide)
                    have c13 := gjs 13 (by decide)
                    have c14 := gjs 14 (by decide)
                    have HEJ := Lib.hid (HKj.out.ens _ (List.getElem_mem htc))
                    clear gjs
                    generalize cs[t]'htc = yx at *
                    obtain ⟨yx0, yx1, ⟨ykk, ykf, ykd, ykt, yki, ykl, ykc0, yky, yks, yksi, ykst, yksm, yksx⟩, yxu⟩ := yx
                    rw [Nat.add_zero] at c0
                    simp only [riC, msC] at c0 c1 c2 c3 c4 c5 c6 c7 c8 c9 c10 c11 c12 c13 c14
                    simp only [List.cons_append, List.nil_append, List.getElem?_cons_zero, List.getElem?_cons_succ] at c0 c1 c2 c3 c4 c5 c6 c7 c8 c9 c10 c11 c12 c13 c14
                    simp only at HEJ
                    obtain ⟨yea, yec, rfl⟩ := Rw.own_slice HEJ.out
                    have HAP : Hid (∀ B gg gcap, (wr.alloc (.cells #[.int .i64 yx0, .int .i64 yx1, .int .i64 ykk, .int .i64 ykf, .int .i64 ykd, .int .i64 ykt, .int .i64 yki, .int .i64 ykl, .int .i64 ykc0, .bool yky, .slice yea yks.length yec, .int .i64 yksi, .int .i64 ykst, .int .i64 yksm, .string yksx] tRI)).grownBy B u10.ownBlock → B.ownsRow wq.heap.size tRI 15 (.slice (some ⟨gg, 0, none⟩) (1 + t + 1) gcap) (1 + t + 1) (rowsR ([(⟨x0, x1, ⟨kk, kf, kd, kt, ki, kl, kc0, ky, ks, ksi, kst, ksm, ksx⟩, .slice ea ks.length ec⟩ : Ri)] ++ cs.take t) ++ [.int .i64 yx0, .int .i64 yx1, .int .i64 ykk, .int .i64 ykf, .int .i64 ykd, .int .i64 ykt, .int .i64 yki, .int .i64 ykl, .int .i64 ykc0, .bool yky, .slice yea yks.length yec, .int .i64 yksi, .int .i64 ykst, .int .i64 yksm, .string yksx]) → RIt wq.heap.size B (.slice (some ⟨gg, 0, none⟩) (1 + t + 1) gcap) ([(⟨x0, x1, ⟨kk, kf, kd, kt, ki, kl, kc0, ky, ks, ksi, kst, ksm, ksx⟩, .slice ea ks.length ec⟩ : Ri)] ++ cs.take (t + 1))) := Lib.hid (fun B gg gcap h1 h2 => by
                      rw [HTJ.out]
                      exact (HOt.out.mod ((Mod.refl wr []).alloc _)).app (x := ⟨yx0, yx1, ⟨ykk, ykf, ykd, ykt, yki, ykl, ykc0, yky, yks, yksi, ykst, yksm, yksx⟩, .slice yea yks.length yec⟩) (own_mod HEJ.out ((Mod.refl wr []).alloc _) (by simp)) h1 (by rw [HLN2.out]; exact h2))
                    have HOa := Lib.hid (HOi.out.alloc (.cells #[.int .i64 yx0, .int .i64 yx1, .int .i64 ykk, .int .i64 ykf, .int .i64 ykd, .int .i64 ykt, .int .i64 yki, .int .i64 ykl, .int .i64 ykc0, .bool yky, .slice yea yks.length yec, .int .i64 yksi, .int .i64 ykst, .int .i64 yksm, .string yksx] tRI))
                    have HMa := Lib.hid (HMt.out.alloc (.cells #[.int .i64 yx0, .int .i64 yx1, .int .i64 ykk, .int .i64 ykf, .int .i64 ykd, .int .i64 ykt, .int .i64 yki, .int .i64 ykl, .int .i64 ykc0, .bool yky, .slice yea yks.length yec, .int .i64 yksi, .int .i64 ykst, .int .i64 yksm, .string yksx] tRI))
                    clear HEJ HTJ HOt
                    go_wp2_with (at_builtin; refine wpList_append_lies _ rfl _ _ 47 rfl wq.heap.size tRI i0 _ 15 144 Try.underlying47 hi0 hz0 hz1 hz2 rfl (by decide) u10 (1 + t) (rowsR ([(⟨x0, x1, ⟨kk, kf, kd, kt, ki, kl, kc0, ky, ks, ksi, kst, ksm, ksx⟩, .slice ea ks.length ec⟩ : Ri)] ++ cs.take t)) rfl HOa.out ⟨wr.heap.size, 0, none⟩ 1 1 [.int .i64 yx0, .int .i64 yx1, .int .i64 ykk, .int .i64 ykf, .int .i64 ykd, .int .i64 ykt, .int .i64 yki, .int .i64 ykl, .int .i64 ykc0, .bool yky, .slice yea yks.length yec, .int .i64 yksi, .int .i64 ykst, .int .i64 yksm, .string yksx] rfl rfl (World.news_of_block (cs := #[.int .i64 yx0, .int .i64 yx1, .int .i64 ykk, .int .i64 ykf, .int .i64 ykd, .int .i64 ykt, .int .i64 yki, .int .i64 ykl, .int .i64 ykc0, .bool yky, .slice yea yks.length yec, .int .i64 yksi, .int .i64 ykst, .int .i64 yksm, .string yksx]) (t := tRI) (fr := (0, 0)) (heap_alloc_new wr _)) (by simp [Value.oneCell']) (by omega) (by unfold maxLen; omega) (by omega) (by simp; omega) (wr.heap.size + 1) (by simp) ?_; intro gg gcap w59 hown5 hgrow hat hlt5; have HO59 := Lib.hid (HAP.out w59 gg gcap hgrow hown5); have HM59 := Lib.hid (HMa.out.grown hgrow (fun k hk => .inr (own_ge HOa.out k hk))); clear hown5 hgrow hat hlt5)
                    exact ⟨⟨t + 1, by first | rfl | (congr 1; omega), by omega, HM59.out, HO59.out⟩, by simp only [intOf]; omega⟩
                  · have hte : t = cs.length := by omega
                    have HFL : Hid ([(⟨x0, x1, ⟨kk, kf, kd, kt, ki, kl, kc0, ky, ks, ksi, kst, ksm, ksx⟩, .slice ea ks.length ec⟩ : Ri)] ++ cs.take t = cs.take (0) ++ [(⟨x0, x1, ⟨kk, kf, kd, kt, ki, kl, kc0, ky, ks, ksi, kst, ksm, ksx⟩, .slice ea ks.length ec⟩ : Ri)] ++ cs.drop (0)) := Lib.hid (by rw [List.take_of_length_le (by omega)]; rfl)
                    have HOF : Hid (RIt w3.heap.size wr u10 (cs.take (0) ++ [(⟨x0, x1, ⟨kk, kf, kd, kt, ki, kl, kc0, ky, ks, ksi, kst, ksm, ksx⟩, .slice ea ks.length ec⟩ : Ri)] ++ cs.drop (0))) := Lib.hid (by have h := HOt.out.low (base' := w3.heap.size) (by omega); rw [HFL.out] at h; exact h)
                    have HLF : Hid ((cs.take (0) ++ [(⟨x0, x1, ⟨kk, kf, kd, kt, ki, kl, kc0, ky, ks, ksi, kst, ksm, ksx⟩, .slice ea ks.length ec⟩ : Ri)] ++ cs.drop (0)).length ≤ i + 1) := Lib.hid (by rw [← HFL.out, HLN2.out]; omega)
                    have HSP : Hid (∀ k, u10.ownBlock = some k → u7.ownBlock ≠ some k) := Lib.hid (fun k h1 h2 => by
                      have h3 := own_ge HOt.out.own k h1
                      have h4 := Rw.own_lt HF.out.own k h2
                      omega)
                    have hte' : ((t : Nat) : Int) = cs.length := by omega
                    have HTE := Lib.hid hte
                    have HTE2 : Hid (decide (((t : Nat) : Int) < cs.length) = false) := Lib.hid (decide_eq_false (by omega))
                    have HMF := Lib.hid (HM.out.trans0 (HMq.out.trans0 HMt.out))
                    have HFF := Lib.hid (HF.out.mod (HMq.out.trans0 HMt.out))
                    clear hte hte'
                    have hnt : ¬ ((t : Nat) : Int) < cs.length := by omega
                    clear HOt
                    go_wp2_with fail
                    exact ⟨⟨i + 1, _, ls, rfl, by omega, HCI.out, HLN.out, HMF.out, HOF.out, HFF.out, HSP.out, HLF.out, by omega⟩, by simp only [intOf]; omega⟩
          · obtain ⟨q, rfl⟩ : ∃ q, k = q + 1 := ⟨k - 1, by omega⟩
            have hq : q < cs.length := by omega
            have hq' : (q : Int) < cs.length := by omega
            have HKk := Lib.hid (HK.out.mod HMk.out)
            obtain ⟨gk, gkc, gkv, gke, gks⟩ := HKk.out.cell hq
            cases gkv
            have k0 := gks 0 (by decide)
            clear gks
            rw [Nat.add_zero] at k0
            simp only [riC] at k0
            simp only [List.cons_append, List.nil_append, List.getElem?_cons_zero] at k0
            have k0' := cellA k0
            have e0' := cellA (keepC HMk.out e0)
            have HG2 : Hid (x0 < (cs[q]'hq).at_ → ∀ j (hj : j < cs.length), q ≤ j → x0 < cs[j].at_) := Lib.hid (fun h j hj hqj => by
              by_cases e : j = q
              · subst e; exact h
              · exact HGT.out j hj (by omega))
            have HC2 : Hid (¬ x0 < (cs[q]'hq).at_ → CS (cs.take (q + 1) ++ [⟨x0, x1, ⟨kk, kf, kd, kt, ki, kl, kc0, ky, ks, ksi, kst, ksm, ksx⟩, .slice ea ks.length ec⟩] ++ cs.drop (q + 1)) (xs.take (i + 1)) now) := Lib.hid (fun h => HCN.out (q + 1) HGT.out (.inr ⟨hq, by show cs[q].at_ ≤ x0; omega⟩))
            clear k0
            generalize (cs[q]'hq).at_ = ya at *
            by_cases hy : x0 < ya
            · have HG3 := Lib.hid (HG2.out hy)
              go_upto_region 8 with (fail)
              (refine wp_region_quiet_after (by kernel_rfl) (by kernel_rfl) ?_; (repeat (go_big_quiet_step (fail))); refine wpQuiet_nil ?_; intro wq hw'; obtain ⟨⟨wq2, hmq⟩, hw''⟩ := hw'; subst hw'')
              have HMq := Lib.hid (HMk.out.trans0 hmq)
              clear hmq
              go_wp2_with fail
              exact ⟨⟨q, by first | rfl | (congr 1; omega), by omega, HMq.out, HG3⟩, by simp only [intOf]; omega⟩
            · have HCI := Lib.hid (HC2.out hy)
              go_upto_region 8 with (fail)
              (refine wp_region_quiet_after (by kernel_rfl) (by kernel_rfl) ?_; (repeat (go_big_quiet_step (fail))); refine wpQuiet_nil ?_; intro wq hw'; obtain ⟨⟨wq2, hmq⟩, hw''⟩ := hw'; subst hw'')
              go_upto_region 10 with (fail)
              have HMq := Lib.hid (HMk.out.trans0 hmq)
              clear hmq
              have hoq : wo.heap.size ≤ wq.heap.size := HMq.out.size
              have HKq := Lib.hid (HK.out.mod HMq.out)
              have HBq := Lib.hid ((HB.out.mod HM.out (by simp)).mod HMq.out (by simp))
              have HIq := Lib.hid (HIr.out.mod HMq.out)
              have HEQ := Lib.hid (own_mod HEU.out HMq.out (by simp))
              replace e0 := keepC HMq.out e0
              replace e1 := keepC HMq.out e1
              replace e2 := keepC HMq.out e2
              replace e3 := keepC HMq.out e3
              replace e4 := keepC HMq.out e4
              replace e5 := keepC HMq.out e5
              replace e6 := keepC HMq.out e6
              replace e7 := keepC HMq.out e7
              replace e8 := keepC HMq.out e8
              replace e9 := keepC HMq.out e9
              replace e10 := keepC HMq.out e10
              replace e11 := keepC HMq.out e11
              replace e12 := keepC HMq.out e12
              replace e13 := keepC HMq.out e13
              replace e14 := keepC HMq.out e14
              clear n0 k0' e0'
              go_upto_region 12 with (fail)
              go_loopw [10, 11] (fun vm vj wr => ∃ j : Nat, vj = .int .i64 (j : Int) ∧ j ≤ q + 1 ∧ Mod wq wr [] ∧ RIt wq.heap.size wr vm (cs.take j)) (fun _ vj _ => q + 1 + 1 - (intOf vj).toNat)
              case atStart => exact ⟨0, rfl, Nat.zero_le _, Mod.refl _ _, by rw [List.take_zero]; exact RIt.nil _ _⟩
              case round =>
                obtain ⟨j, rfl, hj, hmj, hoj⟩ := hrel
                have HMj := Lib.hid hmj
                have HOj := Lib.hid hoj
                have hqr := hmj.size
                clear hmj hoj
                by_cases hjk : j < q + 1
                · have hjk' : (j : Int) < (q : Int) + 1 := by omega
                  have hjc : j < cs.length := by omega
                  have hjc' : (j : Int) < cs.length := by omega
                  have HKj := Lib.hid (HKq.out.mod HMj.out)
                  have HTJ := Lib.hid (take_snoc cs j hjc)
                  have HOi : Hid (wr.ownsRow wq.heap.size tRI 15 u10 j (rowsR (cs.take j))) := Lib.hid (by have h := HOj.out.own; rw [List.length_take, Nat.min_eq_left (by omega)] at h; exact h)
                  clear e0 e1 e2 e3 e4 e5 e6 e7 e8 e9 e10 e11 e12 e13 e14
                  obtain ⟨gj, gjc, gjv, gje, gjs⟩ := HKj.out.cell hjc
                  cases gjv
                  have c0 := gjs 0 (by decide)
                  have c1 := gjs 1 (by decide)
                  have c2 := gjs 2 (by decide)
                  have c3 := gjs 3 (by decide)
                  have c4 := gjs 4 (by decide)
                  have c5 := gjs 5 (by decide)
                  have c6 := gjs 6 (by decide)
                  have c7 := gjs 7 (by decide)
                  have c8 := gjs 8 (by decide)
                  have c9 := gjs 9 (by decide)
                  have c10 := gjs 10 (by decide)
                  have c11 := gjs 11 (by decide)
                  have c12 := gjs 12 (by decide)
                  have c13 := gjs 13 (by decide)
                  have c14 := gjs 14 (by decide)
                  have HEJ := Lib.hid (HKj.out.ens _ (List.getElem_mem hjc))
                  clear gjs
                  generalize cs[j]'hjc = yx at *
                  obtain ⟨yx0, yx1, ⟨ykk, ykf, ykd, ykt, yki, ykl, ykc0, yky, yks, yksi, ykst, yksm, yksx⟩, yxu⟩ := yx
                  rw [Nat.add_zero] at c0
                  simp only [riC, msC] at c0 c1 c2 c3 c4 c5 c6 c7 c8 c9 c10 c11 c12 c13 c14
                  simp only [List.cons_append, List.nil_append, List.getElem?_cons_zero, List.getElem?_cons_succ] at c0 c1 c2 c3 c4 c5 c6 c7 c8 c9 c10 c11 c12 c13 c14
                  simp only at HEJ
                  obtain ⟨yea, yec, rfl⟩ := Rw.own_slice HEJ.out
                  have HAP : Hid (∀ B gg gcap, (wr.alloc (.cells #[.int .i64 yx0, .int .i64 yx1, .int .i64 ykk, .int .i64 ykf, .int .i64 ykd, .int .i64 ykt, .int .i64 yki, .int .i64 ykl, .int .i64 ykc0, .bool yky, .slice yea yks.length yec, .int .i64 yksi, .int .i64 ykst, .int .i64 yksm, .string yksx] tRI)).grownBy B u10.ownBlock → B.ownsRow wq.heap.size tRI 15 (.slice (some ⟨gg, 0, none⟩) (j + 1) gcap) (j + 1) (rowsR (cs.take j) ++ [.int .i64 yx0, .int .i64 yx1, .int .i64 ykk, .int .i64 ykf, .int .i64 ykd, .int .i64 ykt, .int .i64 yki, .int .i64 ykl, .int .i64 ykc0, .bool yky, .slice yea yks.length yec, .int .i64 yksi, .int .i64 ykst, .int .i64 yksm, .string yksx]) → RIt wq.heap.size B (.slice (some ⟨gg, 0, none⟩) (j + 1) gcap) (cs.take (j + 1))) := Lib.hid (fun B gg gcap h1 h2 => by
                    rw [HTJ.out]
                    exact (HOj.out.mod ((Mod.refl wr []).alloc _)).app (x := ⟨yx0, yx1, ⟨ykk, ykf, ykd, ykt, yki, ykl, ykc0, yky, yks, yksi, ykst, yksm, yksx⟩, .slice yea yks.length yec⟩) (own_mod HEJ.out ((Mod.refl wr []).alloc _) (by simp)) h1 (by rw [List.length_take, Nat.min_eq_left (by omega)]; exact h2))
                  have HOa := Lib.hid (HOi.out.alloc (.cells #[.int .i64 yx0, .int .i64 yx1, .int .i64 ykk, .int .i64 ykf, .int .i64 ykd, .int .i64 ykt, .int .i64 yki, .int .i64 ykl, .int .i64 ykc0, .bool yky, .slice yea yks.length yec, .int .i64 yksi, .int .i64 ykst, .int .i64 yksm, .string yksx] tRI))
                  have HMa := Lib.hid (HMj.out.alloc (.cells #[.int .i64 yx0, .int .i64 yx1, .int .i64 ykk, .int .i64 ykf, .int .i64 ykd, .int .i64 ykt, .int .i64 yki, .int .i64 ykl, .int .i64 ykc0, .bool yky, .slice yea yks.length yec, .int .i64 yksi, .int .i64 ykst, .int .i64 yksm, .string yksx] tRI))
                  clear HEJ HTJ HOj
                  go_wp2_with (at_builtin; refine wpList_append_lies _ rfl _ _ 47 rfl wq.heap.size tRI i0 _ 15 144 Try.underlying47 hi0 hz0 hz1 hz2 rfl (by decide) u10 j (rowsR (cs.take j)) rfl HOa.out ⟨wr.heap.size, 0, none⟩ 1 1 [.int .i64 yx0, .int .i64 yx1, .int .i64 ykk, .int .i64 ykf, .int .i64 ykd, .int .i64 ykt, .int .i64 yki, .int .i64 ykl, .int .i64 ykc0, .bool yky, .slice yea yks.length yec, .int .i64 yksi, .int .i64 ykst, .int .i64 yksm, .string yksx] rfl rfl (World.news_of_block (cs := #[.int .i64 yx0, .int .i64 yx1, .int .i64 ykk, .int .i64 ykf, .int .i64 ykd, .int .i64 ykt, .int .i64 yki, .int .i64 ykl, .int .i64 ykc0, .bool yky, .slice yea yks.length yec, .int .i64 yksi, .int .i64 ykst, .int .i64 yksm, .string yksx]) (t := tRI) (fr := (0, 0)) (heap_alloc_new wr _)) (by simp [Value.oneCell']) (by omega) (by unfold maxLen; omega) (by omega) (by simp; omega) (wr.heap.size + 1) (by simp) ?_; intro gg gcap w57 hown5 hgrow hat hlt5; have HO57 := Lib.hid (HAP.out w57 gg gcap hgrow hown5); have HM57 := Lib.hid (HMa.out.grown hgrow (fun k hk => .inr (own_ge HOa.out k hk))); clear hown5 hgrow hat hlt5)
                  exact ⟨⟨j + 1, rfl, by omega, HM57.out, HO57.out⟩, by simp only [intOf]; omega⟩
                · obtain rfl : j = q + 1 := by omega
                  have n0 := (HBq.out.mod HMj.out (by simp)).cell 0
                  have HEJ := Lib.hid (own_mod HEQ.out HMj.out (by simp))
                  replace e0 := keepC HMj.out e0
                  replace e1 := keepC HMj.out e1
                  replace e2 := keepC HMj.out e2
                  replace e3 := keepC HMj.out e3
                  replace e4 := keepC HMj.out e4
                  replace e5 := keepC HMj.out e5
                  replace e6 := keepC HMj.out e6
                  replace e7 := keepC HMj.out e7
                  replace e8 := keepC HMj.out e8
                  replace e9 := keepC HMj.out e9
                  replace e10 := keepC HMj.out e10
                  replace e11 := keepC HMj.out e11
                  replace e12 := keepC HMj.out e12
                  replace e13 := keepC HMj.out e13
                  replace e14 := keepC HMj.out e14
                  have HOi : Hid (wr.ownsRow wq.heap.size tRI 15 u10 (q + 1) (rowsR (cs.take (q + 1)))) := Lib.hid (by have h := HOj.out.own; rw [List.length_take, Nat.min_eq_left (by omega)] at h; exact h)
                  have HAP : Hid (∀ B gg gcap, (wr.alloc (.cells #[.int .i64 x0, .int .i64 x1, .int .i64 kk, .int .i64 kf, .int .i64 kd, .int .i64 kt, .int .i64 ki, .int .i64 kl, .int .i64 kc0, .bool ky, .slice ea ks.length ec, .int .i64 ksi, .int .i64 kst, .int .i64 ksm, .string ksx] tRI)).grownBy B u10.ownBlock → B.ownsRow wq.heap.size tRI 15 (.slice (some ⟨gg, 0, none⟩) (q + 1 + 1) gcap) (q + 1 + 1) (rowsR (cs.take (q + 1)) ++ [.int .i64 x0, .int .i64 x1, .int .i64 kk, .int .i64 kf, .int .i64 kd, .int .i64 kt, .int .i64 ki, .int .i64 kl, .int .i64 kc0, .bool ky, .slice ea ks.length ec, .int .i64 ksi, .int .i64 kst, .int .i64 ksm, .string ksx]) → RIt wq.heap.size B (.slice (some ⟨gg, 0, none⟩) (q + 1 + 1) gcap) (cs.take (q + 1) ++ [(⟨x0, x1, ⟨kk, kf, kd, kt, ki, kl, kc0, ky, ks, ksi, kst, ksm, ksx⟩, .slice ea ks.length ec⟩ : Ri)])) := Lib.hid (fun B gg gcap h1 h2 => by
                    exact (HOj.out.mod ((Mod.refl wr []).alloc _)).app (x := ⟨x0, x1, ⟨kk, kf, kd, kt, ki, kl, kc0, ky, ks, ksi, kst, ksm, ksx⟩, .slice ea ks.length ec⟩) (own_mod HEJ.out ((Mod.refl wr []).alloc _) (by simp)) h1 (by rw [List.length_take, Nat.min_eq_left (by omega)]; exact h2))
                  have HOa := Lib.hid (HOi.out.alloc (.cells #[.int .i64 x0, .int .i64 x1, .int .i64 kk, .int .i64 kf, .int .i64 kd, .int .i64 kt, .int .i64 ki, .int .i64 kl, .int .i64 kc0, .bool ky, .slice ea ks.length ec, .int .i64 ksi, .int .i64 kst, .int .i64 ksm, .string ksx] tRI))
                  have HMa := Lib.hid (HMj.out.alloc (.cells #[.int .i64 x0, .int .i64 x1, .int .i64 kk, .int .i64 kf, .int .i64 kd, .int .i64 kt, .int .i64 ki, .int .i64 kl, .int .i64 kc0, .bool ky, .slice ea ks.length ec, .int .i64 ksi, .int .i64 kst, .int .i64 ksm, .string ksx] tRI))
                  clear HEJ HOj
                  go_upto_region 15 with (fail)
                  go_upto_region 16 with (at_builtin; refine wpList_append_lies _ rfl _ _ 47 rfl wq.heap.size tRI i0 _ 15 144 Try.underlying47 hi0 hz0 hz1 hz2 rfl (by decide) u10 (q + 1) (rowsR (cs.take (q + 1))) rfl HOa.out ⟨wr.heap.size, 0, none⟩ 1 1 [.int .i64 x0, .int .i64 x1, .int .i64 kk, .int .i64 kf, .int .i64 kd, .int .i64 kt, .int .i64 ki, .int .i64 kl, .int .i64 kc0, .bool ky, .slice ea ks.length ec, .int .i64 ksi, .int .i64 kst, .int .i64 ksm, .string ksx] rfl rfl (World.news_of_block (cs := #[.int .i64 x0, .int .i64 x1, .int .i64 kk, .int .i64 kf, .int .i64 kd, .int .i64 kt, .int .i64 ki, .int .i64 kl, .int .i64 kc0, .bool ky, .slice ea ks.length ec, .int .i64 ksi, .int .i64 kst, .int .i64 ksm, .string ksx]) (t := tRI) (fr := (0, 0)) (heap_alloc_new wr _)) (by simp [Value.oneCell']) (by omega) (by unfold maxLen; omega) (by omega) (by simp; omega) (wr.heap.size + 1) (by simp) ?_; intro gg gcap w58 hown5 hgrow hat hlt5; have HO58 := Lib.hid (HAP.out w58 gg gcap hgrow hown5); have HM58 := Lib.hid (HMa.out.grown hgrow (fun k hk => .inr (own_ge HOa.out k hk))); clear hown5 hgrow hat hlt5)
                  clear n0 e0 e1 e2 e3 e4 e5 e6 e7 e8 e9 e10 e11 e12 e13 e14 HAP HOa HMa
                  go_upto_region 17 with (fail)
                  have HO8 := HO58
                  have HM8 := HM58
                  clear HO58 HM58 HOi HMj
                  go_loopw [10, 12] (fun vm vj wr => ∃ t : Nat, vj = .int .i64 ((q + 1 + t : Nat) : Int) ∧ q + 1 + t ≤ cs.length ∧ Mod wq wr [] ∧ RIt wq.heap.size wr vm (cs.take (q + 1) ++ [(⟨x0, x1, ⟨kk, kf, kd, kt, ki, kl, kc0, ky, ks, ksi, kst, ksm, ksx⟩, .slice ea ks.length ec⟩ : Ri)] ++ (cs.drop (q + 1)).take t)) (fun _ vj _ => cs.length + 1 - (intOf vj).toNat)
                  case atStart => exact ⟨0, by first | rfl | (congr 1; omega), by omega, HM8.out, by rw [List.take_zero, List.append_nil]; exact HO8.out⟩
                  case round =>
                    obtain ⟨t, rfl, ht, hmt, hot⟩ := hrel
                    have HMt := Lib.hid hmt
                    have HOt := Lib.hid hot
                    have hqt := hmt.size
                    clear hmt hot
                    have hln : (cs.take (q + 1) ++ [(⟨x0, x1, ⟨kk, kf, kd, kt, ki, kl, kc0, ky, ks, ksi, kst, ksm, ksx⟩, .slice ea ks.length ec⟩ : Ri)] ++ (cs.drop (q + 1)).take t).length = q + 1 + 1 + t := by rw [List.length_append, List.length_append, List.length_take, List.length_take, List.length_drop, Nat.min_eq_left (by omega), Nat.min_eq_left (by omega)]; rfl
                    have HLN2 := Lib.hid hln
                    clear hln
                    by_cases htc : q + 1 + t < cs.length
                    · have htc' : ((q + 1 + t : Nat) : Int) < cs.length := by omega
                      have HKj := Lib.hid (HKq.out.mod HMt.out)
                      have HTJ := Lib.hid (mid_snoc cs ⟨x0, x1, ⟨kk, kf, kd, kt, ki, kl, kc0, ky, ks, ksi, kst, ksm, ksx⟩, .slice ea ks.length ec⟩ (q + 1) t htc)
                      have HOi : Hid (wr.ownsRow wq.heap.size tRI 15 u10 (q + 1 + 1 + t) (rowsR (cs.take (q + 1) ++ [(⟨x0, x1, ⟨kk, kf, kd, kt, ki, kl, kc0, ky, ks, ksi, kst, ksm, ksx⟩, .slice ea ks.length ec⟩ : Ri)] ++ (cs.drop (q + 1)).take t))) := Lib.hid (by have h := HOt.out.own; rw [HLN2.out] at h; exact h)
                      obtain ⟨gj, gjc, gjv, gje, gjs⟩ := HKj.out.cell htc
                      cases gjv
                      have c0 := gjs 0 (by decide)
                      have c1 := gjs 1 (by decide)
                      have c2 := gjs 2 (by decide)
                      have c3 := gjs 3 (by decide)
                      have c4 := gjs 4 (by decide)
                      have c5 := gjs 5 (by decide)
                      have c6 := gjs 6 (by decide)
                      have c7 := gjs 7 (by decide)
                      have c8 := gjs 8 (by decide)
                      have c9 := gjs 9 (by decide)
                      have c10 := gjs 10 (by decide)
                      have c11 := gjs 11 (by decide)
                      have c12 := gjs 12 (by decide)
                      have c13 := gjs 13 (by decide)
                      have c14 := gjs 14 (by decide)
                      have HEJ := Lib.hid (HKj.out.ens _ (List.getElem_mem htc))
                      clear gjs
                      generalize cs[q + 1 + t]'htc = yx at *
                      obtain ⟨yx0, yx1, ⟨ykk, ykf, ykd, ykt, yki, ykl, ykc0, yky, yks, yksi, ykst, yksm, yksx⟩, yxu⟩ := yx
                      rw [Nat.add_zero] at c0
                      simp only [riC, msC] at c0 c1 c2 c3 c4 c5 c6 c7 c8 c9 c10 c11 c12 c13 c14
                      simp only [List.cons_append, List.nil_append, List.getElem?_cons_zero, List.getElem?_cons_succ] at c0 c1 c2 c3 c4 c5 c6 c7 c8 c9 c10 c11 c12 c13 c14
                      simp only at HEJ
                      obtain ⟨yea, yec, rfl⟩ := Rw.own_slice HEJ.out
                      have HAP : Hid (∀ B gg gcap, (wr.alloc (.cells #[.int .i64 yx0, .int .i64 yx1, .int .i64 ykk, .int .i64 ykf, .int .i64 ykd, .int .i64 ykt, .int .i64 yki, .int .i64 ykl, .int .i64 ykc0, .bool yky, .slice yea yks.length yec, .int .i64 yksi, .int .i64 ykst, .int .i64 yksm, .string yksx] tRI)).grownBy B u10.ownBlock → B.ownsRow wq.heap.size tRI 15 (.slice (some ⟨gg, 0, none⟩) (q + 1 + 1 + t + 1) gcap) (q + 1 + 1 + t + 1) (rowsR (cs.take (q + 1) ++ [(⟨x0, x1, ⟨kk, kf, kd, kt, ki, kl, kc0, ky, ks, ksi, kst, ksm, ksx⟩, .slice ea ks.length ec⟩ : Ri)] ++ (cs.drop (q + 1)).take t) ++ [.int .i64 yx0, .int .i64 yx1, .int .i64 ykk, .int .i64 ykf, .int .i64 ykd, .int .i64 ykt, .int .i64 yki, .int .i64 ykl, .int .i64 ykc0, .bool yky, .slice yea yks.length yec, .int .i64 yksi, .int .i64 ykst, .int .i64 yksm, .string yksx]) → RIt wq.heap.size B (.slice (some ⟨gg, 0, none⟩) (q + 1 + 1 + t + 1) gcap) (cs.take (q + 1) ++ [(⟨x0, x1, ⟨kk, kf, kd, kt, ki, kl, kc0, ky, ks, ksi, kst, ksm, ksx⟩, .slice ea ks.length ec⟩ : Ri)] ++ (cs.drop (q + 1)).take (t + 1))) := Lib.hid (fun B gg gcap h1 h2 => by
                        rw [HTJ.out]
                        exact (HOt.out.mod ((Mod.refl wr []).alloc _)).app (x := ⟨yx0, yx1, ⟨ykk, ykf, ykd, ykt, yki, ykl, ykc0, yky, yks, yksi, ykst, yksm, yksx⟩, .slice yea yks.length yec⟩) (own_mod HEJ.out ((Mod.refl wr []).alloc _) (by simp)) h1 (by rw [HLN2.out]; exact h2))
                      have HOa := Lib.hid (HOi.out.alloc (.cells #[.int .i64 yx0, .int .i64 yx1, .int .i64 ykk, .int .i64 ykf, .int .i64 ykd, .int .i64 ykt, .int .i64 yki, .int .i64 ykl, .int .i64 ykc0, .bool yky, .slice yea yks.length yec, .int .i64 yksi, .int .i64 ykst, .int .i64 yksm, .string yksx] tRI))
                      have HMa := Lib.hid (HMt.out.alloc (.cells #[.int .i64 yx0, .int .i64 yx1, .int .i64 ykk, .int .i64 ykf, .int .i64 ykd, .int .i64 ykt, .int .i64 yki, .int .i64 ykl, .int .i64 ykc0, .bool yky, .slice yea yks.length yec, .int .i64 yksi, .int .i64 ykst, .int .i64 yksm, .string yksx] tRI))
                      clear HEJ HTJ HOt
                      go_wp2_with (at_builtin; refine wpList_append_lies _ rfl _ _ 47 rfl wq.heap.size tRI i0 _ 15 144 Try.underlying47 hi0 hz0 hz1 hz2 rfl (by decide) u10 (q + 1 + 1 + t) (rowsR (cs.take (q + 1) ++ [(⟨x0, x1, ⟨kk, kf, kd, kt, ki, kl, kc0, ky, ks, ksi, kst, ksm, ksx⟩, .slice ea ks.length ec⟩ : Ri)] ++ (cs.drop (q + 1)).take t)) rfl HOa.out ⟨wr.heap.size, 0, none⟩ 1 1 [.int .i64 yx0, .int .i64 yx1, .int .i64 ykk, .int .i64 ykf, .int .i64 ykd, .int .i64 ykt, .int .i64 yki, .int .i64 ykl, .int .i64 ykc0, .bool yky, .slice yea yks.length yec, .int .i64 yksi, .int .i64 ykst, .int .i64 yksm, .string yksx] rfl rfl (World.news_of_block (cs := #[.int .i64 yx0, .int .i64 yx1, .int .i64 ykk, .int .i64 ykf, .int .i64 ykd, .int .i64 ykt, .int .i64 yki, .int .i64 ykl, .int .i64 ykc0, .bool yky, .slice yea yks.length yec, .int .i64 yksi, .int .i64 ykst, .int .i64 yksm, .string yksx]) (t := tRI) (fr := (0, 0)) (heap_alloc_new wr _)) (by simp [Value.oneCell']) (by omega) (by unfold maxLen; omega) (by omega) (by simp; omega) (wr.heap.size + 1) (by simp) ?_; intro gg gcap w59 hown5 hgrow hat hlt5; have HO59 := Lib.hid (HAP.out w59 gg gcap hgrow hown5); have HM59 := Lib.hid (HMa.out.grown hgrow (fun k hk => .inr (own_ge HOa.out k hk))); clear hown5 hgrow hat hlt5)
                      exact ⟨⟨t + 1, by first | rfl | (congr 1; omega), by omega, HM59.out, HO59.out⟩, by simp only [intOf]; omega⟩
                    · have hte : q + 1 + t = cs.length := by omega
                      have HFL : Hid (cs.take (q + 1) ++ [(⟨x0, x1, ⟨kk, kf, kd, kt, ki, kl, kc0, ky, ks, ksi, kst, ksm, ksx⟩, .slice ea ks.length ec⟩ : Ri)] ++ (cs.drop (q + 1)).take t = cs.take (q + 1) ++ [(⟨x0, x1, ⟨kk, kf, kd, kt, ki, kl, kc0, ky, ks, ksi, kst, ksm, ksx⟩, .slice ea ks.length ec⟩ : Ri)] ++ cs.drop (q + 1)) := Lib.hid (by rw [drop_all cs (q + 1) t hte])
                      have HOF : Hid (RIt w3.heap.size wr u10 (cs.take (q + 1) ++ [(⟨x0, x1, ⟨kk, kf, kd, kt, ki, kl, kc0, ky, ks, ksi, kst, ksm, ksx⟩, .slice ea ks.length ec⟩ : Ri)] ++ cs.drop (q + 1))) := Lib.hid (by have h := HOt.out.low (base' := w3.heap.size) (by omega); rw [HFL.out] at h; exact h)
                      have HLF : Hid ((cs.take (q + 1) ++ [(⟨x0, x1, ⟨kk, kf, kd, kt, ki, kl, kc0, ky, ks, ksi, kst, ksm, ksx⟩, .slice ea ks.length ec⟩ : Ri)] ++ cs.drop (q + 1)).length ≤ i + 1) := Lib.hid (by rw [← HFL.out, HLN2.out]; omega)
                      have HSP : Hid (∀ k, u10.ownBlock = some k → u7.ownBlock ≠ some k) := Lib.hid (fun k h1 h2 => by
                        have h3 := own_ge HOt.out.own k h1
                        have h4 := Rw.own_lt HF.out.own k h2
                        omega)
                      have hte' : ((q + 1 + t : Nat) : Int) = cs.length := by omega
                      have HTE := Lib.hid hte
                      have HTE2 : Hid (decide (((q + 1 + t : Nat) : Int) < cs.length) = false) := Lib.hid (decide_eq_false (by omega))
                      have HMF := Lib.hid (HM.out.trans0 (HMq.out.trans0 HMt.out))
                      have HFF := Lib.hid (HF.out.mod (HMq.out.trans0 HMt.out))
                      clear hte hte'
                      have hnt : ¬ ((q + 1 + t : Nat) : Int) < cs.length := by omega
                      clear HOt
                      go_wp2_with fail
                      exact ⟨⟨i + 1, _, ls, rfl, by omega, HCI.out, HLN.out, HMF.out, HOF.out, HFF.out, HSP.out, HLF.out, by omega⟩, by simp only [intOf]; omega⟩
    · obtain rfl : i = xs.length := by omega
      rw [List.take_length] at HCS HLS
      clear hlt HIr hi HIDS
      obtain ⟨da, dc, rfl⟩ := Rw.own_slice HK.out.own
      obtain ⟨fa, fc, rfl⟩ := Rw.own_slice HF.out.own
      go_upto_region 23 with (fail)
      obtain ⟨wo, hwo⟩ : ∃ wo, wo = wr := ⟨_, rfl⟩
      subst hwo
      have HBo := Lib.hid (HB.out.mod HM.out (by simp))
      have HRo := Lib.hid (HR.out.mod HM.out (by simp))
      have HPo := Lib.hid (HPV.out.mod (HMM.out.trans0 HM.out))
      have hcl' : cs.length ≤ 100000 := by omega
      clear n0 HI HB HR HPV
      go_loopw [13, 14] (fun vo vi wr => ∃ (i : Nat) (os : List (Ms × Value)), vi = .int .i64 (i : Int) ∧ i ≤ cs.length ∧ os = outR cl (cs.take i) ∧ Mod wo wr [] ∧ RMs wo.heap.size wr vo os) (fun _ vi _ => cs.length + 1 - (intOf vi).toNat)
      case atStart => exact ⟨0, [], rfl, Nat.zero_le _, rfl, Mod.refl _ _, RMs.nil _ _⟩
      case round =>
        obtain ⟨i, os, rfl, hi, hos, hmi, hoi⟩ := hrel
        have HMi := Lib.hid hmi
        have HOi := Lib.hid hoi
        have hbi := hmi.size
        have hol : os.length ≤ i := by rw [hos]; exact Nat.le_trans (outR_len _ _) (by rw [List.length_take]; omega)
        have HOS := Lib.hid hos
        clear hmi hoi hos
        by_cases hlt : i < cs.length
        · have hlt' : (i : Int) < cs.length := by omega
          have HKi := Lib.hid (HK.out.mod HMi.out)
          have HTK := Lib.hid (take_snoc cs i hlt)
          have HBi := Lib.hid (HBo.out.mod HMi.out (by simp))
          obtain ⟨gb, gbc, gbv, gbe, gbs⟩ := HKi.out.cell hlt
          cases gbv
          have e0 := gbs 0 (by decide)
          have e1 := gbs 1 (by decide)
          have e2 := gbs 2 (by decide)
          have e3 := gbs 3 (by decide)
          have e4 := gbs 4 (by decide)
          have e5 := gbs 5 (by decide)
          have e6 := gbs 6 (by decide)
          have e7 := gbs 7 (by decide)
          have e8 := gbs 8 (by decide)
          have e9 := gbs 9 (by decide)
          have e10 := gbs 10 (by decide)
          have e11 := gbs 11 (by decide)
          have e12 := gbs 12 (by decide)
          have e13 := gbs 13 (by decide)
          have e14 := gbs 14 (by decide)
          have HEU := Lib.hid (HKi.out.ens _ (List.getElem_mem hlt))
          clear gbs
          generalize cs[i]'hlt = x at *
          obtain ⟨x0, x1, ⟨kk, kf, kd, kt, ki, kl, kc0, ky, ks, ksi, kst, ksm, ksx⟩, xu⟩ := x
          rw [Nat.add_zero] at e0
          simp only [riC, msC] at e0 e1 e2 e3 e4 e5 e6 e7 e8 e9 e10 e11 e12 e13 e14
          simp only [List.cons_append, List.nil_append, List.getElem?_cons_zero, List.getElem?_cons_succ] at e0 e1 e2 e3 e4 e5 e6 e7 e8 e9 e10 e11 e12 e13 e14
          simp only at HEU
          obtain ⟨ea, ec, rfl⟩ := Rw.own_slice HEU.out
          have HTK2 : Hid (outR cl (cs.take (i + 1)) = if offL cl kf kd = true then os else os ++ [(⟨kk, kf, kd, kt, ki, kl, kc0, ky, ks, ksi, kst, ksm, ksx⟩, .slice ea ks.length ec)]) := Lib.hid (by rw [HTK.out, outR_snoc, ← HOS.out])
          have OC : Hid (∀ p : After wr, Calls Try.prog 91 #[.agg #[.slice la xs.length lc, .int .i64 last, .slice ca cl.length cc], .int .i64 kf, .int .i64 kd] p.world fun e w' => e = .returned (.bool (offL cl kf kd)) ∧ Mod p.world w' []) := Lib.hid (fun p => off_calls la xs.length lc last (.slice ca cl.length cc) cl kf kd p.world (HPo.out.mod (HMi.out.trans0 p.mod)) hcn)
          generalize offL cl kf kd = OF at *
          have n0 := cellA (HBi.out.cell 0)
          have n1 := cellA (HBi.out.cell 1)
          have n2 := cellA (HBi.out.cell 2)
          have e3' := cellA e3
          have e4' := cellA e4
          clear HTK e0 e1
          go_upto_region 25 with (fail)
          (refine wp_region_quiet_after (by kernel_rfl) (by kernel_rfl) ?_; (repeat (go_big_quiet_step ((with_reducible refine after_of (OC.out _))))); refine wpQuiet_nil ?_; intro wq hw'; obtain ⟨⟨wq2, hmq⟩, hw''⟩ := hw'; subst hw'')
          have HMq := Lib.hid (HMi.out.trans0 hmq)
          have HOq := Lib.hid (HOi.out.kp (KpR.mod hmq))
          have HEQ := Lib.hid (own_mod HEU.out hmq (by simp))
          have hbq := Nat.le_trans hbi hmq.size
          replace e2 := keepC hmq e2
          replace e3 := keepC hmq e3
          replace e4 := keepC hmq e4
          replace e5 := keepC hmq e5
          replace e6 := keepC hmq e6
          replace e7 := keepC hmq e7
          replace e8 := keepC hmq e8
          replace e9 := keepC hmq e9
          replace e10 := keepC hmq e10
          replace e11 := keepC hmq e11
          replace e12 := keepC hmq e12
          replace e13 := keepC hmq e13
          replace e14 := keepC hmq e14
          clear hmq n0 n1 n2 e3' e4' OC HBi HKi HEU HOi
          cases OF
          · replace HTK2 := Lib.hid (HTK2.out.trans (if_neg (by simp)))
            have HAP : Hid (∀ B gg gcap, (wq.alloc (.cells #[.int .i64 kk, .int .i64 kf, .int .i64 kd, .int .i64 kt, .int .i64 ki, .int .i64 kl, .int .i64 kc0, .bool ky, .slice ea ks.length ec, .int .i64 ksi, .int .i64 kst, .int .i64 ksm, .string ksx] tRM)).grownBy B u13.ownBlock → B.ownsRow wo.heap.size tRM 13 (.slice (some ⟨gg, 0, none⟩) (os.length + 1) gcap) (os.length + 1) (rowsM os ++ [.int .i64 kk, .int .i64 kf, .int .i64 kd, .int .i64 kt, .int .i64 ki, .int .i64 kl, .int .i64 kc0, .bool ky, .slice ea ks.length ec, .int .i64 ksi, .int .i64 kst, .int .i64 ksm, .string ksx]) → RMs wo.heap.size B (.slice (some ⟨gg, 0, none⟩) (os.length + 1) gcap) (os ++ [(⟨kk, kf, kd, kt, ki, kl, kc0, ky, ks, ksi, kst, ksm, ksx⟩, .slice ea ks.length ec)])) := Lib.hid (fun B gg gcap h1 h2 => by
              exact (HOq.out.kp (KpR.mod ((Mod.refl wq []).alloc _))).app (m := ⟨kk, kf, kd, kt, ki, kl, kc0, ky, ks, ksi, kst, ksm, ksx⟩) (u := .slice ea ks.length ec) (own_mod HEQ.out ((Mod.refl wq []).alloc _) (by simp)) h1 h2)
            have HOa := Lib.hid (HOq.out.own.alloc (.cells #[.int .i64 kk, .int .i64 kf, .int .i64 kd, .int .i64 kt, .int .i64 ki, .int .i64 kl, .int .i64 kc0, .bool ky, .slice ea ks.length ec, .int .i64 ksi, .int .i64 kst, .int .i64 ksm, .string ksx] tRM))
            have HMa := Lib.hid (HMq.out.alloc (.cells #[.int .i64 kk, .int .i64 kf, .int .i64 kd, .int .i64 kt, .int .i64 ki, .int .i64 kl, .int .i64 kc0, .bool ky, .slice ea ks.length ec, .int .i64 ksi, .int .i64 kst, .int .i64 ksm, .string ksx] tRM))
            clear HEQ HOq
            go_wp2_with (at_builtin; refine wpList_append_lies _ rfl _ _ 111 rfl wo.heap.size tRM m0 _ 13 128 Try.underlying111 hm0 mz0 mz1 mz2 rfl (by decide) u13 os.length (rowsM os) rfl HOa.out ⟨wq.heap.size, 0, none⟩ 1 1 [.int .i64 kk, .int .i64 kf, .int .i64 kd, .int .i64 kt, .int .i64 ki, .int .i64 kl, .int .i64 kc0, .bool ky, .slice ea ks.length ec, .int .i64 ksi, .int .i64 kst, .int .i64 ksm, .string ksx] rfl rfl (World.news_of_block (cs := #[.int .i64 kk, .int .i64 kf, .int .i64 kd, .int .i64 kt, .int .i64 ki, .int .i64 kl, .int .i64 kc0, .bool ky, .slice ea ks.length ec, .int .i64 ksi, .int .i64 kst, .int .i64 ksm, .string ksx]) (t := tRM) (fr := (0, 0)) (heap_alloc_new wq _)) (by simp [Value.oneCell']) (by omega) (by unfold maxLen; omega) (by omega) (by simp; omega) (wq.heap.size + 1) (by simp) ?_; intro gg gcap w56 hown5 hgrow hat hlt5; have HO56 := Lib.hid (HAP.out w56 gg gcap hgrow hown5); have HM56 := Lib.hid (HMa.out.grown hgrow (fun k hk => .inr (own_ge HOa.out k hk))); clear hown5 hgrow hat hlt5)
            exact ⟨⟨i + 1, _, rfl, by omega, HTK2.out.symm, HM56.out, HO56.out⟩, by simp only [intOf]; omega⟩
          · replace HTK2 := Lib.hid (HTK2.out.trans (if_pos (by simp)))
            go_wp2_with fail
            exact ⟨⟨i + 1, os, rfl, by omega, HTK2.out.symm, HMq.out, HOq.out⟩, by simp only [intOf]; omega⟩
        · obtain rfl : i = cs.length := by omega
          rw [List.take_length] at HOS
          obtain ⟨oa, oc, rfl⟩ := Rw.own_slice HOi.out.own
          have HBr := Lib.hid (HBo.out.mod HMi.out (by simp))
          have HRr := Lib.hid (HRo.out.mod HMi.out (by simp))
          have HFr := Lib.hid (HF.out.mod HMi.out)
          have HMr := Lib.hid (HMM.out.trans0 (HM.out.trans0 HMi.out))
          clear hlt hi HMi HF HK HM HMM HBo HRo HPo
          have n0 := HBr.out.cell 0
          have f0 := HBr.out.free 0
          go_upto_region 28 with (fail)
          have HBt := Lib.hid (HBr.out.set 0 (.slice fa ls.length fc))
          have HKt := Lib.hid (KpR.set HBr.out notNet 0 (.slice fa ls.length fc))
          have HMt := Lib.hid (HMr.out.setCell (p := ⟨w.heap.size, 0, none⟩) (.inr (Nat.le_refl _)) (.slice fa ls.length fc))
          have HRt := Lib.hid (HRr.out.far (p := ⟨w.heap.size, 0, none⟩) (by show ¬ (w.heap.size + 1 = w.heap.size); omega) (.slice fa ls.length fc))
          have HFt := Lib.hid (HFr.out.kp HKt.out)
          have HOt := Lib.hid (HOi.out.kp HKt.out)
          simp only [List.setIfInBounds_toArray, List.set_cons_zero, List.set_cons_succ] at HBt
          generalize World.setCell wr _ _ = wt at *
          clear HBr HRr HKt HOi HFr n0 f0
          have n0 := HBt.out.cell 0
          have n1 := HBt.out.cell 1
          have n2 := HBt.out.cell 2
          have g0 := HRt.out.free 0
          have g1 := HRt.out.free 1
          have g2 := HRt.out.free 2
          have r0 := HRt.out.cell 0
          have r1 := HRt.out.cell 1
          have r2 := HRt.out.cell 2
          have hb2 : w.heap.size ≤ w.heap.size + 1 := by omega
          have HMe := Lib.hid (((HMt.out.setCell (p := ⟨w.heap.size + 1, 0, none⟩) (.inr hb2) (.slice fa ls.length fc)).setCell (p := ⟨w.heap.size + 1, 1, none⟩) (.inr hb2) (.int .i64 last)).setCell (p := ⟨w.heap.size + 1, 2, none⟩) (.inr hb2) (.slice ca cl.length cc))
          have HKe := Lib.hid (fun k cs ty h ht => (KpR.set ((HRt.out.set 0 (.slice fa ls.length fc)).set 1 (.int .i64 last)) notNet 2 (.slice ca cl.length cc)) k cs ty ((KpR.set (HRt.out.set 0 (.slice fa ls.length fc)) notNet 1 (.int .i64 last)) k cs ty ((KpR.set HRt.out notNet 0 (.slice fa ls.length fc)) k cs ty h ht) ht) ht)
          have HFe := Lib.hid (HFt.out.kp HKe.out)
          have HOe := Lib.hid (HOt.out.kp HKe.out)
          go_wp2_with fail
          refine bodyPost_ret (v := .tuple #[.agg #[.slice fa ls.length fc, .int .i64 last, .slice ca cl.length cc], .slice oa os.length oc]) (by simp [results, Try.results46, go_sem, r0, r1, r2]) rfl ?_
          refine HP.out _ _ ⟨HMe.out, .slice fa ls.length fc, .slice oa os.length oc, cs, rfl, ?_, ?_, HCS.out⟩
          · rw [← HLS.out]; exact HFe.out.low h03
          · rw [← HOS.out]; exact HOe.out.low (Nat.le_trans h03 hbr)
end Go.Proofs.Ytgmenlfhkhdbdaa.Nt
end

section
/- NetPlays: the law's same. (Printed by mkRc8.py.) -/
namespace Go.Proofs.Ytgmenlfhkhdbdaa.Nt
open Go.RowKit Mem Nm Ra
open Ag (It)
set_option linter.unusedSimpArgs false
set_option linter.unusedVariables false
set_option maxRecDepth 100000

theorem RMs.cell {base : Nat} {W : World} {v : Value} {xs : List (Ms × Value)} (h : RMs base W v xs) {k : Nat} (hk : k < xs.length) : ∃ gb cap, v = .slice (some ⟨gb, 0, none⟩) xs.length cap ∧ xs.length ≤ cap ∧ ∀ c, c < 13 → W.cell? ⟨gb, k * 13 + c, none⟩ = (msC xs[k].1 xs[k].2)[c]? := by
  rcases Rw.own_cellN h.own with ⟨_, h2, _⟩ | ⟨g, cap, h1, _, h3, _, h5, h6⟩
  · omega
  · refine ⟨g, cap, h1, h3, fun c hc => ?_⟩
    have hr : rowsM xs = (xs.map (fun x => msC x.1 x.2)).flatten := by unfold rowsM; rw [List.flatMap_def]
    have hlen : (rowsM xs).length = xs.length * 13 := h5
    rw [h6 (k * 13 + c) (by omega)]
    have := Rw.flat_get (n := 13) (xs.map (fun x => msC x.1 x.2)) k c (by intro r hr; obtain ⟨x, _, rfl⟩ := List.mem_map.1 hr; rfl) (by simpa using hk) hc
    rw [← hr, List.getElem_map] at this
    rw [← this, List.getElem?_eq_getElem (by omega)]
/-- What Ref makes of a message. -/
def RefP (m : Ms) (W : World) (v : Value) (w' : World) : Prop := ∃ u, v = msV m u ∧ EnsV w' u m.es
set_option maxHeartbeats 32000000 in
theorem same_calls (b1 b2 : Nat) (v1 v2 : Value) (xs ys : List (Ms × Value)) (w : World) (h1 : OutW b1 w v1 xs) (h2 : RMs b2 w v2 ys) (he : xs.map Prod.fst = ys.map Prod.fst) (hn : xs.length ≤ 100000) (hes : ∀ x ∈ xs, x.1.es.length ≤ 100000) :
    Calls Try.prog 47 #[v1, v2] w fun e w' => e = .returned (.bool true) ∧ Mod w w' [] := by
  have hlen : xs.length = ys.length := by have := congrArg List.length he; simpa using this
  have HE : Hid (∀ i (hx : i < xs.length) (hy : i < ys.length), xs[i].1 = ys[i].1) := Lib.hid (fun i hx hy => by
    have h3 := congrArg (fun l => l[i]?) he
    simp only [List.getElem?_map, List.getElem?_eq_getElem hx, List.getElem?_eq_getElem hy, Option.map_some] at h3
    exact Option.some.inj h3)
  have HES := Lib.hid hes
  have H1 := Lib.hid h1
  have H2 := Lib.hid h2
  obtain ⟨a1, c1, rfl⟩ := Rw.own_slice h1.own
  obtain ⟨a2, c2, hv2⟩ := Rw.own_slice h2.own
  rw [← hlen] at hv2
  subst hv2
  have HNY := Lib.hid hlen
  clear h1 h2 he hes hlen
  go_enter Try.func47, Try.ntmps47
  go_upto_region 4 with (fail)
  go_loopw [5] (fun vi wr => ∃ i : Nat, vi = .int .i64 (i : Int) ∧ i ≤ xs.length ∧ Mod w wr []) (fun vi _ => xs.length + 1 - (intOf vi).toNat)
  case atStart => exact ⟨0, rfl, Nat.zero_le _, Mod.refl _ _⟩
  case round =>
    obtain ⟨i, rfl, hi, hm⟩ := hrel
    have HM := Lib.hid hm
    have HO := Lib.hid (H1.out.kp (KpO.mod hm))
    have HR := Lib.hid (H2.out.kp (KpR.mod hm))
    clear hm
    by_cases hlt : i < xs.length
    · have hlt' : (i : Int) < xs.length := by omega
      have hly : i < ys.length := by rw [← HNY.out]; exact hlt
      obtain ⟨g1, k1, p1, _, s1⟩ := HO.out.cell hlt
      obtain ⟨g2, k2, p2, _, s2⟩ := HR.out.cell hly
      injection p1 with p1 pm p1'
      injection p2 with p2 pn p2'
      subst p1 p1' p2 p2'
      try clear pm
      try clear pn
      have HU1 := Lib.hid (ensV_own (HO.out.ens _ (List.getElem_mem hlt)))
      have HU2 := Lib.hid (ensV_own2 (HR.out.ens _ (List.getElem_mem hly)))
      have HEI := HE.out i hlt hly
      have hel := HES.out _ (List.getElem_mem hlt)
      have a0 := s1 0 (by decide)
      have a1 := s1 1 (by decide)
      have a2 := s1 2 (by decide)
      have a3 := s1 3 (by decide)
      have a4 := s1 4 (by decide)
      have a5 := s1 5 (by decide)
      have a6 := s1 6 (by decide)
      have a7 := s1 7 (by decide)
      have a8 := s1 8 (by decide)
      have a9 := s1 9 (by decide)
      have a10 := s1 10 (by decide)
      have a11 := s1 11 (by decide)
      have a12 := s1 12 (by decide)
      have b0 := s2 0 (by decide)
      have b1 := s2 1 (by decide)
      have b2 := s2 2 (by decide)
      have b3 := s2 3 (by decide)
      have b4 := s2 4 (by decide)
      have b5 := s2 5 (by decide)
      have b6 := s2 6 (by decide)
      have b7 := s2 7 (by decide)
      have b8 := s2 8 (by decide)
      have b9 := s2 9 (by decide)
      have b10 := s2 10 (by decide)
      have b11 := s2 11 (by decide)
      have b12 := s2 12 (by decide)
      rw [Nat.add_zero] at a0 b0
      clear s1 s2
      generalize xs[i] = x at *
      generalize ys[i] = y at *
      obtain ⟨m, u⟩ := x
      obtain ⟨m', u'⟩ := y
      simp only at HU1 HU2 HEI hel
      subst HEI
      simp only [msC, List.getElem?_cons_zero, List.getElem?_cons_succ] at a0 a1 a2 a3 a4 a5 a6 a7 a8 a9 a10 a11 a12 b0 b1 b2 b3 b4 b5 b6 b7 b8 b9 b10 b11 b12
      have RC : Hid (∀ p : After wr, Calls Try.prog 31 #[msV m u] p.world fun e w' => ∃ v', e = .returned (msV m v') ∧ Mod p.world w' [] ∧ EnsV w' v' m.es) := Lib.hid (fun p => (ref_calls m u p.world (HU1.out.mod p.mod) hel).mono (fun e w' ⟨v', h1, h2, h3⟩ => ⟨v', h1, h2, ensV_own2 h3⟩))
      have SC : Hid (∀ (v' : Value) (w' : World), Mod wr w' [] → EnsV w' v' m.es → Calls Try.prog 92 #[msV m v', msV m u'] w' fun e w'' => e = .returned (.bool true) ∧ Mod w' w'' []) := Lib.hid (fun v' w' hm he => sameM_calls m v' u' w' he (HU2.out.mod hm) hel)
      obtain ⟨q1, q1c, hq1, _, _⟩ := HU1.out
      obtain ⟨q2, q2c, hq2, _, _⟩ := HU2.out
      subst hq1 hq2
      obtain ⟨kind, frm, dst, term, index, lt, commit, yes, es, si, st, sm, sx⟩ := m
      simp only at a0 a1 a2 a3 a4 a5 a6 a7 a8 a9 a10 a11 a12 b0 b1 b2 b3 b4 b5 b6 b7 b8 b9 b10 b11 b12
      go_upto_region 6 with (fail)
      refine He.wp_region_e 10 (fun w' => w'.cell? ⟨g1, i * 13, none⟩ = some (.int .i64 kind) ∧ w'.cell? ⟨g1, i * 13 + 1, none⟩ = some (.int .i64 frm) ∧ w'.cell? ⟨g1, i * 13 + 2, none⟩ = some (.int .i64 dst) ∧ w'.cell? ⟨g1, i * 13 + 3, none⟩ = some (.int .i64 term) ∧ w'.cell? ⟨g1, i * 13 + 4, none⟩ = some (.int .i64 index) ∧ w'.cell? ⟨g1, i * 13 + 5, none⟩ = some (.int .i64 lt) ∧ w'.cell? ⟨g1, i * 13 + 6, none⟩ = some (.int .i64 commit) ∧ w'.cell? ⟨g1, i * 13 + 7, none⟩ = some (.bool yes) ∧ w'.cell? ⟨g1, i * 13 + 8, none⟩ = some (.slice q1 es.length q1c) ∧ w'.cell? ⟨g1, i * 13 + 9, none⟩ = some (.int .i64 si) ∧ w'.cell? ⟨g1, i * 13 + 10, none⟩ = some (.int .i64 st) ∧ w'.cell? ⟨g1, i * 13 + 11, none⟩ = some (.int .i64 sm) ∧ w'.cell? ⟨g1, i * 13 + 12, none⟩ = some (.string sx) ∧ w'.cell? ⟨g2, i * 13, none⟩ = some (.int .i64 kind) ∧ w'.cell? ⟨g2, i * 13 + 1, none⟩ = some (.int .i64 frm) ∧ w'.cell? ⟨g2, i * 13 + 2, none⟩ = some (.int .i64 dst) ∧ w'.cell? ⟨g2, i * 13 + 3, none⟩ = some (.int .i64 term) ∧ w'.cell? ⟨g2, i * 13 + 4, none⟩ = some (.int .i64 index) ∧ w'.cell? ⟨g2, i * 13 + 5, none⟩ = some (.int .i64 lt) ∧ w'.cell? ⟨g2, i * 13 + 6, none⟩ = some (.int .i64 commit) ∧ w'.cell? ⟨g2, i * 13 + 7, none⟩ = some (.bool yes) ∧ w'.cell? ⟨g2, i * 13 + 8, none⟩ = some (.slice q2 es.length q2c) ∧ w'.cell? ⟨g2, i * 13 + 9, none⟩ = some (.int .i64 si) ∧ w'.cell? ⟨g2, i * 13 + 10, none⟩ = some (.int .i64 st) ∧ w'.cell? ⟨g2, i * 13 + 11, none⟩ = some (.int .i64 sm) ∧ w'.cell? ⟨g2, i * 13 + 12, none⟩ = some (.string sx)) (by kernel_rfl) ⟨a0, a1, a2, a3, a4, a5, a6, a7, a8, a9, a10, a11, a12, b0, b1, b2, b3, b4, b5, b6, b7, b8, b9, b10, b11, b12⟩ (fun S0 => ?_)
      have HMd := Lib.hid ((Mod.refl wr []).drew)
      generalize wr.drew = wd at *
      refine He.wpE_take (i := 0) (v := ?_) rfl (by kernel_rfl) (by kernel_rfl) (by kernel_rfl) (by kernel_rfl) (by kernel_rfl) (fun _ _ _ h => h) (by rfl) ?_ (by assumption) ?_
      rotate_left
      · (intro w' hSw; (try dsimp only at hSw); go_simp; first | done | with_reducible rfl)
      try simp only [List.getElem_toArray, List.getElem_cons_succ, List.getElem_cons_zero, Act.put, List.setIfInBounds_toArray, List.set_cons_zero, List.set_cons_succ]
      refine He.wpE_take (i := 1) (v := ?_) rfl (by kernel_rfl) (by kernel_rfl) (by kernel_rfl) (by kernel_rfl) (by kernel_rfl) (fun _ _ _ h => h) (by rfl) ?_ (by assumption) ?_
      rotate_left
      · (intro w' hSw; (try dsimp only at hSw); go_simp; first | done | with_reducible rfl)
      try simp only [List.getElem_toArray, List.getElem_cons_succ, List.getElem_cons_zero, Act.put, List.setIfInBounds_toArray, List.set_cons_zero, List.set_cons_succ]
      refine He.wpE_take (i := 2) (v := ?_) rfl (by kernel_rfl) (by kernel_rfl) (by kernel_rfl) (by kernel_rfl) (by kernel_rfl) (fun _ _ _ h => h) (by rfl) ?_ (by assumption) ?_
      rotate_left
      · (intro w' hSw; (try dsimp only at hSw); go_simp; first | done | with_reducible rfl)
      try simp only [List.getElem_toArray, List.getElem_cons_succ, List.getElem_cons_zero, Act.put, List.setIfInBounds_toArray, List.set_cons_zero, List.set_cons_succ]
      refine He.wpE_take (i := 3) (v := ?_) rfl (by kernel_rfl) (by kernel_rfl) (by kernel_rfl) (by kernel_rfl) (by kernel_rfl) (fun _ _ _ h => h) (by rfl) ?_ (by assumption) ?_
      rotate_left
      · (intro w' hSw; (try dsimp only at hSw); go_simp; first | done | with_reducible rfl)
      try simp only [List.getElem_toArray, List.getElem_cons_succ, List.getElem_cons_zero, Act.put, List.setIfInBounds_toArray, List.set_cons_zero, List.set_cons_succ]
      refine He.wpE_take (i := 5) (v := ?_) rfl (by kernel_rfl) (by kernel_rfl) (by kernel_rfl) (by kernel_rfl) (by kernel_rfl) (fun _ _ _ h => h) (by rfl) ?_ (by assumption) ?_
      rotate_left
      · (intro w' hSw; (try dsimp only at hSw); go_simp; first | done | with_reducible rfl)
      try simp only [List.getElem_toArray, List.getElem_cons_succ, List.getElem_cons_zero, Act.put, List.setIfInBounds_toArray, List.set_cons_zero, List.set_cons_succ]
      refine He.wpE_take (i := 6) (v := ?_) rfl (by kernel_rfl) (by kernel_rfl) (by kernel_rfl) (by kernel_rfl) (by kernel_rfl) (fun _ _ _ h => h) (by rfl) ?_ (by assumption) ?_
      rotate_left
      · (intro w' hSw; (try dsimp only at hSw); go_simp; first | done | with_reducible rfl)
      try simp only [List.getElem_toArray, List.getElem_cons_succ, List.getElem_cons_zero, Act.put, List.setIfInBounds_toArray, List.set_cons_zero, List.set_cons_succ]
      refine He.wpE_take (i := 7) (v := ?_) rfl (by kernel_rfl) (by kernel_rfl) (by kernel_rfl) (by kernel_rfl) (by kernel_rfl) (fun _ _ _ h => h) (by rfl) ?_ (by assumption) ?_
      rotate_left
      · (intro w' hSw; (try dsimp only at hSw); go_simp; first | done | with_reducible rfl)
      try simp only [List.getElem_toArray, List.getElem_cons_succ, List.getElem_cons_zero, Act.put, List.setIfInBounds_toArray, List.set_cons_zero, List.set_cons_succ]
      refine He.wpE_take (i := 8) (v := ?_) rfl (by kernel_rfl) (by kernel_rfl) (by kernel_rfl) (by kernel_rfl) (by kernel_rfl) (fun _ _ _ h => h) (by rfl) ?_ (by assumption) ?_
      rotate_left
      · (intro w' hSw; (try dsimp only at hSw); go_simp; first | done | with_reducible rfl)
      try simp only [List.getElem_toArray, List.getElem_cons_succ, List.getElem_cons_zero, Act.put, List.setIfInBounds_toArray, List.set_cons_zero, List.set_cons_succ]
      refine He.wpE_one (i := 4) (by kernel_rfl) rfl (by rfl) (fun K hK => ?_)
      go_simp
      (with_reducible refine (RC.out ⟨wd, HMd.out⟩).mono ?_)
      rintro e w4 ⟨v', rfl, hm4, hen⟩
      obtain ⟨q3, q3c, hq3, _, _⟩ := id hen
      subst hq3
      have HM4 := Lib.hid (HMd.out.trans0 hm4)
      have SC4 := Lib.hid (SC.out (.slice q3 es.length q3c) w4 HM4.out hen)
      have S4 : w4.cell? ⟨g1, i * 13, none⟩ = some (.int .i64 kind) ∧ w4.cell? ⟨g1, i * 13 + 1, none⟩ = some (.int .i64 frm) ∧ w4.cell? ⟨g1, i * 13 + 2, none⟩ = some (.int .i64 dst) ∧ w4.cell? ⟨g1, i * 13 + 3, none⟩ = some (.int .i64 term) ∧ w4.cell? ⟨g1, i * 13 + 4, none⟩ = some (.int .i64 index) ∧ w4.cell? ⟨g1, i * 13 + 5, none⟩ = some (.int .i64 lt) ∧ w4.cell? ⟨g1, i * 13 + 6, none⟩ = some (.int .i64 commit) ∧ w4.cell? ⟨g1, i * 13 + 7, none⟩ = some (.bool yes) ∧ w4.cell? ⟨g1, i * 13 + 8, none⟩ = some (.slice q1 es.length q1c) ∧ w4.cell? ⟨g1, i * 13 + 9, none⟩ = some (.int .i64 si) ∧ w4.cell? ⟨g1, i * 13 + 10, none⟩ = some (.int .i64 st) ∧ w4.cell? ⟨g1, i * 13 + 11, none⟩ = some (.int .i64 sm) ∧ w4.cell? ⟨g1, i * 13 + 12, none⟩ = some (.string sx) ∧ w4.cell? ⟨g2, i * 13, none⟩ = some (.int .i64 kind) ∧ w4.cell? ⟨g2, i * 13 + 1, none⟩ = some (.int .i64 frm) ∧ w4.cell? ⟨g2, i * 13 + 2, none⟩ = some (.int .i64 dst) ∧ w4.cell? ⟨g2, i * 13 + 3, none⟩ = some (.int .i64 term) ∧ w4.cell? ⟨g2, i * 13 + 4, none⟩ = some (.int .i64 index) ∧ w4.cell? ⟨g2, i * 13 + 5, none⟩ = some (.int .i64 lt) ∧ w4.cell? ⟨g2, i * 13 + 6, none⟩ = some (.int .i64 commit) ∧ w4.cell? ⟨g2, i * 13 + 7, none⟩ = some (.bool yes) ∧ w4.cell? ⟨g2, i * 13 + 8, none⟩ = some (.slice q2 es.length q2c) ∧ w4.cell? ⟨g2, i * 13 + 9, none⟩ = some (.int .i64 si) ∧ w4.cell? ⟨g2, i * 13 + 10, none⟩ = some (.int .i64 st) ∧ w4.cell? ⟨g2, i * 13 + 11, none⟩ = some (.int .i64 sm) ∧ w4.cell? ⟨g2, i * 13 + 12, none⟩ = some (.string sx) := by
        obtain ⟨s0, s1, s2, s3, s4, s5, s6, s7, s8, s9, s10, s11, s12, s13, s14, s15, s16, s17, s18, s19, s20, s21, s22, s23, s24, s25⟩ := S0
        exact ⟨keepC hm4 s0, keepC hm4 s1, keepC hm4 s2, keepC hm4 s3, keepC hm4 s4, keepC hm4 s5, keepC hm4 s6, keepC hm4 s7, keepC hm4 s8, keepC hm4 s9, keepC hm4 s10, keepC hm4 s11, keepC hm4 s12, keepC hm4 s13, keepC hm4 s14, keepC hm4 s15, keepC hm4 s16, keepC hm4 s17, keepC hm4 s18, keepC hm4 s19, keepC hm4 s20, keepC hm4 s21, keepC hm4 s22, keepC hm4 s23, keepC hm4 s24, keepC hm4 s25⟩
      refine hK.out _ _ (fun _ => S4) ?_
      clear hK K S0 hm4 hen
      try simp only [Act.put, List.setIfInBounds_toArray, List.set_cons_zero, List.set_cons_succ]
      refine He.wpE_one (i := 9) (by kernel_rfl) rfl (by rfl) (fun K hK => ?_)
      go_simp
      (with_reducible refine (SC4.out).mono ?_)
      rintro e w5 ⟨rfl, hm5⟩
      have HM5 := Lib.hid (HM4.out.trans0 hm5)
      have S5 : w5.cell? ⟨g1, i * 13, none⟩ = some (.int .i64 kind) ∧ w5.cell? ⟨g1, i * 13 + 1, none⟩ = some (.int .i64 frm) ∧ w5.cell? ⟨g1, i * 13 + 2, none⟩ = some (.int .i64 dst) ∧ w5.cell? ⟨g1, i * 13 + 3, none⟩ = some (.int .i64 term) ∧ w5.cell? ⟨g1, i * 13 + 4, none⟩ = some (.int .i64 index) ∧ w5.cell? ⟨g1, i * 13 + 5, none⟩ = some (.int .i64 lt) ∧ w5.cell? ⟨g1, i * 13 + 6, none⟩ = some (.int .i64 commit) ∧ w5.cell? ⟨g1, i * 13 + 7, none⟩ = some (.bool yes) ∧ w5.cell? ⟨g1, i * 13 + 8, none⟩ = some (.slice q1 es.length q1c) ∧ w5.cell? ⟨g1, i * 13 + 9, none⟩ = some (.int .i64 si) ∧ w5.cell? ⟨g1, i * 13 + 10, none⟩ = some (.int .i64 st) ∧ w5.cell? ⟨g1, i * 13 + 11, none⟩ = some (.int .i64 sm) ∧ w5.cell? ⟨g1, i * 13 + 12, none⟩ = some (.string sx) ∧ w5.cell? ⟨g2, i * 13, none⟩ = some (.int .i64 kind) ∧ w5.cell? ⟨g2, i * 13 + 1, none⟩ = some (.int .i64 frm) ∧ w5.cell? ⟨g2, i * 13 + 2, none⟩ = some (.int .i64 dst) ∧ w5.cell? ⟨g2, i * 13 + 3, none⟩ = some (.int .i64 term) ∧ w5.cell? ⟨g2, i * 13 + 4, none⟩ = some (.int .i64 index) ∧ w5.cell? ⟨g2, i * 13 + 5, none⟩ = some (.int .i64 lt) ∧ w5.cell? ⟨g2, i * 13 + 6, none⟩ = some (.int .i64 commit) ∧ w5.cell? ⟨g2, i * 13 + 7, none⟩ = some (.bool yes) ∧ w5.cell? ⟨g2, i * 13 + 8, none⟩ = some (.slice q2 es.length q2c) ∧ w5.cell? ⟨g2, i * 13 + 9, none⟩ = some (.int .i64 si) ∧ w5.cell? ⟨g2, i * 13 + 10, none⟩ = some (.int .i64 st) ∧ w5.cell? ⟨g2, i * 13 + 11, none⟩ = some (.int .i64 sm) ∧ w5.cell? ⟨g2, i * 13 + 12, none⟩ = some (.string sx) := by
        obtain ⟨s0, s1, s2, s3, s4, s5, s6, s7, s8, s9, s10, s11, s12, s13, s14, s15, s16, s17, s18, s19, s20, s21, s22, s23, s24, s25⟩ := S4
        exact ⟨keepC hm5 s0, keepC hm5 s1, keepC hm5 s2, keepC hm5 s3, keepC hm5 s4, keepC hm5 s5, keepC hm5 s6, keepC hm5 s7, keepC hm5 s8, keepC hm5 s9, keepC hm5 s10, keepC hm5 s11, keepC hm5 s12, keepC hm5 s13, keepC hm5 s14, keepC hm5 s15, keepC hm5 s16, keepC hm5 s17, keepC hm5 s18, keepC hm5 s19, keepC hm5 s20, keepC hm5 s21, keepC hm5 s22, keepC hm5 s23, keepC hm5 s24, keepC hm5 s25⟩
      refine hK.out _ _ (fun _ => S5) ?_
      clear hK K S4 hm5
      try simp only [Act.put, List.setIfInBounds_toArray, List.set_cons_zero, List.set_cons_succ]
      refine He.wpE_one (i := 10) (by kernel_rfl) rfl (by rfl) (fun K hK => ?_)
      go_simp
      refine hK.out _ _ (fun h => absurd rfl h) ?_
      clear hK K
      refine He.wpE_done (by kernel_rfl) ?_
      try simp only [Act.put, List.setIfInBounds_toArray, List.set_cons_zero, List.set_cons_succ]
      go_wp2_with fail
      exact ⟨⟨i + 1, rfl, by omega, HM.out.trans0 HM5.out⟩, by simp only [intOf]; omega⟩
    · obtain rfl : i = xs.length := by omega
      go_wp2_with fail
      go_ret
      exact ⟨rfl, HM.out⟩
end Go.Proofs.Ytgmenlfhkhdbdaa.Nt
end

section
/- NetPlays: the reference's Twice. (Printed by mkRc4.py.) -/
namespace Go.Proofs.Ytgmenlfhkhdbdaa.Nt
open Go.RowKit Mem Nm Ra
open Ag (It)
set_option linter.unusedSimpArgs false
set_option linter.unusedVariables false
set_option maxRecDepth 100000

/-- What Send makes: the last number, the items, the answers. -/
def sendR (last : Int) (xs : List Ri) (cl : List (Int × Int)) (now : Int) (m : Ms) (u : Value) (delay : Int) : Int × List Ri × Int × Int :=
  if (ixB now && (ixB delay && checkB m)) = true then
    if offL cl m.frm m.dst = true then (last, xs, 0, 0)
    else if 4096 ≤ xs.length then (last, xs, 0, 7)
    else (last + 1, xs ++ [⟨now + delay, last + 1, m, u⟩], last + 1, 0)
  else (last, xs, 0, 1)
def RSendQ (base : Nat) (vc : Value) (r : Int × List Ri × Int × Int) (w : World) (e : Ending) (w' : World) : Prop :=
  Mod w w' [] ∧ ∃ vl', e = .returned (.tuple #[rnV vl' r.1 vc, .int .i64 r.2.2.1, .int .i64 r.2.2.2]) ∧ RIt base w' vl' r.2.1
theorem rsendq_calls (base : Nat) (w : World) (vl vc : Value) (last : Int) (xs : List Ri) (cl : List (Int × Int)) (now : Int) (m : Ms) (u : Value) (delay : Int) (h : RIt base w vl xs) (hb : base ≤ w.heap.size) (hc : PairsV w vc cl) (hcn : cl.length ≤ 100000) (hxn : xs.length ≤ 100000) (hl : 0 ≤ last ∧ last ≤ 1000000) (hu : w.ownsRow 0 tRE 4 u m.es.length (rowsE m.es)) (hn : m.es.length ≤ 100000) :
    Calls Try.prog 42 #[rnV vl last vc, .int .i64 now, msV m u, .int .i64 delay] w (RSendQ base vc (sendR last xs cl now m u delay) w) := by
  refine (rsend_calls base w vl vc last xs cl now m u delay h hb hc hcn hxn hl hu hn).mono ?_
  rintro e w' ⟨hm, hq⟩
  refine ⟨hm, ?_⟩
  have h' := h.mod hm
  unfold sendR
  split at hq
  · rename_i h1
    rw [if_pos h1]
    split at hq
    · rename_i h2; rw [if_pos h2]; exact ⟨vl, hq, h'⟩
    · rename_i h2
      rw [if_neg h2]
      split at hq
      · rename_i h3; rw [if_pos h3]; exact ⟨vl, hq, h'⟩
      · rename_i h3; rw [if_neg h3]; exact hq
  · rename_i h1
    rw [if_neg h1]; exact ⟨vl, hq, h'⟩
def twiceR (last : Int) (xs : List Ri) (cl : List (Int × Int)) (id now delay : Int) : Int × List Ri × Int × Int :=
  match xs.find? (fun x => decide (x.id = id)) with
  | some x => sendR last xs cl now x.m x.u delay
  | none => (last, xs, 0, 4)
theorem find_at {xs : List Ri} {id : Int} {i : Nat} (hi : i < xs.length) (h : ∀ x ∈ xs.take i, x.id ≠ id) (hx : xs[i].id = id) : xs.find? (fun x => decide (x.id = id)) = some xs[i] := by
  rw [List.find?_eq_some_iff_append]
  refine ⟨by simpa using hx, xs.take i, xs.drop (i + 1), ?_, fun a ha => by simpa using h a ha⟩
  rw [← List.drop_eq_getElem_cons hi, List.take_append_drop]
theorem farC {w : World} {p a : Addr} {v u : Value} (h : w.cell? a = some u) (hne : p.block ≠ a.block) : (w.setCell p v).cell? a = some u := (World.cell?_setCell_far w p a v hne).trans h
set_option maxHeartbeats 32000000 in
theorem rtwice_calls (base : Nat) (w : World) (vl vc : Value) (last : Int) (xs : List Ri) (cl : List (Int × Int)) (id now delay : Int) (h : RIt base w vl xs) (hb : base ≤ w.heap.size) (hc : PairsV w vc cl) (hcn : cl.length ≤ 100000) (hxn : xs.length ≤ 100000) (hl : 0 ≤ last ∧ last ≤ 1000000) (hes : ∀ x ∈ xs, x.m.es.length ≤ 100000) :
    Calls Try.prog 44 #[rnV vl last vc, .int .i64 id, .int .i64 now, .int .i64 delay] w (RSendQ base vc (twiceR last xs cl id now delay) w) := by
  have HP : Hid (∀ e w', RSendQ base vc (twiceR last xs cl id now delay) w e w' → RSendQ base vc (twiceR last xs cl id now delay) w e w') := Lib.hid (fun _ _ h => h)
  have HES := Lib.hid hes
  have HPV := Lib.hid hc
  obtain ⟨la, lc, rfl⟩ := Rw.own_slice h.own
  obtain ⟨ca, cc, rfl, hcd, hce⟩ := hc
  clear hcd hce hes
  generalize hSP : RSendQ base (.slice ca cl.length cc) (twiceR last xs cl id now delay) w = SP
  replace HP : Hid (∀ e w', RSendQ base (.slice ca cl.length cc) (twiceR last xs cl id now delay) w e w' → SP e w') := Lib.hid (fun e w' h => by rw [← hSP]; exact h)
  clear hSP
  show Calls _ _ #[.agg #[.slice la xs.length lc, .int .i64 last, .slice ca cl.length cc], _, _, _] _ _
  have HLT := Lib.hid (Rw.own_lt h.own)
  have HMM := Lib.hid (((Mod.refl w []).alloc (.cells #[.slice la xs.length lc, .int .i64 last, .slice ca cl.length cc] 49)).alloc (.cells #[.slice none 0 0, .int .i64 0, .slice none 0 0] 49))
  have HB := Lib.hid ((Blk.new w #[.slice la xs.length lc, .int .i64 last, .slice ca cl.length cc] 49).alloc (.cells #[.slice none 0 0, .int .i64 0, .slice none 0 0] 49))
  have hr0 := Blk.new (w.alloc (.cells #[.slice la xs.length lc, .int .i64 last, .slice ca cl.length cc] 49)) #[.slice none 0 0, .int .i64 0, .slice none 0 0] 49
  simp only [World.size_alloc] at hr0
  have HR := Lib.hid hr0
  clear hr0
  have HI := Lib.hid (h.mod HMM.out)
  clear h
  go_enter Try.func44, Try.ntmps44
  go_upto_region 1 with (fail)
  generalize (w.alloc _).alloc _ = w3 at *
  have h03 : w.heap.size ≤ w3.heap.size := HMM.out.size
  have HPV3 := Lib.hid (HPV.out.mod HMM.out)
  clear HPV
  have n0 := HB.out.cell 0
  have n1 := HB.out.cell 1
  have n2 := HB.out.cell 2
  have r0 := HR.out.cell 0
  have r1 := HR.out.cell 1
  have r2 := HR.out.cell 2
  have g0 := HR.out.free 0
  have g1 := HR.out.free 1
  have g2 := HR.out.free 2
  have hb2 : w.heap.size ≤ w.heap.size + 1 := by omega
  go_upto_region 2 with (fail)
  go_loopw [11] (fun vi wr => ∃ i : Nat, vi = .int .i64 (i : Int) ∧ i ≤ xs.length ∧ (∀ x ∈ xs.take i, x.id ≠ id) ∧ wr = w3) (fun vi _ => xs.length + 1 - (intOf vi).toNat)
  case atStart => exact ⟨0, rfl, Nat.zero_le _, by simp, rfl⟩
  case round =>
    obtain ⟨i, rfl, hi, hno, rfl⟩ := hrel
    have HNO := Lib.hid hno
    clear hno
    by_cases hlt : i < xs.length
    · have hlt' : (i : Int) < xs.length := by omega
      have HFA : Hid ((xs[i]'hlt).id = id → twiceR last xs cl id now delay = sendR last xs cl now (xs[i]'hlt).m (xs[i]'hlt).u delay) := Lib.hid (fun h => by
        unfold twiceR; rw [find_at hlt HNO.out h])
      have HNN : Hid (¬ (xs[i]'hlt).id = id → ∀ x ∈ xs.take (i + 1), x.id ≠ id) := Lib.hid (fun h x hx => by
        rw [List.take_add_one, List.getElem?_eq_getElem hlt] at hx
        rcases List.mem_append.1 hx with hx | hx
        · exact HNO.out x hx
        · simp only [Option.toList_some, List.mem_singleton] at hx; subst hx; exact h)
      have HEL := Lib.hid (HES.out _ (List.getElem_mem hlt))
      obtain ⟨gb, gcp, hv, hge, hcs⟩ := HI.out.cell hlt
      injection hv with hv1 hv2 hv3
      subst hv1 hv3
      clear hv2
      have e0 := hcs 0 (by decide)
      have e1 := hcs 1 (by decide)
      have e2 := hcs 2 (by decide)
      have e3 := hcs 3 (by decide)
      have e4 := hcs 4 (by decide)
      have e5 := hcs 5 (by decide)
      have e6 := hcs 6 (by decide)
      have e7 := hcs 7 (by decide)
      have e8 := hcs 8 (by decide)
      have e9 := hcs 9 (by decide)
      have e10 := hcs 10 (by decide)
      have e11 := hcs 11 (by decide)
      have e12 := hcs 12 (by decide)
      have e13 := hcs 13 (by decide)
      have e14 := hcs 14 (by decide)
      have HEU := Lib.hid (HI.out.ens _ (List.getElem_mem hlt))
      clear hcs
      generalize xs[i]'hlt = x at *
      obtain ⟨x0, x1, ⟨kk, kf, kd, kt, ki, kl, kc0, ky, ks, ksi, kst, ksm, ksx⟩, xu⟩ := x
      rw [Nat.add_zero] at e0
      simp only [riC, msC] at e0 e1 e2 e3 e4 e5 e6 e7 e8 e9 e10 e11 e12 e13 e14
      simp only [List.cons_append, List.nil_append, List.getElem?_cons_zero, List.getElem?_cons_succ] at e0 e1 e2 e3 e4 e5 e6 e7 e8 e9 e10 e11 e12 e13 e14
      simp only at HEU
      obtain ⟨ea, ec, rfl⟩ := Rw.own_slice HEU.out
      simp only at HFA HNN HEL
      by_cases hx : x1 = id
      · replace HFA := Lib.hid (HFA.out hx)
        clear HNN HNO HES r0 r1 r2 g0 g1 g2
        go_upto_region 5 with (fail)
        refine He.wp_region_e 15 (fun w' => w'.cell? ⟨w.heap.size, 0, none⟩ = some (.slice (some ⟨gb, 0, none⟩) xs.length lc) ∧ w'.cell? ⟨w.heap.size, 1, none⟩ = some (.int .i64 last) ∧ w'.cell? ⟨w.heap.size, 2, none⟩ = some (.slice ca cl.length cc) ∧ w'.cell? ⟨gb, i * 15 + 2, none⟩ = some (.int .i64 kk) ∧ w'.cell? ⟨gb, i * 15 + 3, none⟩ = some (.int .i64 kf) ∧ w'.cell? ⟨gb, i * 15 + 4, none⟩ = some (.int .i64 kd) ∧ w'.cell? ⟨gb, i * 15 + 5, none⟩ = some (.int .i64 kt) ∧ w'.cell? ⟨gb, i * 15 + 6, none⟩ = some (.int .i64 ki) ∧ w'.cell? ⟨gb, i * 15 + 7, none⟩ = some (.int .i64 kl) ∧ w'.cell? ⟨gb, i * 15 + 8, none⟩ = some (.int .i64 kc0) ∧ w'.cell? ⟨gb, i * 15 + 9, none⟩ = some (.bool ky) ∧ w'.cell? ⟨gb, i * 15 + 10, none⟩ = some (.slice ea ks.length ec) ∧ w'.cell? ⟨gb, i * 15 + 11, none⟩ = some (.int .i64 ksi) ∧ w'.cell? ⟨gb, i * 15 + 12, none⟩ = some (.int .i64 kst) ∧ w'.cell? ⟨gb, i * 15 + 13, none⟩ = some (.int .i64 ksm) ∧ w'.cell? ⟨gb, i * 15 + 14, none⟩ = some (.string ksx)) (by kernel_rfl) ⟨n0, n1, n2, e2, e3, e4, e5, e6, e7, e8, e9, e10, e11, e12, e13, e14⟩ (fun S0 => ?_)
        have HRd := Lib.hid HR.out.drew
        have HMd := Lib.hid HMM.out.drew
        have HBd := Lib.hid HB.out.drew
        have HId := Lib.hid (HI.out.mod ((Mod.refl wr []).drew))
        have HPd := Lib.hid (HPV3.out.mod ((Mod.refl wr []).drew))
        have HUd := Lib.hid (own_mod HEU.out ((Mod.refl wr []).drew) (by simp))
        have hzd : wr.heap.size ≤ wr.drew.heap.size := Nat.le_refl _
        clear HR HMM HB HI HPV3 HEU
        generalize wr.drew = wd at *
        have hbd : base ≤ wd.heap.size := by omega
        have SC := Lib.hid (rsendq_calls base wd (.slice (some ⟨gb, 0, none⟩) xs.length lc) (.slice ca cl.length cc) last xs cl now ⟨kk, kf, kd, kt, ki, kl, kc0, ky, ks, ksi, kst, ksm, ksx⟩ (.slice ea ks.length ec) delay HId.out hbd HPd.out hcn hxn hl HUd.out HEL.out)
        generalize sendR last xs cl now ⟨kk, kf, kd, kt, ki, kl, kc0, ky, ks, ksi, kst, ksm, ksx⟩ (.slice ea ks.length ec) delay = r at *
        generalize twiceR last xs cl id now delay = r' at *
        obtain rfl : r' = r := HFA.out
        clear HFA
        replace SC : Hid (Calls Try.prog 42 #[.agg #[.slice (some ⟨gb, 0, none⟩) xs.length lc, .int .i64 last, .slice ca cl.length cc], .int .i64 now, .agg #[.int .i64 kk, .int .i64 kf, .int .i64 kd, .int .i64 kt, .int .i64 ki, .int .i64 kl, .int .i64 kc0, .bool ky, .slice ea ks.length ec, .int .i64 ksi, .int .i64 kst, .int .i64 ksm, .string ksx], .int .i64 delay] wd (RSendQ base (.slice ca cl.length cc) r' wd)) := SC
        refine He.wpE_take (i := 0) (v := ?_) rfl (by kernel_rfl) (by kernel_rfl) (by kernel_rfl) (by kernel_rfl) (by kernel_rfl) (fun _ _ _ h => h) (by rfl) ?_ (by assumption) ?_
        rotate_left
        · (intro w' hSw; (try dsimp only at hSw); go_simp; first | done | with_reducible rfl)
        try simp only [List.getElem_toArray, List.getElem_cons_succ, List.getElem_cons_zero, Act.put, List.setIfInBounds_toArray, List.set_cons_zero, List.set_cons_succ]
        refine He.wpE_take (i := 1) (v := ?_) rfl (by kernel_rfl) (by kernel_rfl) (by kernel_rfl) (by kernel_rfl) (by kernel_rfl) (fun _ _ _ h => h) (by rfl) ?_ (by assumption) ?_
        rotate_left
        · (intro w' hSw; (try dsimp only at hSw); go_simp; first | done | with_reducible rfl)
        try simp only [List.getElem_toArray, List.getElem_cons_succ, List.getElem_cons_zero, Act.put, List.setIfInBounds_toArray, List.set_cons_zero, List.set_cons_succ]
        refine He.wpE_take (i := 2) (v := ?_) rfl (by kernel_rfl) (by kernel_rfl) (by kernel_rfl) (by kernel_rfl) (by kernel_rfl) (fun _ _ _ h => h) (by rfl) ?_ (by assumption) ?_
        rotate_left
        · (intro w' hSw; (try dsimp only at hSw); go_simp; first | done | with_reducible rfl)
        try simp only [List.getElem_toArray, List.getElem_cons_succ, List.getElem_cons_zero, Act.put, List.setIfInBounds_toArray, List.set_cons_zero, List.set_cons_succ]
        refine He.wpE_take (i := 3) (v := ?_) rfl (by kernel_rfl) (by kernel_rfl) (by kernel_rfl) (by kernel_rfl) (by kernel_rfl) (fun _ _ _ h => h) (by rfl) ?_ (by assumption) ?_
        rotate_left
        · (intro w' hSw; (try dsimp only at hSw); go_simp; first | done | with_reducible rfl)
        try simp only [List.getElem_toArray, List.getElem_cons_succ, List.getElem_cons_zero, Act.put, List.setIfInBounds_toArray, List.set_cons_zero, List.set_cons_succ]
        refine He.wpE_take (i := 4) (v := ?_) rfl (by kernel_rfl) (by kernel_rfl) (by kernel_rfl) (by kernel_rfl) (by kernel_rfl) (fun _ _ _ h => h) (by rfl) ?_ (by assumption) ?_
        rotate_left
        · (intro w' hSw; (try dsimp only at hSw); go_simp; first | done | with_reducible rfl)
        try simp only [List.getElem_toArray, List.getElem_cons_succ, List.getElem_cons_zero, Act.put, List.setIfInBounds_toArray, List.set_cons_zero, List.set_cons_succ]
        refine He.wpE_take (i := 5) (v := ?_) rfl (by kernel_rfl) (by kernel_rfl) (by kernel_rfl) (by kernel_rfl) (by kernel_rfl) (fun _ _ _ h => h) (by rfl) ?_ (by assumption) ?_
        rotate_left
        · (intro w' hSw; (try dsimp only at hSw); go_simp; first | done | with_reducible rfl)
        try simp only [List.getElem_toArray, List.getElem_cons_succ, List.getElem_cons_zero, Act.put, List.setIfInBounds_toArray, List.set_cons_zero, List.set_cons_succ]
        refine He.wpE_take (i := 6) (v := ?_) rfl (by kernel_rfl) (by kernel_rfl) (by kernel_rfl) (by kernel_rfl) (by kernel_rfl) (fun _ _ _ h => h) (by rfl) ?_ (by assumption) ?_
        rotate_left
        · (intro w' hSw; (try dsimp only at hSw); go_simp; first | done | with_reducible rfl)
        try simp only [List.getElem_toArray, List.getElem_cons_succ, List.getElem_cons_zero, Act.put, List.setIfInBounds_toArray, List.set_cons_zero, List.set_cons_succ]
        refine He.wpE_take (i := 7) (v := ?_) rfl (by kernel_rfl) (by kernel_rfl) (by kernel_rfl) (by kernel_rfl) (by kernel_rfl) (fun _ _ _ h => h) (by rfl) ?_ (by assumption) ?_
        rotate_left
        · (intro w' hSw; (try dsimp only at hSw); go_simp; first | done | with_reducible rfl)
        try simp only [List.getElem_toArray, List.getElem_cons_succ, List.getElem_cons_zero, Act.put, List.setIfInBounds_toArray, List.set_cons_zero, List.set_cons_succ]
        refine He.wpE_take (i := 8) (v := ?_) rfl (by kernel_rfl) (by kernel_rfl) (by kernel_rfl) (by kernel_rfl) (by kernel_rfl) (fun _ _ _ h => h) (by rfl) ?_ (by assumption) ?_
        rotate_left
        · (intro w' hSw; (try dsimp only at hSw); go_simp; first | done | with_reducible rfl)
        try simp only [List.getElem_toArray, List.getElem_cons_succ, List.getElem_cons_zero, Act.put, List.setIfInBounds_toArray, List.set_cons_zero, List.set_cons_succ]
        refine He.wpE_one (i := 9) (by kernel_rfl) rfl (by rfl) (fun K hK => ?_)
        go_simp
        (with_reducible refine (SC.out).mono ?_)
        rintro e w4 ⟨hm4, vl', rfl, ho4⟩
        have HB4 := Lib.hid (HBd.out.mod hm4 (by simp))
        have HR4 := Lib.hid (HRd.out.mod hm4 (by simp))
        have HM4 := Lib.hid (HMd.out.trans0 hm4)
        have HO4 := Lib.hid ho4
        have hgb : gb < w.heap.size := HLT.out gb rfl
        obtain ⟨va, vb, rfl⟩ := Rw.own_slice ho4.own
        have S4 : w4.cell? ⟨w.heap.size, 0, none⟩ = some (.slice (some ⟨gb, 0, none⟩) xs.length lc) ∧ w4.cell? ⟨w.heap.size, 1, none⟩ = some (.int .i64 last) ∧ w4.cell? ⟨w.heap.size, 2, none⟩ = some (.slice ca cl.length cc) ∧ w4.cell? ⟨gb, i * 15 + 2, none⟩ = some (.int .i64 kk) ∧ w4.cell? ⟨gb, i * 15 + 3, none⟩ = some (.int .i64 kf) ∧ w4.cell? ⟨gb, i * 15 + 4, none⟩ = some (.int .i64 kd) ∧ w4.cell? ⟨gb, i * 15 + 5, none⟩ = some (.int .i64 kt) ∧ w4.cell? ⟨gb, i * 15 + 6, none⟩ = some (.int .i64 ki) ∧ w4.cell? ⟨gb, i * 15 + 7, none⟩ = some (.int .i64 kl) ∧ w4.cell? ⟨gb, i * 15 + 8, none⟩ = some (.int .i64 kc0) ∧ w4.cell? ⟨gb, i * 15 + 9, none⟩ = some (.bool ky) ∧ w4.cell? ⟨gb, i * 15 + 10, none⟩ = some (.slice ea ks.length ec) ∧ w4.cell? ⟨gb, i * 15 + 11, none⟩ = some (.int .i64 ksi) ∧ w4.cell? ⟨gb, i * 15 + 12, none⟩ = some (.int .i64 kst) ∧ w4.cell? ⟨gb, i * 15 + 13, none⟩ = some (.int .i64 ksm) ∧ w4.cell? ⟨gb, i * 15 + 14, none⟩ = some (.string ksx) := by
          obtain ⟨s0, s1, s2, s3, s4, s5, s6, s7, s8, s9, s10, s11, s12, s13, s14, s15⟩ := S0
          exact ⟨keepC hm4 s0, keepC hm4 s1, keepC hm4 s2, keepC hm4 s3, keepC hm4 s4, keepC hm4 s5, keepC hm4 s6, keepC hm4 s7, keepC hm4 s8, keepC hm4 s9, keepC hm4 s10, keepC hm4 s11, keepC hm4 s12, keepC hm4 s13, keepC hm4 s14, keepC hm4 s15⟩
        refine hK.out _ _ (fun _ => S4) ?_
        clear hK K S0 hm4 ho4 HBd HRd HId HPd HUd HMd SC
        try simp only [Act.put, List.setIfInBounds_toArray, List.set_cons_zero, List.set_cons_succ]
        refine He.wpE_take (i := 10) (v := ?_) rfl (by kernel_rfl) (by kernel_rfl) (by kernel_rfl) (by kernel_rfl) (by kernel_rfl) (fun _ _ _ h => h) (by rfl) ?_ (by assumption) ?_
        rotate_left
        · (intro w' hSw; (try dsimp only at hSw); go_simp; first | done | with_reducible rfl)
        try simp only [List.getElem_toArray, List.getElem_cons_succ, List.getElem_cons_zero, Act.put, List.setIfInBounds_toArray, List.set_cons_zero, List.set_cons_succ]
        refine He.wpE_take (i := 11) (v := ?_) rfl (by kernel_rfl) (by kernel_rfl) (by kernel_rfl) (by kernel_rfl) (by kernel_rfl) (fun _ _ _ h => h) (by rfl) ?_ (by assumption) ?_
        rotate_left
        · (intro w' hSw; (try dsimp only at hSw); go_simp; first | done | with_reducible rfl)
        try simp only [List.getElem_toArray, List.getElem_cons_succ, List.getElem_cons_zero, Act.put, List.setIfInBounds_toArray, List.set_cons_zero, List.set_cons_succ]
        refine He.wpE_take (i := 12) (v := ?_) rfl (by kernel_rfl) (by kernel_rfl) (by kernel_rfl) (by kernel_rfl) (by kernel_rfl) (fun _ _ _ h => h) (by rfl) ?_ (by assumption) ?_
        rotate_left
        · (intro w' hSw; (try dsimp only at hSw); go_simp; first | done | with_reducible rfl)
        try simp only [List.getElem_toArray, List.getElem_cons_succ, List.getElem_cons_zero, Act.put, List.setIfInBounds_toArray, List.set_cons_zero, List.set_cons_succ]
        refine He.wpE_one (i := 13) (by kernel_rfl) rfl (by rfl) (fun K hK => ?_)
        have z0 := HR4.out.cell 0
        have z1 := HR4.out.cell 1
        have z2 := HR4.out.cell 2
        have fz0 := HR4.out.free 0
        have fz1 := HR4.out.free 1
        have fz2 := HR4.out.free 2
        go_simp
        have HRe := Lib.hid (((HR4.out.set 0 (.slice va r'.2.1.length vb)).set 1 (.int .i64 r'.1)).set 2 (.slice ca cl.length cc))
        have HMe := Lib.hid (((HM4.out.setCell (p := ⟨w.heap.size + 1, 0, none⟩) (.inr hb2) (.slice va r'.2.1.length vb)).setCell (p := ⟨w.heap.size + 1, 1, none⟩) (.inr hb2) (.int .i64 r'.1)).setCell (p := ⟨w.heap.size + 1, 2, none⟩) (.inr hb2) (.slice ca cl.length cc))
        have HOe := Lib.hid (((HO4.out.kp (KpR.set HR4.out notNet 0 (.slice va r'.2.1.length vb))).kp (KpR.set (HR4.out.set 0 (.slice va r'.2.1.length vb)) notNet 1 (.int .i64 r'.1))).kp (KpR.set ((HR4.out.set 0 (.slice va r'.2.1.length vb)).set 1 (.int .i64 r'.1)) notNet 2 (.slice ca cl.length cc)))
        simp only [List.setIfInBounds_toArray, List.set_cons_zero, List.set_cons_succ] at HRe
        have S5 : (((w4.setCell ⟨w.heap.size + 1, 0, none⟩ (.slice va r'.2.1.length vb)).setCell ⟨w.heap.size + 1, 1, none⟩ (.int .i64 r'.1)).setCell ⟨w.heap.size + 1, 2, none⟩ (.slice ca cl.length cc)).cell? ⟨w.heap.size, 0, none⟩ = some (.slice (some ⟨gb, 0, none⟩) xs.length lc) ∧ (((w4.setCell ⟨w.heap.size + 1, 0, none⟩ (.slice va r'.2.1.length vb)).setCell ⟨w.heap.size + 1, 1, none⟩ (.int .i64 r'.1)).setCell ⟨w.heap.size + 1, 2, none⟩ (.slice ca cl.length cc)).cell? ⟨w.heap.size, 1, none⟩ = some (.int .i64 last) ∧ (((w4.setCell ⟨w.heap.size + 1, 0, none⟩ (.slice va r'.2.1.length vb)).setCell ⟨w.heap.size + 1, 1, none⟩ (.int .i64 r'.1)).setCell ⟨w.heap.size + 1, 2, none⟩ (.slice ca cl.length cc)).cell? ⟨w.heap.size, 2, none⟩ = some (.slice ca cl.length cc) ∧ (((w4.setCell ⟨w.heap.size + 1, 0, none⟩ (.slice va r'.2.1.length vb)).setCell ⟨w.heap.size + 1, 1, none⟩ (.int .i64 r'.1)).setCell ⟨w.heap.size + 1, 2, none⟩ (.slice ca cl.length cc)).cell? ⟨gb, i * 15 + 2, none⟩ = some (.int .i64 kk) ∧ (((w4.setCell ⟨w.heap.size + 1, 0, none⟩ (.slice va r'.2.1.length vb)).setCell ⟨w.heap.size + 1, 1, none⟩ (.int .i64 r'.1)).setCell ⟨w.heap.size + 1, 2, none⟩ (.slice ca cl.length cc)).cell? ⟨gb, i * 15 + 3, none⟩ = some (.int .i64 kf) ∧ (((w4.setCell ⟨w.heap.size + 1, 0, none⟩ (.slice va r'.2.1.length vb)).setCell ⟨w.heap.size + 1, 1, none⟩ (.int .i64 r'.1)).setCell ⟨w.heap.size + 1, 2, none⟩ (.slice ca cl.length cc)).cell? ⟨gb, i * 15 + 4, none⟩ = some (.int .i64 kd) ∧ (((w4.setCell ⟨w.heap.size + 1, 0, none⟩ (.slice va r'.2.1.length vb)).setCell ⟨w.heap.size + 1, 1, none⟩ (.int .i64 r'.1)).setCell ⟨w.heap.size + 1, 2, none⟩ (.slice ca cl.length cc)).cell? ⟨gb, i * 15 + 5, none⟩ = some (.int .i64 kt) ∧ (((w4.setCell ⟨w.heap.size + 1, 0, none⟩ (.slice va r'.2.1.length vb)).setCell ⟨w.heap.size + 1, 1, none⟩ (.int .i64 r'.1)).setCell ⟨w.heap.size + 1, 2, none⟩ (.slice ca cl.length cc)).cell? ⟨gb, i * 15 + 6, none⟩ = some (.int .i64 ki) ∧ (((w4.setCell ⟨w.heap.size + 1, 0, none⟩ (.slice va r'.2.1.length vb)).setCell ⟨w.heap.size + 1, 1, none⟩ (.int .i64 r'.1)).setCell ⟨w.heap.size + 1, 2, none⟩ (.slice ca cl.length cc)).cell? ⟨gb, i * 15 + 7, none⟩ = some (.int .i64 kl) ∧ (((w4.setCell ⟨w.heap.size + 1, 0, none⟩ (.slice va r'.2.1.length vb)).setCell ⟨w.heap.size + 1, 1, none⟩ (.int .i64 r'.1)).setCell ⟨w.heap.size + 1, 2, none⟩ (.slice ca cl.length cc)).cell? ⟨gb, i * 15 + 8, none⟩ = some (.int .i64 kc0) ∧ (((w4.setCell ⟨w.heap.size + 1, 0, none⟩ (.slice va r'.2.1.length vb)).setCell ⟨w.heap.size + 1, 1, none⟩ (.int .i64 r'.1)).setCell ⟨w.heap.size + 1, 2, none⟩ (.slice ca cl.length cc)).cell? ⟨gb, i * 15 + 9, none⟩ = some (.bool ky) ∧ (((w4.setCell ⟨w.heap.size + 1, 0, none⟩ (.slice va r'.2.1.length vb)).setCell ⟨w.heap.size + 1, 1, none⟩ (.int .i64 r'.1)).setCell ⟨w.heap.size + 1, 2, none⟩ (.slice ca cl.length cc)).cell? ⟨gb, i * 15 + 10, none⟩ = some (.slice ea ks.length ec) ∧ (((w4.setCell ⟨w.heap.size + 1, 0, none⟩ (.slice va r'.2.1.length vb)).setCell ⟨w.heap.size + 1, 1, none⟩ (.int .i64 r'.1)).setCell ⟨w.heap.size + 1, 2, none⟩ (.slice ca cl.length cc)).cell? ⟨gb, i * 15 + 11, none⟩ = some (.int .i64 ksi) ∧ (((w4.setCell ⟨w.heap.size + 1, 0, none⟩ (.slice va r'.2.1.length vb)).setCell ⟨w.heap.size + 1, 1, none⟩ (.int .i64 r'.1)).setCell ⟨w.heap.size + 1, 2, none⟩ (.slice ca cl.length cc)).cell? ⟨gb, i * 15 + 12, none⟩ = some (.int .i64 kst) ∧ (((w4.setCell ⟨w.heap.size + 1, 0, none⟩ (.slice va r'.2.1.length vb)).setCell ⟨w.heap.size + 1, 1, none⟩ (.int .i64 r'.1)).setCell ⟨w.heap.size + 1, 2, none⟩ (.slice ca cl.length cc)).cell? ⟨gb, i * 15 + 13, none⟩ = some (.int .i64 ksm) ∧ (((w4.setCell ⟨w.heap.size + 1, 0, none⟩ (.slice va r'.2.1.length vb)).setCell ⟨w.heap.size + 1, 1, none⟩ (.int .i64 r'.1)).setCell ⟨w.heap.size + 1, 2, none⟩ (.slice ca cl.length cc)).cell? ⟨gb, i * 15 + 14, none⟩ = some (.string ksx) := by
          obtain ⟨s0, s1, s2, s3, s4, s5, s6, s7, s8, s9, s10, s11, s12, s13, s14, s15⟩ := S4
          exact ⟨farC (farC (farC s0 (by show w.heap.size + 1 ≠ w.heap.size; omega)) (by show w.heap.size + 1 ≠ w.heap.size; omega)) (by show w.heap.size + 1 ≠ w.heap.size; omega), farC (farC (farC s1 (by show w.heap.size + 1 ≠ w.heap.size; omega)) (by show w.heap.size + 1 ≠ w.heap.size; omega)) (by show w.heap.size + 1 ≠ w.heap.size; omega), farC (farC (farC s2 (by show w.heap.size + 1 ≠ w.heap.size; omega)) (by show w.heap.size + 1 ≠ w.heap.size; omega)) (by show w.heap.size + 1 ≠ w.heap.size; omega), farC (farC (farC s3 (by show w.heap.size + 1 ≠ gb; omega)) (by show w.heap.size + 1 ≠ gb; omega)) (by show w.heap.size + 1 ≠ gb; omega), farC (farC (farC s4 (by show w.heap.size + 1 ≠ gb; omega)) (by show w.heap.size + 1 ≠ gb; omega)) (by show w.heap.size + 1 ≠ gb; omega), farC (farC (farC s5 (by show w.heap.size + 1 ≠ gb; omega)) (by show w.heap.size + 1 ≠ gb; omega)) (by show w.heap.size + 1 ≠ gb; omega), farC (farC (farC s6 (by show w.heap.size + 1 ≠ gb; omega)) (by show w.heap.size + 1 ≠ gb; omega)) (by show w.heap.size + 1 ≠ gb; omega), farC (farC (farC s7 (by show w.heap.size + 1 ≠ gb; omega)) (by show w.heap.size + 1 ≠ gb; omega)) (by show w.heap.size + 1 ≠ gb; omega), farC (farC (farC s8 (by show w.heap.size + 1 ≠ gb; omega)) (by show w.heap.size + 1 ≠ gb; omega)) (by show w.heap.size + 1 ≠ gb; omega), farC (farC (farC s9 (by show w.heap.size + 1 ≠ gb; omega)) (by show w.heap.size + 1 ≠ gb; omega)) (by show w.heap.size + 1 ≠ gb; omega), farC (farC (farC s10 (by show w.heap.size + 1 ≠ gb; omega)) (by show w.heap.size + 1 ≠ gb; omega)) (by show w.heap.size + 1 ≠ gb; omega), farC (farC (farC s11 (by show w.heap.size + 1 ≠ gb; omega)) (by show w.heap.size + 1 ≠ gb; omega)) (by show w.heap.size + 1 ≠ gb; omega), farC (farC (farC s12 (by show w.heap.size + 1 ≠ gb; omega)) (by show w.heap.size + 1 ≠ gb; omega)) (by show w.heap.size + 1 ≠ gb; omega), farC (farC (farC s13 (by show w.heap.size + 1 ≠ gb; omega)) (by show w.heap.size + 1 ≠ gb; omega)) (by show w.heap.size + 1 ≠ gb; omega), farC (farC (farC s14 (by show w.heap.size + 1 ≠ gb; omega)) (by show w.heap.size + 1 ≠ gb; omega)) (by show w.heap.size + 1 ≠ gb; omega), farC (farC (farC s15 (by show w.heap.size + 1 ≠ gb; omega)) (by show w.heap.size + 1 ≠ gb; omega)) (by show w.heap.size + 1 ≠ gb; omega)⟩
        refine hK.out _ _ (fun _ => S5) ?_
        clear hK K S4 z0 z1 z2 fz0 fz1 fz2 HR4 HB4 HM4 HO4
        try simp only [Act.put, List.setIfInBounds_toArray, List.set_cons_zero, List.set_cons_succ]
        generalize World.setCell _ ⟨w.heap.size + 1, 2, none⟩ _ = we at *
        refine He.wpE_one (i := 14) (by kernel_rfl) rfl (by rfl) (fun K hK => ?_)
        go_simp
        refine hK.out _ _ (fun _ => S5) ?_
        clear hK K
        try simp only [Act.put, List.setIfInBounds_toArray, List.set_cons_zero, List.set_cons_succ]
        refine He.wpE_one (i := 15) (by kernel_rfl) rfl (by rfl) (fun K hK => ?_)
        go_simp
        refine hK.out _ _ (fun h => absurd rfl h) ?_
        clear hK K
        refine He.wpE_done (by kernel_rfl) ?_
        try simp only [Act.put, List.setIfInBounds_toArray, List.set_cons_zero, List.set_cons_succ]
        have r0 := HRe.out.cell 0
        have r1 := HRe.out.cell 1
        have r2 := HRe.out.cell 2
        go_wp2_with fail
        refine bodyPost_ret (v := .tuple #[.agg #[.slice va r'.2.1.length vb, .int .i64 r'.1, .slice ca cl.length cc], .int .i64 r'.2.2.1, .int .i64 r'.2.2.2]) (by simp [results, Try.results44, go_sem, r0, r1, r2]) rfl ?_
        exact HP.out _ _ ⟨HMe.out, _, rfl, HOe.out⟩
      · go_wp2_with fail
        exact ⟨⟨i + 1, rfl, by omega, HNN.out hx, trivial⟩, by simp only [intOf]; omega⟩
    · obtain rfl : i = xs.length := by omega
      rw [List.take_length] at HNO
      have HTW : Hid (twiceR last xs cl id now delay = (last, xs, 0, 4)) := Lib.hid (by
        unfold twiceR
        rw [List.find?_eq_none.2 (fun x hx => by simpa using HNO.out x hx)])
      clear hlt HNO
      go_wp2_with fail
      refine bodyPost_ret (v := .tuple #[.agg #[.slice la xs.length lc, .int .i64 last, .slice ca cl.length cc], .int .i64 0, .int .i64 4]) (by simp [results, Try.results44, go_sem, r0, r1, r2]) rfl ?_
      refine HP.out _ _ ?_
      rw [HTW.out]
      exact ⟨((HMM.out.setCell (.inr hb2) _).setCell (.inr hb2) _).setCell (.inr hb2) _, _, rfl, ((HI.out.kp (KpR.set HR.out notNet 0 _)).kp (KpR.set (HR.out.set 0 _) notNet 1 _)).kp (KpR.set ((HR.out.set 0 _).set 1 _) notNet 2 _)⟩
end Go.Proofs.Ytgmenlfhkhdbdaa.Nt
end
