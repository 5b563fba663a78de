/- Messages: which numbers, entries and snapshots may be: plain, and the program's functions. -/
import Derived.Test.YtgmenlfhkhdbdaaMem
import Derived.Test.YtgmenlfhkhdbdaaBits3
namespace Go.Proofs.Ytgmenlfhkhdbdaa.Ra
open Go.RowKit Mem Bits
set_option linter.unusedSimpArgs false
set_option linter.unusedVariables false
set_option maxRecDepth 100000

/-- An entry; a message. -/
structure En where
  t : Int
  k : Int
  m : Int
  x : ByteArray
structure Ms where
  kind : Int
  frm : Int
  dst : Int
  term : Int
  index : Int
  lt : Int
  commit : Int
  yes : Bool
  es : List En
  si : Int
  st : Int
  sm : Int
  sx : ByteArray
def inB (n a b : Int) : Bool := decide (a ≤ n ∧ n ≤ b)
def ixB (n : Int) : Bool := inB n 0 549755813888
def enB (x : En) : Bool := ixB x.t && decide (x.x.size ≤ 32768) && (if x.k = 2 then inB x.m 1 127 && decide (x.x.size = 0) else decide (x.m = 0) && (decide (x.k = 0) || decide (x.k = 1) && decide (x.x.size = 0)))
def snB (i t m : Int) (x : ByteArray) : Bool := ixB i && ixB t && inB m 0 127 && decide (x.size ≤ 262144)
theorem inB_t {n a b : Int} : inB n a b = true ↔ a ≤ n ∧ n ≤ b := by unfold inB; exact decide_eq_true_iff
theorem inB_f {n a b : Int} : inB n a b = false ↔ ¬ (a ≤ n ∧ n ≤ b) := by unfold inB; exact decide_eq_false_iff_not

/-- A slice of ints; of entries. -/
def IntsV (w : World) (v : Value) (l : List Int) : Prop := ∃ ad cap, v = .slice ad l.length cap ∧ l.length ≤ cap ∧ (l = [] ∨ ∃ b off, ad = some ⟨b, off, none⟩ ∧ ∀ i (hi : i < l.length), w.cell? ⟨b, off + i, none⟩ = some (.int .i64 l[i]))
def EnC (w : World) (b o : Nat) (x : En) : Prop := w.cell? ⟨b, o, none⟩ = some (.int .i64 x.t) ∧ w.cell? ⟨b, o + 1, none⟩ = some (.int .i64 x.k) ∧ w.cell? ⟨b, o + 2, none⟩ = some (.int .i64 x.m) ∧ w.cell? ⟨b, o + 3, none⟩ = some (.string x.x)
def EnsV (w : World) (v : Value) (l : List En) : Prop := ∃ ad cap, v = .slice ad l.length cap ∧ l.length ≤ cap ∧ (l = [] ∨ ∃ b off, ad = some ⟨b, off, none⟩ ∧ ∀ i (hi : i < l.length), EnC w b (off + i * 4) l[i])
abbrev enV (x : En) : Value := .agg #[.int .i64 x.t, .int .i64 x.k, .int .i64 x.m, .string x.x]
abbrev msV (m : Ms) (v : Value) : Value := .agg #[.int .i64 m.kind, .int .i64 m.frm, .int .i64 m.dst, .int .i64 m.term, .int .i64 m.index, .int .i64 m.lt, .int .i64 m.commit, .bool m.yes, v, .int .i64 m.si, .int .i64 m.st, .int .i64 m.sm, .string m.sx]
theorem cell_lt {w : World} {p : Addr} {v : Value} (h : w.cell? p = some v) : p.block < w.heap.size := by
  unfold World.cell? at h
  by_cases hlt : p.block < w.heap.size
  · exact hlt
  · rw [Array.getElem?_eq_none (by omega)] at h; cases h
theorem keepC {a b : World} (m : Mod a b []) {p : Addr} {u : Value} (h : a.cell? p = some u) : b.cell? p = some u := (m.cell (cell_lt h) (by simp)).trans h
theorem IntsV.mod {a b : World} {v : Value} {l : List Int} (h : IntsV a v l) (m : Mod a b []) : IntsV b v l := by
  obtain ⟨ad, cap, h1, h2, h3⟩ := h
  exact ⟨ad, cap, h1, h2, h3.imp id (fun ⟨g, off, e, hc⟩ => ⟨g, off, e, fun i hi => keepC m (hc i hi)⟩)⟩
theorem EnC.mod {a b : World} {g o : Nat} {x : En} (h : EnC a g o x) (m : Mod a b []) : EnC b g o x := ⟨keepC m h.1, keepC m h.2.1, keepC m h.2.2.1, keepC m h.2.2.2⟩
theorem EnsV.mod {a b : World} {v : Value} {l : List En} (h : EnsV a v l) (m : Mod a b []) : EnsV b v l := by
  obtain ⟨ad, cap, h1, h2, h3⟩ := h
  exact ⟨ad, cap, h1, h2, h3.imp id (fun ⟨g, off, e, hc⟩ => ⟨g, off, e, fun i hi => (hc i hi).mod m⟩)⟩

theorem in_calls (n a b : Int) (w : World) : Calls Try.prog 69 #[.int .i64 n, .int .i64 a, .int .i64 b] w fun e w' => e = .returned (.bool (inB n a b)) ∧ w = w' := by
  by_cases h1 : a ≤ n
  · by_cases h2 : n ≤ b
    · rw [inB_t.2 ⟨h1, h2⟩]
      go_enter Try.func69, Try.ntmps69
      go_wp2_with fail
      go_ret
      exact ⟨ret_bool (by simp [h1, h2]), rfl⟩
    · rw [inB_f.2 (fun h => h2 h.2)]
      go_enter Try.func69, Try.ntmps69
      go_wp2_with fail
      go_ret
      exact ⟨ret_bool (by simp [h1, h2]), rfl⟩
  · rw [inB_f.2 (fun h => h1 h.1)]
    go_enter Try.func69, Try.ntmps69
    go_wp2_with fail
    go_ret
    exact ⟨ret_bool (by simp [h1]), rfl⟩
theorem ix1_calls (n : Int) (w : World) : Calls Try.prog 118 #[.int .i64 n] w fun e w' => e = .returned (.bool (!ixB n)) ∧ w = w' := by
  have IC := Lib.hid (in_calls n 0 549755813888 w)
  go_enter Try.func118, Try.ntmps118
  go_wp2_with fail
  (with_reducible refine (IC.out).mono ?_)
  rintro e w1 ⟨rfl, rfl⟩
  go_wp2_with fail
  go_ret
  exact ⟨rfl, rfl⟩
/-- What looking for the first that may not be tells. -/
def FindP (all : Bool) (w : World) (e : Ending) (w' : World) : Prop := ∃ r : Int, e = .returned (.int .i64 r) ∧ Mod w w' [] ∧ (r = -1 ∧ all = true ∨ 0 ≤ r ∧ all = false)
theorem all_bad {α : Type} {p : α → Bool} {l : List α} {i : Nat} (hi : i < l.length) (h : p l[i] = false) : l.all p = false := by
  rw [List.all_eq_false]
  exact ⟨l[i], List.getElem_mem hi, by simp [h]⟩
theorem all_good {α : Type} {p : α → Bool} {l : List α} (h : ∀ i (hi : i < l.length), p l[i] = true) : l.all p = true := by
  rw [List.all_eq_true]
  intro x hx
  obtain ⟨i, hi, rfl⟩ := List.getElem_of_mem hx
  exact h i hi
set_option maxHeartbeats 2000000 in
theorem ixfind_calls (v : Value) (l : List Int) (w : World) (h : IntsV w v l) (hn : l.length ≤ 1000) :
    Calls Try.prog 144 #[v, .func (.func 118) #[] #[]] w (FindP (l.all ixB) w) := by
  obtain ⟨ad, cap, rfl, hc, hr⟩ := h
  have HR := Lib.hid hr
  have hn' : (l.length : Int) ≤ 1000 := by omega
  clear hr hc
  go_enter Try.func144, Try.ntmps144
  go_wp2_with fail
  go_loopw [8] (fun vi wr => ∃ i : Nat, i ≤ l.length ∧ vi = .int .i64 (i : Int) ∧ Mod w wr [] ∧ Hid (∀ t (ht : t < l.length), t < i → ixB l[t] = true)) (fun vi _ => l.length + 1 - (intOf vi).toNat)
  case atStart => exact ⟨0, Nat.zero_le _, rfl, Mod.refl _ _, Lib.hid (fun t _ h => by omega)⟩
  case round =>
    obtain ⟨i, hi, rfl, hm, HJ⟩ := hrel
    have HM := Lib.hid hm
    clear hm
    by_cases hlt : i < l.length
    · have hlt' : (i : Int) < l.length := by omega
      obtain ⟨b, off, rfl, hcs⟩ := HR.out.resolve_left (fun h => by rw [h] at hlt; simp at hlt)
      have e0 := keepC HM.out (hcs i hlt)
      have HX := Lib.hid (fun h => all_bad (p := ixB) hlt h)
      have HY : Hid (ixB l[i] = true → ∀ t (ht : t < l.length), t < i + 1 → ixB l[t] = true) := Lib.hid (fun h t ht hti => by
        by_cases e : t = i
        · subst e; exact h
        · exact HJ.out t ht (by omega))
      clear hcs HR HJ
      generalize l[i]'hlt = x at *
      have IC := Lib.hid (ix1_calls x wr)
      by_cases hx : ixB x = true
      · have HZ := Lib.hid (HY.out hx)
        rw [hx] at IC
        clear HX HY hx
        go_wp2_with fail
        (with_reducible refine IC.out.mono ?_)
        rintro e w1 ⟨rfl, rfl⟩
        go_wp2_with fail
        go_roundw
        case rel => exact ⟨i + 1, by omega, by go_num, HM.out, HZ⟩
        case measure => simp [intOf]; omega
      · have hx' : ixB x = false := by simpa using hx
        have HZ := Lib.hid (HX.out hx')
        rw [hx'] at IC
        clear HX HY hx hx'
        go_wp2_with fail
        (with_reducible refine IC.out.mono ?_)
        rintro e w1 ⟨rfl, rfl⟩
        go_wp2_with fail
        go_ret
        exact ⟨_, rfl, HM.out, .inr ⟨by omega, HZ.out⟩⟩
    · have hge : (l.length : Int) ≤ i := by omega
      have HZ := Lib.hid (all_good (p := ixB) (l := l) (fun t ht => HJ.out t ht (by omega)))
      clear HJ
      go_wp2_with fail
      go_ret
      exact ⟨_, rfl, HM.out, .inl ⟨rfl, HZ.out⟩⟩
theorem ixcont_calls (v : Value) (l : List Int) (w : World) (h : IntsV w v l) (hn : l.length ≤ 1000) :
    Calls Try.prog 117 #[v, .func (.func 118) #[] #[]] w fun e w' => e = .returned (.bool (!l.all ixB)) ∧ Mod w w' [] := by
  have FC := Lib.hid (ixfind_calls v l w h hn)
  clear h
  go_enter Try.func117, Try.ntmps117
  go_wp2_with fail
  (with_reducible refine FC.out.mono ?_)
  rintro e w1 ⟨r, rfl, hm, hr⟩
  have HM := Lib.hid hm
  clear hm
  rcases hr with ⟨rfl, ha⟩ | ⟨hr, ha⟩
  · have HA := Lib.hid ha
    clear ha
    go_wp2_with fail
    go_ret
    exact ⟨ret_bool (by rw [HA.out]; rfl), HM.out⟩
  · have HA := Lib.hid ha
    clear ha
    go_wp2_with fail
    go_ret
    exact ⟨ret_bool (by rw [HA.out]; simp [hr]), HM.out⟩
theorem index_calls (v : Value) (l : List Int) (w : World) (h : IntsV w v l) (hn : l.length ≤ 1000) :
    Calls Try.prog 70 #[v] w fun e w' => e = .returned (.bool (l.all ixB)) ∧ Mod w w' [] := by
  have FC := Lib.hid (ixcont_calls v l w h hn)
  clear h
  go_enter Try.func70, Try.ntmps70
  go_wp2_with fail
  (with_reducible refine FC.out.mono ?_)
  rintro e w1 ⟨rfl, hm⟩
  have HM := Lib.hid hm
  clear hm
  go_wp2_with fail
  go_ret
  exact ⟨ret_bool (by simp), HM.out⟩
end Go.Proofs.Ytgmenlfhkhdbdaa.Ra
