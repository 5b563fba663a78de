/- The law EventOrder. -/
import Derived.Test.YtdmipmkgoefidaaEvA
import Derived.Test.YtdmipmkgoefidaaBl
namespace Go.Proofs.Ytdmipmkgoefidaa.Ev
open Go.RowKit Mem Bits EvH
set_option linter.unusedSimpArgs false
set_option linter.unusedVariables false
set_option maxRecDepth 100000

/-- How two values stand, as the law asks. -/
def sdW (k n : Int) (f : Nat) (s : ByteArray) (k' n' : Int) (f' : Nat) (s' : ByteArray) : Int :=
  if (1 ≤ k ∧ k ≤ 3) ∧ (1 ≤ k' ∧ k' ≤ 3) then refW (stW k n f s k' n' f' s') else 2

/-- The kind of a value that can be compared: 1 a number, 2 a text, 0 none. -/
def clsV (k : Int) (f : Nat) : Nat := if k = 1 then 1 else if k = 2 then (if Fl.nanB f then 0 else 1) else if k = 3 then 2 else 0
def numV (k n : Int) (f : Nat) : Int := if k = 1 then Fl.NV n else Fl.SV f

theorem cmpI_swap (x y : Int) : cmpI y x = - cmpI x y := by
  rcases cmp_cases x y with ⟨h, e⟩ | ⟨h, e⟩ | ⟨h, e⟩ <;> rw [e]
  · rw [cmpI_gt h]; rfl
  · rw [cmpI_eq h.symm]; rfl
  · rw [cmpI_lt h]

theorem sdW_eq (k n : Int) (f : Nat) (s : ByteArray) (k' n' : Int) (f' : Nat) (s' : ByteArray) :
    sdW k n f s k' n' f' s' = if clsV k f = 1 ∧ clsV k' f' = 1 then cmpI (numV k n f) (numV k' n' f') else if clsV k f = 2 ∧ clsV k' f' = 2 then cmpS s s' else 2 := by
  have h1 := cmpS_bd s s'
  have h2 := cmpI_bd n n'
  have h3 := cmpI_bd (Fl.NV n) (Fl.SV f')
  have h4 := cmpI_bd (Fl.NV n') (Fl.SV f)
  have h5 := cmpI_bd (Fl.SV f) (Fl.SV f')
  have h6 := cmpI_swap (Fl.NV n') (Fl.SV f)
  have h7 : cmpI (Fl.NV n) (Fl.NV n') = cmpI n n' := by unfold cmpI; simp only [Fl.NV_lt]; have a := Fl.NV_lt n n'; have b := Fl.NV_lt n' n; by_cases h : n < n' <;> simp [h]; by_cases e : n = n' <;> simp [e]; omega
  have a1 : k = 1 ∨ k = 2 ∨ k = 3 ∨ (k ≠ 1 ∧ k ≠ 2 ∧ k ≠ 3 ∧ ¬ (1 ≤ k ∧ k ≤ 3)) := by omega
  have a2 : k' = 1 ∨ k' = 2 ∨ k' = 3 ∨ (k' ≠ 1 ∧ k' ≠ 2 ∧ k' ≠ 3 ∧ ¬ (1 ≤ k' ∧ k' ≤ 3)) := by omega
  unfold sdW stW clsV numV mixW realW turnW refW
  rcases a1 with rfl | rfl | rfl | ⟨o1, o2, o3, o4⟩ <;> rcases a2 with rfl | rfl | rfl | ⟨p1, p2, p3, p4⟩ <;> cases Fl.nanB f <;> cases Fl.nanB f' <;> simp [*] <;> first | omega | (split <;> omega) | (repeat' split) <;> omega

theorem cmpS_swap (a b : ByteArray) : cmpS b a = - cmpS a b := by
  unfold cmpS
  rcases Bt.str_tri a b with ⟨h1, h2, h3, h4⟩ | ⟨h1, h2, h3, h4⟩ | ⟨h1, h2, h3, h4⟩ <;> rw [h1, h2, h3, h4] <;> rfl
theorem cmpS_lt (a b : ByteArray) : cmpS a b = -1 ↔ Op.bytesLess a.toList b.toList = true := by
  unfold cmpS
  rcases Bt.str_tri a b with ⟨h1, h2, h3, h4⟩ | ⟨h1, h2, h3, h4⟩ | ⟨h1, h2, h3, h4⟩ <;> rw [h1, h3] <;> simp
theorem cmpS_eq (a b : ByteArray) : cmpS a b = 0 ↔ a.toList = b.toList := by
  unfold cmpS
  rcases Bt.str_tri a b with ⟨h1, h2, h3, h4⟩ | ⟨h1, h2, h3, h4⟩ | ⟨h1, h2, h3, h4⟩ <;> rw [h1, h3]
  · rw [beq_eq_false_iff_ne] at h3; simp [h3]
  · rw [beq_iff_eq] at h3; simp [h3]
  · rw [beq_eq_false_iff_ne] at h3; simp [h3]
theorem cmpS_congr {a b c : ByteArray} (h : a.toList = b.toList) : cmpS a c = cmpS b c ∧ cmpS c a = cmpS c b := by
  unfold cmpS; rw [h]; exact ⟨rfl, rfl⟩
theorem cmpS_trans (a b c : ByteArray) : (cmpS a b = 0 → cmpS a c = cmpS b c) ∧ (cmpS b c = 0 → cmpS a c = cmpS a b) ∧ (cmpS a b = cmpS b c → cmpS a c = cmpS a b) := by
  have hab := cmpS_bd a b
  have tr1 := Bt.less_trans a.toList b.toList c.toList
  have tr2 := Bt.less_trans c.toList b.toList a.toList
  have e1 : cmpS a b = 0 → cmpS a c = cmpS b c := fun h => (cmpS_congr ((cmpS_eq a b).1 h)).1
  have e2 : cmpS b c = 0 → cmpS a c = cmpS a b := fun h => ((cmpS_congr ((cmpS_eq b c).1 h)).2).symm
  refine ⟨e1, e2, fun h => ?_⟩
  rcases (by omega : cmpS a b = -1 ∨ cmpS a b = 0 ∨ cmpS a b = 1) with g | g | g
  · rw [g] at h ⊢
    exact (cmpS_lt a c).2 (tr1 ((cmpS_lt a b).1 g) ((cmpS_lt b c).1 h.symm))
  · exact e2 (by omega)
  · have g1 : cmpS b a = -1 := by rw [cmpS_swap, g]
    have g2 : cmpS c b = -1 := by rw [cmpS_swap, ← h, g]
    have g3 := (cmpS_lt c a).2 (tr2 ((cmpS_lt c b).1 g2) ((cmpS_lt b a).1 g1))
    have := cmpS_swap c a
    omega
theorem cmpI_trans (a b c : Int) : (cmpI a b = 0 → cmpI a c = cmpI b c) ∧ (cmpI b c = 0 → cmpI a c = cmpI a b) ∧ (cmpI a b = cmpI b c → cmpI a c = cmpI a b) := by
  rcases cmp_cases a b with ⟨h, e⟩ | ⟨h, e⟩ | ⟨h, e⟩ <;> rcases cmp_cases b c with ⟨h', e'⟩ | ⟨h', e'⟩ | ⟨h', e'⟩ <;> rcases cmp_cases a c with ⟨h2, e2⟩ | ⟨h2, e2⟩ | ⟨h2, e2⟩ <;> rw [e, e', e2] <;> omega

theorem sd_swap (k n : Int) (f : Nat) (s : ByteArray) (k' n' : Int) (f' : Nat) (s' : ByteArray) :
    -1 ≤ sdW k n f s k' n' f' s' ∧ sdW k n f s k' n' f' s' ≤ 2 ∧ (sdW k n f s k' n' f' s' = 2 → sdW k' n' f' s' k n f s = 2) ∧ (sdW k n f s k' n' f' s' ≠ 2 → sdW k' n' f' s' k n f s = - sdW k n f s k' n' f' s') := by
  rw [sdW_eq, sdW_eq]
  have h1 := cmpS_bd s s'
  have h2 := cmpI_bd (numV k n f) (numV k' n' f')
  have h3 := cmpS_swap s s'
  have h4 := cmpI_swap (numV k n f) (numV k' n' f')
  by_cases c : clsV k f = 1 ∧ clsV k' f' = 1
  · rw [if_pos c, if_pos ⟨c.2, c.1⟩]; omega
  · rw [if_neg c, if_neg (fun g : clsV k' f' = 1 ∧ clsV k f = 1 => c ⟨g.2, g.1⟩)]
    by_cases d : clsV k f = 2 ∧ clsV k' f' = 2
    · rw [if_pos d, if_pos ⟨d.2, d.1⟩]; omega
    · rw [if_neg d, if_neg (fun g : clsV k' f' = 2 ∧ clsV k f = 2 => d ⟨g.2, g.1⟩)]; omega

theorem sd_trans (k n : Int) (f : Nat) (s : ByteArray) (k' n' : Int) (f' : Nat) (s' : ByteArray) (k2 n2 : Int) (f2 : Nat) (s2 : ByteArray) (hx : sdW k n f s k' n' f' s' ≠ 2) (hy : sdW k' n' f' s' k2 n2 f2 s2 ≠ 2) :
    sdW k n f s k2 n2 f2 s2 ≠ 2 ∧ (sdW k n f s k' n' f' s' = 0 → sdW k n f s k2 n2 f2 s2 = sdW k' n' f' s' k2 n2 f2 s2) ∧ (sdW k' n' f' s' k2 n2 f2 s2 = 0 → sdW k n f s k2 n2 f2 s2 = sdW k n f s k' n' f' s') ∧ (sdW k n f s k' n' f' s' = sdW k' n' f' s' k2 n2 f2 s2 → sdW k n f s k2 n2 f2 s2 = sdW k n f s k' n' f' s') := by
  rw [sdW_eq] at hx hy
  rw [sdW_eq, sdW_eq, sdW_eq]
  have t1 := cmpI_trans (numV k n f) (numV k' n' f') (numV k2 n2 f2)
  have t2 := cmpS_trans s s' s2
  have b1 := cmpI_bd (numV k n f) (numV k2 n2 f2)
  have b2 := cmpS_bd s s2
  by_cases c : clsV k f = 1 ∧ clsV k' f' = 1
  · rw [if_pos c]
    by_cases d : clsV k2 f2 = 1
    · rw [if_pos (show clsV k' f' = 1 ∧ clsV k2 f2 = 1 from ⟨c.2, d⟩), if_pos (show clsV k f = 1 ∧ clsV k2 f2 = 1 from ⟨c.1, d⟩)]
      exact ⟨by omega, t1⟩
    · rw [if_neg (show ¬ (clsV k' f' = 1 ∧ clsV k2 f2 = 1) from fun g => d g.2), if_neg (show ¬ (clsV k' f' = 2 ∧ clsV k2 f2 = 2) from fun g => by omega)] at hy
      exact absurd rfl hy
  · rw [if_neg c] at hx
    by_cases c' : clsV k f = 2 ∧ clsV k' f' = 2
    · by_cases d : clsV k2 f2 = 2
      · rw [if_neg c, if_pos c', if_neg (show ¬ (clsV k' f' = 1 ∧ clsV k2 f2 = 1) from fun g => by omega), if_pos (show clsV k' f' = 2 ∧ clsV k2 f2 = 2 from ⟨c'.2, d⟩), if_neg (show ¬ (clsV k f = 1 ∧ clsV k2 f2 = 1) from fun g => by omega), if_pos (show clsV k f = 2 ∧ clsV k2 f2 = 2 from ⟨c'.1, d⟩)]
        exact ⟨by omega, t2⟩
      · rw [if_neg (show ¬ (clsV k' f' = 1 ∧ clsV k2 f2 = 1) from fun g => by omega), if_neg (show ¬ (clsV k' f' = 2 ∧ clsV k2 f2 = 2) from fun g => d g.2)] at hy
        exact absurd rfl hy
    · rw [if_neg c'] at hx
      exact absurd rfl hx

theorem sd_sign (k n : Int) (f : Nat) (s : ByteArray) (k' n' : Int) (f' : Nat) (s' : ByteArray) :
    (sdW k n f s k' n' f' s' = -1 ∧ holdsV 3 k n f s k' n' f' s' = true ∧ holdsV 1 k n f s k' n' f' s' = false ∧ holdsV 5 k n f s k' n' f' s' = false) ∨
    (sdW k n f s k' n' f' s' = 0 ∧ holdsV 3 k n f s k' n' f' s' = false ∧ holdsV 1 k n f s k' n' f' s' = true ∧ holdsV 5 k n f s k' n' f' s' = false) ∨
    (sdW k n f s k' n' f' s' = 1 ∧ holdsV 3 k n f s k' n' f' s' = false ∧ holdsV 1 k n f s k' n' f' s' = false ∧ holdsV 5 k n f s k' n' f' s' = true) ∨
    (sdW k n f s k' n' f' s' = 2 ∧ holdsV 3 k n f s k' n' f' s' = false ∧ holdsV 1 k n f s k' n' f' s' = false ∧ holdsV 5 k n f s k' n' f' s' = false) := by
  have hW := stW_bd k n f s k' n' f' s'
  unfold sdW holdsV
  generalize stW k n f s k' n' f' s' = W at *
  by_cases h1 : 1 ≤ k ∧ k ≤ 3
  · by_cases h2 : 1 ≤ k' ∧ k' ≤ 3
    · rw [if_pos ⟨h1, h2⟩, decide_eq_true h1, decide_eq_true h2]
      rcases (by omega : W = 0 ∨ W = 1 ∨ W = 2 ∨ W = 3) with rfl | rfl | rfl | rfl <;> decide
    · rw [if_neg (fun h => h2 h.2), decide_eq_false h2]; simp
  · rw [if_neg (fun h => h1 h.1), decide_eq_false h1]; simp

theorem lawstands_calls (k n : Int) (f : Nat) (s : ByteArray) (k' n' : Int) (f' : Nat) (s' : ByteArray) (b1 : -9223372036854775808 ≤ n) (b2 : n ≤ 9223372036854775807) (b3 : -9223372036854775808 ≤ n') (b4 : n' ≤ 9223372036854775807) (w : World) :
    Calls Try.prog 20 #[valV k n f s, valV k' n' f' s'] w fun e w' => e = .returned (.int .i64 (sdW k n f s k' n' f' s')) ∧ Mod w w' [] := by
  have H3 := Lib.hid (fun w => holdsV_calls 3 k n f s k' n' f' s' b1 b2 b3 b4 w)
  have H1 := Lib.hid (fun w => holdsV_calls 1 k n f s k' n' f' s' b1 b2 b3 b4 w)
  have H5 := Lib.hid (fun w => holdsV_calls 5 k n f s k' n' f' s' b1 b2 b3 b4 w)
  have hs := sd_sign k n f s k' n' f' s'
  generalize holdsV 3 k n f s k' n' f' s' = x3 at *
  generalize holdsV 1 k n f s k' n' f' s' = x1 at *
  generalize holdsV 5 k n f s k' n' f' s' = x5 at *
  generalize sdW k n f s k' n' f' s' = R at *
  have HB0 := Lib.hid ((Blk.new w #[.int .i64 k, .int .i64 n, .float .f64 f, .string s] 42).alloc (.cells #[.int .i64 k', .int .i64 n', .float .f64 f', .string s'] 42))
  have hb1 := Blk.new (w.alloc (.cells #[.int .i64 k, .int .i64 n, .float .f64 f, .string s] 42)) #[.int .i64 k', .int .i64 n', .float .f64 f', .string s'] 42
  rw [World.size_alloc] at hb1
  have HB1 := Lib.hid hb1
  have HM0 := Lib.hid (((Mod.refl w []).alloc (.cells #[.int .i64 k, .int .i64 n, .float .f64 f, .string s] 42)).alloc (.cells #[.int .i64 k', .int .i64 n', .float .f64 f', .string s'] 42))
  clear b1 b2 b3 b4 hb1
  rcases hs with ⟨rfl, rfl, rfl, rfl⟩ | ⟨rfl, rfl, rfl, rfl⟩ | ⟨rfl, rfl, rfl, rfl⟩ | ⟨rfl, rfl, rfl, rfl⟩
  all_goals
    go_enter Try.func20, Try.ntmps20
    go_wp2_with fail
    generalize (w.alloc _).alloc _ = W at HB0 HB1 HM0 ⊢
    obtain ⟨v0, v1, v2, v3⟩ := BlkA HB0.out
    obtain ⟨u0, u1, u2, u3⟩ := BlkA HB1.out
    (refine wp_region_quiet_after (by kernel_rfl) (by kernel_rfl) ?_; (repeat (go_big_quiet_step ((first | (with_reducible refine after_of (H3.out _)) | (with_reducible refine after_of (H1.out _)) | (with_reducible refine after_of (H5.out _)))))); refine wpQuiet_nil ?_; intro wq hw'; obtain ⟨⟨wq2, hmq⟩, hw''⟩ := hw'; subst hw'')
    have M1 := Lib.hid (HM0.out.trans0 hmq)
    clear v0 v1 v2 v3 u0 u1 u2 u3 hmq
    go_wp2_with fail
    go_ret
    exact ⟨rfl, M1.out⟩

theorem Blk4' {w : World} {g : Nat} {a b c d : Value} {t : TypeId} (h : Blk w g #[a, b, c, d] t) : w.cell? ⟨g, 0, none⟩ = some a ∧ w.cell? ⟨g, 1, none⟩ = some b ∧ w.cell? ⟨g, 2, none⟩ = some c ∧ w.cell? ⟨g, 3, none⟩ = some d := Blk4 h

set_option maxHeartbeats 4000000 in
theorem eventOrder_calls (w : World) (ca : Array Value) (ha : Open.Rd w valSh ca.toList) (cb : Array Value) (hb : Open.Rd w valSh cb.toList) (cc : Array Value) (hc : Open.Rd w valSh cc.toList) :
    Calls Try.prog 6 #[.agg ca, .agg cb, .agg cc] w fun e w' => e = .returned (.bool true) ∧ Below w.heap.size w w' := by
  obtain ⟨a, ea, oa⟩ := val_rd ha
  obtain ⟨b, eb, ob⟩ := val_rd hb
  obtain ⟨c, ec, oc⟩ := val_rd hc
  obtain rfl := arr_of ea
  obtain rfl := arr_of eb
  obtain rfl := arr_of ec
  obtain ⟨k, n, f, s⟩ := a
  obtain ⟨k', n', f', s'⟩ := b
  obtain ⟨k2, n2, f2, s2⟩ := c
  have H1 := Lib.hid (fun w => lawstands_calls k n f s k' n' f' s' oa.n1 oa.n2 ob.n1 ob.n2 w)
  have H2 := Lib.hid (fun w => lawstands_calls k' n' f' s' k2 n2 f2 s2 ob.n1 ob.n2 oc.n1 oc.n2 w)
  have H3 := Lib.hid (fun w => lawstands_calls k n f s k2 n2 f2 s2 oa.n1 oa.n2 oc.n1 oc.n2 w)
  have H4 := Lib.hid (fun w => lawstands_calls k' n' f' s' k n f s ob.n1 ob.n2 oa.n1 oa.n2 w)
  have sw := sd_swap k n f s k' n' f' s'
  have sy := sd_swap k' n' f' s' k2 n2 f2 s2
  have sz := sd_swap k n f s k2 n2 f2 s2
  have tr := sd_trans k n f s k' n' f' s' k2 n2 f2 s2
  generalize sdW k n f s k' n' f' s' = x at *
  generalize sdW k' n' f' s' k2 n2 f2 s2 = y at *
  generalize sdW k n f s k2 n2 f2 s2 = z at *
  generalize sdW k' n' f' s' k n f s = xr at *
  have AW := Lib.hid awake_calls
  have HB0 := Lib.hid (((Blk.new w #[.int .i64 k, .int .i64 n, .float .f64 f, .string s] 42).alloc (.cells #[.int .i64 k', .int .i64 n', .float .f64 f', .string s'] 42)).alloc (.cells #[.int .i64 k2, .int .i64 n2, .float .f64 f2, .string s2] 42))
  have hb1 := (Blk.new (w.alloc (.cells #[.int .i64 k, .int .i64 n, .float .f64 f, .string s] 42)) #[.int .i64 k', .int .i64 n', .float .f64 f', .string s'] 42).alloc (.cells #[.int .i64 k2, .int .i64 n2, .float .f64 f2, .string s2] 42)
  rw [World.size_alloc] at hb1
  have HB1 := Lib.hid hb1
  have hb2 := Blk.new ((w.alloc (.cells #[.int .i64 k, .int .i64 n, .float .f64 f, .string s] 42)).alloc (.cells #[.int .i64 k', .int .i64 n', .float .f64 f', .string s'] 42)) #[.int .i64 k2, .int .i64 n2, .float .f64 f2, .string s2] 42
  rw [World.size_alloc, World.size_alloc] at hb2
  have HB2 := Lib.hid hb2
  have HM0 := Lib.hid ((((Mod.refl w []).alloc (.cells #[.int .i64 k, .int .i64 n, .float .f64 f, .string s] 42)).alloc (.cells #[.int .i64 k', .int .i64 n', .float .f64 f', .string s'] 42)).alloc (.cells #[.int .i64 k2, .int .i64 n2, .float .f64 f2, .string s2] 42))
  have TR := Lib.hid tr
  have SW := Lib.hid sw
  clear oa ob oc ea eb ec ha hb hc hb1 hb2 tr
  have y3 : (y == 3) = false := by rw [beq_eq_false_iff_ne]; omega
  have z3 : (z == 3) = false := by rw [beq_eq_false_iff_ne]; omega
  have hx : x = 2 ∨ x = -1 ∨ x = 0 ∨ x = 1 := by omega
  have hy : y = 2 ∨ y = -1 ∨ y = 0 ∨ y = 1 := by omega
  have hz : z = 2 ∨ z = -1 ∨ z = 0 ∨ z = 1 := by omega
  clear sw sy sz
  have HY := Lib.hid hy
  have HZ := Lib.hid hz
  go_enter Try.func6, Try.ntmps6
  go_wp2_with fail
  generalize ((w.alloc _).alloc _).alloc _ = W at HB0 HB1 HB2 HM0 ⊢
  obtain ⟨v0, v1, v2, v3⟩ := BlkA HB0.out
  obtain ⟨u0, u1, u2, u3⟩ := BlkA HB1.out
  obtain ⟨t0, t1, t2, t3⟩ := BlkA HB2.out
  (refine wp_region_quiet_after (by kernel_rfl) (by kernel_rfl) ?_; (repeat (go_big_quiet_step ((first | (with_reducible refine after_of (H1.out _)) | (with_reducible refine after_of (H2.out _)) | (with_reducible refine after_of (H3.out _)))))); refine wpQuiet_nil ?_; intro wq hw'; obtain ⟨⟨wq2, hmq⟩, hw''⟩ := hw'; subst hw'')
  have M1 := Lib.hid (HM0.out.trans0 hmq)
  have C0 := Lib.hid (HB0.out.mod hmq (by simp))
  have C1 := Lib.hid (HB1.out.mod hmq (by simp))
  clear v0 v1 v2 v3 u0 u1 u2 u3 t0 t1 t2 t3 hmq hy hz
  obtain ⟨b0, b1, b2, b3⟩ := Blk4 C0.out
  obtain ⟨d0, d1, d2, d3⟩ := Blk4 C1.out
  rcases hx with rfl | rfl | rfl | rfl
  · have hxr : xr = 2 := SW.out.2.2.1 rfl
    subst hxr
    go_wp2_with fail
    refine (H4.out _).mono ?_
    rintro e w1 ⟨rfl, hm1⟩
    go_wp2_with fail
    refine (AW.out _).mono ?_
    rintro e w2 ⟨rfl, hm2⟩
    go_wp2_with fail
    go_ret
    exact ⟨rfl, ((M1.out.trans0 hm1).trans0 hm2).below0⟩
  all_goals
    have hxr := SW.out.2.2.2 (by decide)
    try simp only [Int.reduceNeg, Int.neg_neg, Int.neg_zero] at hxr
    subst hxr
    by_cases hy2 : y = 2
    · subst hy2
      go_wp2_with fail
      refine (H4.out _).mono ?_
      rintro e w1 ⟨rfl, hm1⟩
      obtain ⟨b0, b1, b2, b3⟩ := Blk4' (C0.out.mod hm1 (by simp))
      obtain ⟨d0, d1, d2, d3⟩ := Blk4' (C1.out.mod hm1 (by simp))
      go_wp2_with fail
      refine (H4.out _).mono ?_
      rintro e w2 ⟨rfl, hm2⟩
      go_wp2_with fail
      refine (AW.out _).mono ?_
      rintro e w3 ⟨rfl, hm3⟩
      go_wp2_with fail
      go_ret
      exact ⟨rfl, (((M1.out.trans0 hm1).trans0 hm2).trans0 hm3).below0⟩
    · have TZ := Lib.hid (TR.out (by decide) hy2)
      have hy' := HY.out.resolve_left hy2
      have hz' := HZ.out
      clear hy2
      rcases hy' with rfl | rfl | rfl <;> rcases hz' with rfl | rfl | rfl | rfl
      all_goals first | (exact absurd TZ.out (by decide)) | skip
      all_goals
        go_wp2_with fail
        refine (H4.out _).mono ?_
        rintro e w1 ⟨rfl, hm1⟩
        obtain ⟨b0, b1, b2, b3⟩ := Blk4' (C0.out.mod hm1 (by simp))
        obtain ⟨d0, d1, d2, d3⟩ := Blk4' (C1.out.mod hm1 (by simp))
        go_wp2_with fail
        refine (H4.out _).mono ?_
        rintro e w2 ⟨rfl, hm2⟩
        go_wp2_with fail
        refine (AW.out _).mono ?_
        rintro e w3 ⟨rfl, hm3⟩
        go_wp2_with fail
        go_ret
        exact ⟨rfl, (((M1.out.trans0 hm1).trans0 hm2).trans0 hm3).below0⟩
end Go.Proofs.Ytdmipmkgoefidaa.Ev
