/- An agenda's Due. -/
import Derived.Test.YtgmenlfhkhdbdaaAn8
import Derived.Laws.AppendOwn
namespace Go.Proofs.Ytgmenlfhkhdbdaa.Ag
open Go.RowKit Mem
set_option linter.unusedSimpArgs false
set_option linter.unusedVariables false
set_option maxRecDepth 100000

theorem due_at {S : List It} {i : Nat} {now : Int} (h1 : ∀ s ∈ S.take i, s.1 ≤ now) (h2 : ∀ s, (S.drop i).head? = some s → now < s.1) : dueI S now = S.take i ∧ leftI S now = S.drop i := by
  have hs := List.take_append_drop i S
  have hd : (S.drop i).takeWhile (fun s => decide (s.1 ≤ now)) = [] ∧ (S.drop i).dropWhile (fun s => decide (s.1 ≤ now)) = S.drop i := by
    cases hh : S.drop i with
    | nil => exact ⟨rfl, rfl⟩
    | cons s r =>
      have := h2 s (by rw [hh]; rfl)
      rw [List.takeWhile_cons, List.dropWhile_cons, if_neg (by simp; omega), if_neg (by simp; omega)]
      exact ⟨rfl, rfl⟩
  unfold dueI leftI
  constructor
  · conv => lhs; rw [← hs]
    rw [List.takeWhile_append_of_pos (fun a ha => by simpa using h1 a ha), hd.1, List.append_nil]
  · conv => lhs; rw [← hs]
    rw [List.dropWhile_append_of_pos (fun a ha => by simpa using h1 a ha), hd.2]
theorem hold {p : Prop} (h : Hid p) : p := h.out
def lenV : Value → Nat
  | .slice _ n _ => n
  | _ => 0
theorem it_three {w : World} {vb : Nat} {x y z : Value} {t : TypeId} (h : Blk w vb #[x, y, z] t) : ∀ j u, ([x, y, z] : List Value)[j]? = some u → w.cell? ((⟨vb, 0, none⟩ : Addr).add j) = some u := by
  intro j u hj
  rw [Addr.add_lit, Nat.zero_add, h.cell]
  match j, hj with
  | 0, hj => simpa using hj
  | 1, hj => simpa using hj
  | 2, hj => simpa using hj
  | j + 3, hj => simp at hj

/-- The worlds of Due: what is out, what is left. -/
structure DuW (w0 w : World) (g : Nat) (last : Int) (S : List It) (i : Nat) (vo : Value) (wr : World) : Prop where
  md : Mod w0 wr []
  mw : w.heap.size ≤ wr.heap.size
  at_ : ∃ v h, PlAt wr g v last h ∧ IsHeap h h.length ∧ h.Perm (S.drop i) ∧ ∀ k, vo.ownBlock = some k → v.ownBlock ≠ some k
  out : ItAt wr w.heap.size vo (S.take i)
  kp : Keep w wr
theorem DuW.ag {w0 w wr : World} {g : Nat} {last : Int} {S : List It} {i : Nat} {vo : Value} (h : DuW w0 w g last S i vo wr) (hg : w0.heap.size ≤ g) (hs : Ok S last) : AgW w0 wr g last (S.drop i) :=
  ⟨h.md, hg, hs.sub (List.drop_sublist _ _), h.at_.elim fun v ⟨l, h1, h2, h3, _⟩ => ⟨v, l, h1, h2, h3⟩⟩
theorem DuW.mod {w0 w a b : World} {g : Nat} {last : Int} {S : List It} {i : Nat} {vo : Value} (h : DuW w0 w g last S i vo a) (m : Mod a b []) : DuW w0 w g last S i vo b :=
  ⟨h.md.trans0 m, Nat.le_trans h.mw m.size, h.at_.elim fun v ⟨l, h1, h2, h3, h4⟩ => ⟨v, l, h1.mod m (by simp) (by simp), h2, h3, h4⟩, h.out.mod m (by simp), h.kp.trans (Keep.mod m)⟩
def DueP (w0 : World) (g : Nat) (last : Int) (S : List It) (now : Int) (w : World) (e : Ending) (w' : World) : Prop :=
  ∃ v', e = .returned v' ∧ AgW w0 w' g last (leftI S now) ∧ ItAt w' w.heap.size v' (dueI S now) ∧ Keep w w'
theorem DuW.due {w0 w wr : World} {g : Nat} {last : Int} {S : List It} {i : Nat} {vo : Value} {now : Int} (h : DuW w0 w g last S i vo wr) (hg : w0.heap.size ≤ g) (hs : Ok S last) (h1 : ∀ s ∈ S.take i, s.1 ≤ now) (h2 : ∀ s, (S.drop i).head? = some s → now < s.1) : DueP w0 g last S now w (.returned vo) wr := by
  obtain ⟨e1, e2⟩ := due_at h1 h2
  refine ⟨vo, rfl, ?_, ?_, h.kp⟩
  · rw [e2]; exact h.ag hg hs
  · rw [e1]; exact h.out

set_option maxHeartbeats 4000000 in
theorem due_calls (w0 w : World) (g : Nat) (last : Int) (S : List It) (now : Int) (h : AgW w0 w g last S) (hn : S.length ≤ 4096) :
    Calls Try.prog 37 #[.pointer (some ⟨g, 0, none⟩), .int .i64 now] w (DueP w0 g last S now w) := by
  obtain ⟨i0, hi0, hz0, hz1, hz2⟩ := info_parts info_item
  have HG := Lib.hid h.gl
  have HOK := Lib.hid h.ok
  have HGW := Lib.hid h.md.size
  have H0 : Hid (DuW w0 w g last S 0 (.slice none 0 0) w) := Lib.hid ⟨h.md, Nat.le_refl _, h.at_.elim fun v ⟨l, h1, h2, h3⟩ => ⟨v, l, h1, h2, h3, fun k hk => by cases hk⟩, World.ownsRow_nil _ _ _ _, Keep.mod (Mod.refl _ _)⟩
  have FE := Lib.hid (fun w (h : AgW w0 w g last []) => first_empty w0 w g last h)
  have FC := Lib.hid (fun w s (T : List It) (h : AgW w0 w g last (s :: T)) (hn : T.length ≤ 90000) => first_cons w0 w g last s T h hn)
  have PC := Lib.hid (fun v l n w hp hh hn hl => hpop_calls g v last l n w hp hh hn hl)
  have hn2 : (S.length : Int) ≤ 4096 := by omega
  clear h
  go_enter Try.func37, Try.ntmps37
  go_wp2_with fail
  go_loopw [5] (fun vo wr => ∃ (i : Nat) (ga : Option Addr) (gc : Nat), i ≤ S.length ∧ vo = .slice ga i gc ∧ Hid (∀ s ∈ S.take i, s.1 ≤ now) ∧ DuW w0 w g last S i (.slice ga i gc) wr) (fun vo _ => S.length + 1 - lenV vo)
  case atStart => exact ⟨0, none, 0, Nat.zero_le _, rfl, Lib.hid (by simp), H0.out⟩
  case round =>
    obtain ⟨i, ga, gc, hi, rfl, HT, hdu⟩ := hrel
    have HD := Lib.hid hdu
    have hi' : (i : Int) ≤ 4096 := by omega
    clear hdu H0
    cases hd : S.drop i with
    | nil =>
      have HA := Lib.hid (by have h := HD.out.ag HG.out HOK.out; rw [hd] at h; exact h)
      have HF : Hid (∀ w', Mod wr w' [] → DueP w0 g last S now w (.returned (.slice ga i gc)) w') := Lib.hid (fun w' m => (HD.out.mod m).due HG.out HOK.out HT.out (fun s hs => by rw [hd] at hs; cases hs))
      have FE1 : Hid (Calls Try.prog 80 #[.pointer (some ⟨g, 0, none⟩)] wr fun e w' => e = .returned (.tuple #[.agg #[.int .i64 0, .int .i64 0, .int .i64 0], .bool false]) ∧ Mod wr w' []) := Lib.hid (FE.out _ HA.out)
      clear hd FE FC PC HD HT
      go_wp2_with fail
      (with_reducible refine FE1.out.mono ?_)
      rintro e w1 ⟨rfl, hm1⟩
      have HM1 := Lib.hid (hm1.alloc (.cells #[.int .i64 0, .int .i64 0, .int .i64 0] 102))
      clear hm1
      go_wp2_with fail
      go_ret
      exact HF.out _ HM1.out
    | cons s T =>
      have hTl : T.length + 1 + i = S.length := by
        have := congrArg List.length hd
        rw [List.length_drop] at this
        simp at this; omega
      have hil : i < S.length := by omega
      have HSI : Hid (S[i]'hil = s ∧ S.drop (i + 1) = T) := Lib.hid (by
        have e := List.drop_eq_getElem_cons hil
        rw [hd] at e
        injection e with e1 e2
        exact ⟨e1.symm, e2.symm⟩)
      have HA := Lib.hid (by have h := HD.out.ag HG.out HOK.out; rw [hd] at h; exact h)
      have HDR := Lib.hid hd
      have FC1 := Lib.hid (FC.out wr s T HA.out (by omega))
      have HTK : Hid (S.take (i + 1) = S.take i ++ [s]) := Lib.hid (by rw [List.take_succ_eq_append_getElem hil, HSI.out.1])
      obtain ⟨s1, s2, s3⟩ := s
      have FC2 : Hid (Calls Try.prog 80 #[.pointer (some ⟨g, 0, none⟩)] wr fun e w' => e = .returned (.tuple #[.agg #[.int .i64 s1, .int .i64 s2, .int .i64 s3], .bool true]) ∧ Mod wr w' []) := FC1
      clear hd FE FC FC1
      by_cases hnow : now < s1
      · have HF : Hid (∀ w', Mod wr w' [] → DueP w0 g last S now w (.returned (.slice ga i gc)) w') := Lib.hid (fun w' m => (HD.out.mod m).due HG.out HOK.out HT.out (fun s hs => by rw [HDR.out] at hs; injection hs with hs; subst hs; exact hnow))
        clear PC HD HT HSI HA HDR HTK
        go_wp2_with fail
        (with_reducible refine FC2.out.mono ?_)
        rintro e w1 ⟨rfl, hm1⟩
        have HM1 := Lib.hid (hm1.alloc (.cells #[.int .i64 s1, .int .i64 s2, .int .i64 s3] 102))
        clear hm1
        go_wp2_with fail
        go_ret
        exact HF.out _ HM1.out
      · have hnow' : s1 ≤ now := by omega
        go_wp2_with fail
        (with_reducible refine FC2.out.mono ?_)
        rintro e w1 ⟨rfl, hm1⟩
        have HD1 := Lib.hid ((HD.out.mod hm1).mod ((Mod.refl w1 []).alloc (.cells #[.int .i64 s1, .int .i64 s2, .int .i64 s3] 102)))
        have htl : (S.take i).length = i := by rw [List.length_take]; omega
        have hown : (w1.alloc (.cells #[.int .i64 s1, .int .i64 s2, .int .i64 s3] 102)).ownsRow w.heap.size 102 3 (.slice ga i gc) i (rowsI (S.take i)) := by have h := HD1.out.out; unfold ItAt at h; rw [htl] at h; exact h
        have HO := Lib.hid hown
        have hsz1 : (w1.alloc (.cells #[.int .i64 s1, .int .i64 s2, .int .i64 s3] 102)).heap.size = w1.heap.size + 1 := World.size_alloc _ _
        have HSZ := Lib.hid hsz1
        have hx := Blk.new (w1.alloc (.cells #[.int .i64 s1, .int .i64 s2, .int .i64 s3] 102)) #[.int .i64 s1, .int .i64 s2, .int .i64 s3] 102
        have H3C := Lib.hid (it_three hx)
        rw [hsz1] at H3C
        have hmw := HD1.out.mw
        rw [hsz1] at hmw
        have HRS := Lib.hid (show rowsI (S.take (i + 1)) = rowsI (S.take i) ++ [.int .i64 s1, .int .i64 s2, .int .i64 s3] by rw [HTK.out, rowsI_append]; rfl)
        clear hm1 hx hown hsz1 HD FC2
        generalize hys : rowsI (S.take i) = ys at *
        go_wp2_with (at_builtin; refine hold ?_)
        refine Lib.hid ?_
        refine wpList_append_lies _ rfl _ _ 99 rfl w.heap.size 102 i0 _ 3 24 Try.underlying99 hi0 hz0 hz1 hz2 rfl (by decide) _ i _ rfl (HO.out.alloc _) ⟨w1.heap.size + 1, 0, none⟩ 1 1 [.int .i64 s1, .int .i64 s2, .int .i64 s3] rfl rfl H3C.out (by simp [Value.oneCell']) (by omega) (by unfold maxLen; omega) (by omega) (by have := HSZ.out; rw [World.size_alloc, this]; omega) (w1.heap.size + 2) (by rw [World.size_alloc, HSZ.out]) ?_
        intro gg gcap w3 hown3 hgrow hat hlt3
        have HO3 := Lib.hid hown3
        obtain ⟨v, hh, hp1, hp2, hp3, hp4⟩ := HD1.out.at_
        have hHM : Mod (w1.alloc (.cells #[.int .i64 s1, .int .i64 s2, .int .i64 s3] 102)) w3 (Value.slice ga i gc).ownBlock.toList :=
          ((Mod.refl _ (Value.slice ga i gc).ownBlock.toList).alloc (.cells #[.int .i64 s1, .int .i64 s2, .int .i64 s3] 102)).grown hgrow (fun k hk => .inl (by have h : (Value.slice ga i gc).ownBlock = some k := hk; rw [h]; simp))
        have hge := own_ge HO.out
        have HPL3 : Hid (PlAt w3 g v last hh) := Lib.hid (hp1.mod hHM (fun hm => by
            obtain ⟨cur, hc⟩ := own_blk HO.out g (by simpa using hm)
            exact absurd (blk_ne hp1.1 hc) (by decide)) (fun k hk hm => hp4 k (by simpa using hm) hk))
        have hpl := hp1.own
        have HDJ : Hid (∀ k, (Value.slice (some ⟨gg, 0, none⟩) (i + 1) gcap).ownBlock = some k → v.ownBlock ≠ some k ∧ k < w3.heap.size) := Lib.hid (fun k hk => by
          have : k = gg := by simpa [Value.ownBlock] using hk.symm
          subst this
          refine ⟨fun hv => ?_, hlt3⟩
          rcases hat with h | h
          · exact hp4 k h hv
          · have := (hpl k hv).2
            have := HSZ.out
            omega)
        have HMD3 : Hid (Mod w0 w3 []) := Lib.hid (HD1.out.md.trans hHM (fun r hr => .inr (by have := hge r (by simpa using hr); have := HGW.out; omega)))
        have HKP3 : Hid (Keep w w3) := Lib.hid (HD1.out.kp.trans (Keep.of hHM (fun k hm => by
          obtain ⟨cur, hc⟩ := own_blk HO.out k (by simpa using hm)
          exact ⟨_, _, hc, .inr rfl⟩)))
        have hlen : hh.length = T.length + 1 := by rw [hp3.length_eq, HDR.out]; rfl
        have hp3' : hh.Perm ((s1, s2, s3) :: T) := by rw [← HDR.out]; exact hp3
        have hfe := first_eq hp2 hp3' (by have := HOK.out.sub (List.drop_sublist i S); rw [HDR.out] at this; exact this)
        have PC1 := Lib.hid (PC.out v hh T.length w3 HPL3.out hp2 (by omega) hlen)
        have HFIN : Hid (∀ w4, HqP g v last hh (gt hh 0) w3 w4 → DuW w0 w g last S (i + 1) (.slice (some ⟨gg, 0, none⟩) (i + 1) gcap) w4) := Lib.hid (fun w4 hq => by
          obtain ⟨h', q1, q2, q3⟩ := hq
          obtain ⟨v', p', m', o'⟩ := q3
          have hsz3 := hHM.size
          refine ⟨HMD3.out.trans m' (fun r hr => .inr ?_), by have := HD1.out.mw; have := m'.size; omega, ⟨v', h', p', q2, ?_, fun k hk hv => ?_⟩, ?_, HKP3.out.trans (Keep.of m' (fun k hk => ?_))⟩
          · rcases List.mem_cons.1 hr with rfl | hr
            · exact HG.out
            · have := (hpl r (by simpa using hr)).1; have := HG.out; omega
          · rw [HSI.out.2]
            exact rest_perm hp3' hfe q1
          · obtain ⟨d1, d2⟩ := HDJ.out k hk
            rcases o' k hv with h | h
            · exact d1 h
            · omega
          · have ho : ItAt w3 w.heap.size (.slice (some ⟨gg, 0, none⟩) (i + 1) gcap) (S.take (i + 1)) := by
              unfold ItAt
              rw [HRS.out, show (S.take (i + 1)).length = i + 1 by rw [List.length_take]; omega]
              exact HO3.out
            refine ho.mod m' (fun k hk hm => ?_)
            obtain ⟨d1, d2⟩ := HDJ.out k hk
            rcases List.mem_cons.1 hm with rfl | hm
            · obtain ⟨cur, hc⟩ := own_blk HO3.out k hk
              exact absurd (blk_ne HPL3.out.1 hc) (by decide)
            · exact d1 (by simpa using hm)
          · rcases List.mem_cons.1 hk with rfl | hk
            · exact ⟨_, _, HPL3.out.1, .inl rfl⟩
            · obtain ⟨cur, hc⟩ := own_blk HPL3.out.2 k (by simpa using hk)
              exact ⟨_, _, hc, .inr rfl⟩)
        clear hown3 hgrow hat hp1 hp2 hp3 hp4 hHM hge hpl hlen hp3' hfe HD1 HO HO3 hmw H3C PC
        go_wp2_with fail
        (with_reducible refine PC1.out.mono ?_)
        rintro e w4 ⟨rfl, hq⟩
        have HFF := Lib.hid (HFIN.out _ hq)
        clear hq HFIN PC1
        go_wp2_with fail
        go_roundw
        case rel =>
          refine ⟨i + 1, _, _, by omega, rfl, Lib.hid (fun s hs => ?_), HFF.out⟩
          rw [HTK.out, List.mem_append] at hs
          rcases hs with hs | hs
          · exact HT.out s hs
          · obtain rfl : s = (s1, s2, s3) := (by simpa using hs)
            exact hnow'
        case measure => simp [lenV]; omega
end Go.Proofs.Ytgmenlfhkhdbdaa.Ag
