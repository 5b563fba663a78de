/- What is written of a track is read as it was; what is read is just what is written: plain. -/
import Derived.Test.YtcbafomhifdgpaaKd2
import Derived.Test.YtcbafomhifdgpaaBu
namespace Go.Proofs.Ytcbafomhifdgpaa.Ke
open Go.RowKit Mem Bits
set_option linter.unusedSimpArgs false
set_option linter.unusedVariables false
set_option maxRecDepth 100000

def cat : List ByteArray → ByteArray
  | [] => ⟨#[]⟩
  | x :: l => x ++ cat l
theorem app_nil (s : ByteArray) : s ++ ⟨#[]⟩ = s := by apply Bt.ext_list; rw [Bt.app_data]; simp
theorem cat_snoc (l : List ByteArray) (x : ByteArray) : cat (l ++ [x]) = cat l ++ x := by
  induction l with
  | nil => show x ++ ⟨#[]⟩ = ⟨#[]⟩ ++ x; rw [app_nil, nil_app]
  | cons y l ih => show y ++ cat (l ++ [x]) = y ++ cat l ++ x; rw [ih, ByteArray.append_assoc]
theorem cat_drop (l : List ByteArray) (i : Nat) (h : i < l.length) : cat (l.drop i) = l[i] ++ cat (l.drop (i + 1)) := by
  rw [List.drop_eq_getElem_cons h]; rfl
def dif (ps : List Int) (k : Nat) : Int := gi ps (k + 1) - gi ps k - 1
def difL (ps : List Int) (n : Nat) : List ByteArray := (List.range n).map fun k => numI (dif ps k)
theorem difS_cat (ps : List Int) (k : Nat) (s : ByteArray) : difS ps k s = s ++ cat (difL ps k) := by
  induction k with
  | zero => show s = s ++ ⟨#[]⟩; rw [app_nil]
  | succ k ih =>
    show difS ps k s ++ numI (dif ps k) = _
    unfold difL at *
    rw [ih, List.range_succ, List.map_append, List.map_cons, List.map_nil, cat_snoc, ByteArray.append_assoc]
def runTail (r : Run) : ByteArray := numI r.b ++ (numI r.st ++ (numI r.s ++ (Bt.numS r.seen ++ (numI r.ps.length ++ cat (difL r.ps (r.ps.length - 1))))))
theorem runT_cat (s : ByteArray) (r : Run) : runT s r = s ++ runTail r := by
  unfold runT runTail runS
  rw [difS_cat]
  simp only [ByteArray.append_assoc]
theorem foldl_cat (l : List Run) (s : ByteArray) : l.foldl runT s = s ++ cat (l.map runTail) := by
  induction l generalizing s with
  | nil => show s = s ++ ⟨#[]⟩; rw [app_nil]
  | cons r l ih => rw [List.foldl_cons, ih, runT_cat]; show s ++ runTail r ++ cat (l.map runTail) = s ++ (runTail r ++ cat (l.map runTail)); rw [ByteArray.append_assoc]
theorem textT_cat (t : Trk) : textT t = numI t.c ++ (numI t.st ++ (numI t.lo ++ (numI t.rs.length ++ cat (t.rs.map runTail)))) := by
  unfold textT trkT headT
  rw [List.take_length, foldl_cat]
  simp only [ByteArray.append_assoc]

theorem num_nx (n : Nat) (hn : n < 18446744073709551616) (r : ByteArray) : nv (Bt.numS n ++ r, 0) = n ∧ nx (Bt.numS n ++ r, 0) = (r, 0) := by
  have h := Bt.numD_app n hn r
  unfold nv nx tN tS tE
  dsimp only
  rw [if_pos rfl, if_pos rfl, if_pos rfl, h]
  dsimp only
  rw [Bt.extract_rest]
  exact ⟨rfl, rfl⟩
theorem int_nx (n : Int) (h0 : 0 ≤ n) (h1 : n ≤ 9223372036854775807) (r : ByteArray) : nv (numI n ++ r, 0) = n.toNat ∧ nx (numI n ++ r, 0) = (r, 0) := num_nx n.toNat (by omega) r
theorem lim_nx (n : Int) (h0 : 0 ≤ n) (h1 : n ≤ 9223372036854775807) (most : Nat) (hm : n ≤ most) : limL n.toNat most = n := by
  unfold limL; rw [if_neg (by omega)]; omega

theorem goK_back (r : Run) (hp : RunP r) (R : ByteArray) : ∀ i, i < r.ps.length → goK r.b (cat (difL r.ps (r.ps.length - 1)) ++ R, 0) (i + 1) = (r.ps.take (i + 1), (cat ((difL r.ps (r.ps.length - 1)).drop i) ++ R, 0), gi r.ps i) := by
  have hv := run_vals hp
  have hr := (risB_iff _).1 hp.ris
  intro i
  induction i with
  | zero =>
    intro h
    show ([] ++ [r.b], _, r.b) = _
    rw [← hp.first, gi_get h, List.drop_zero, List.take_succ_eq_append_getElem h]
    rfl
  | succ i ih =>
    intro h
    have hi := ih (by omega)
    have h1 := hv i (by omega)
    have h2 := hv (i + 1) h
    have h3 := hr i h
    have hl : (difL r.ps (r.ps.length - 1)).length = r.ps.length - 1 := by unfold difL; simp
    have hd := cat_drop (difL r.ps (r.ps.length - 1)) i (by omega)
    have he : (difL r.ps (r.ps.length - 1))[i]'(by omega) = numI (dif r.ps i) := by unfold difL; simp
    have hdd : 0 ≤ dif r.ps i ∧ dif r.ps i ≤ 549755813888 := by unfold dif; omega
    rw [he] at hd
    conv => lhs; unfold goK
    rw [if_neg (by omega), hi]
    dsimp only
    rw [hd, ByteArray.append_assoc]
    obtain ⟨e1, e2⟩ := int_nx (dif r.ps i) hdd.1 (by omega) (cat ((difL r.ps (r.ps.length - 1)).drop (i + 1)) ++ R)
    rw [e1, e2, lim_nx _ hdd.1 (by omega) 549755813888 (by omega)]
    have e3 : gi r.ps i + (dif r.ps i + 1) = gi r.ps (i + 1) := by unfold dif; omega
    rw [e3, List.take_succ_eq_append_getElem h, gi_get h]
theorem runK_back (r : Run) (hp : RunP r) (ho : RunOK r) (R : ByteArray) : runK (runTail r ++ R, 0) = (r, (R, 0)) := by
  have n0 := hp.n0
  have n1 := hp.n1
  have hv := run_vals hp 0 (by omega)
  rw [hp.first] at hv
  have hg := goK_back r hp R (r.ps.length - 1) (by omega)
  rw [show r.ps.length - 1 + 1 = r.ps.length by omega, List.take_length] at hg
  have hl : (difL r.ps (r.ps.length - 1)).length = r.ps.length - 1 := by unfold difL; simp
  rw [List.drop_eq_nil_of_le (by omega)] at hg
  have hg' : goK r.b (cat (difL r.ps (r.ps.length - 1)) ++ R, 0) r.ps.length = (r.ps, (R, 0), gi r.ps (r.ps.length - 1)) := by rw [hg]; show (r.ps, (⟨#[]⟩ ++ R, (0 : Int)), _) = _; rw [nil_app]
  unfold runTail
  simp only [ByteArray.append_assoc]
  have hst := ho.st.2
  obtain ⟨a1, a2⟩ := int_nx r.b hv.1 (by omega) (numI r.st ++ (numI r.s ++ (Bt.numS r.seen ++ (numI r.ps.length ++ (cat (difL r.ps (r.ps.length - 1)) ++ R)))))
  obtain ⟨b1, b2⟩ := int_nx r.st hp.st hst (numI r.s ++ (Bt.numS r.seen ++ (numI r.ps.length ++ (cat (difL r.ps (r.ps.length - 1)) ++ R))))
  obtain ⟨c1, c2⟩ := int_nx r.s hp.s0 (by have := hp.s1; omega) (Bt.numS r.seen ++ (numI r.ps.length ++ (cat (difL r.ps (r.ps.length - 1)) ++ R)))
  obtain ⟨d1, d2⟩ := num_nx r.seen ho.seen (numI r.ps.length ++ (cat (difL r.ps (r.ps.length - 1)) ++ R))
  obtain ⟨f1, f2⟩ := int_nx (r.ps.length : Int) (by omega) (by omega) (cat (difL r.ps (r.ps.length - 1)) ++ R)
  unfold runK
  rw [a1, a2, b1, b2, c1, c2, d1, d2, f1, f2, lim_nx r.b hv.1 (by omega) _ (by omega), lim_nx r.st hp.st hst _ (by omega), lim_nx r.s hp.s0 (by have := hp.s1; omega) _ (by have := hp.s1; omega), lim_nx (r.ps.length : Int) (by omega) (by omega) 16 (by omega), Int.toNat_natCast, hg']
theorem runsK_back (rs : List Run) (hp : ∀ r ∈ rs, RunP r ∧ RunOK r) : ∀ i, i ≤ rs.length → runsK (cat (rs.map runTail), 0) i = (rs.take i, (cat ((rs.map runTail).drop i), 0)) := by
  intro i
  induction i with
  | zero => intro _; rfl
  | succ i ih =>
    intro h
    have hi := ih (by omega)
    have hl : i < (rs.map runTail).length := by rw [List.length_map]; omega
    have hd := cat_drop (rs.map runTail) i hl
    rw [List.getElem_map] at hd
    have hm := hp _ (List.getElem_mem (show i < rs.length by omega))
    show ((runsK _ i).1 ++ [(runK (runsK _ i).2).1], (runK (runsK _ i).2).2) = _
    rw [hi]
    dsimp only
    rw [hd, runK_back _ hm.1 hm.2]
    dsimp only
    rw [List.take_succ_eq_append_getElem (show i < rs.length by omega)]
/-- WHAT IS WRITTEN IS READ AS IT WAS. -/
theorem back_write (t : Trk) (ho : TrkOK t) (h : trkB t = true) : outD (textT t) = t ∧ errD (textT t) = 0 := by
  obtain ⟨⟨c0, c1⟩, ⟨l0, l1⟩, s0, hn, hP⟩ := trk_parts h
  have hst := ho.st.2
  obtain ⟨a1, a2⟩ := int_nx t.c c0 (by omega) (numI t.st ++ (numI t.lo ++ (numI t.rs.length ++ cat (t.rs.map runTail))))
  obtain ⟨b1, b2⟩ := int_nx t.st s0 hst (numI t.lo ++ (numI t.rs.length ++ cat (t.rs.map runTail)))
  obtain ⟨d1, d2⟩ := int_nx t.lo l0 (by omega) (numI t.rs.length ++ cat (t.rs.map runTail))
  obtain ⟨e1, e2⟩ := int_nx (t.rs.length : Int) (by omega) (by omega) (cat (t.rs.map runTail))
  have hb := runsK_back t.rs (fun r hr => ⟨hP r hr, ho.rs r hr⟩) t.rs.length (Nat.le_refl _)
  rw [List.take_length, List.drop_eq_nil_of_le (by rw [List.length_map]; exact Nat.le_refl _)] at hb
  have hM : kM (textT t) = t.rs.length := by
    unfold kM; rw [textT_cat, a2, b2, d2, e1, lim_nx _ (by omega) (by omega) 64 (by omega)]
  have hPp : kP (textT t) = (cat (t.rs.map runTail), 0) := by unfold kP; rw [textT_cat, a2, b2, d2, e2]
  have hR : runsK (kP (textT t)) (kM (textT t)).toNat = (t.rs, (⟨#[]⟩, 0)) := by rw [hM, hPp, Int.toNat_natCast]; exact hb
  have hT : kT (textT t) = t := by
    unfold kT
    rw [hR, textT_cat, a1, a2, b1, b2, d1, lim_nx _ c0 (by omega) _ (by omega), lim_nx _ s0 hst _ (by omega), lim_nx _ l0 (by omega) _ (by omega)]
  have hQ : kQ (textT t) = (⟨#[]⟩, 0) := by unfold kQ; rw [hR]
  have hO : kOK (textT t) = true := by
    unfold kOK
    rw [hT, h, hM, hQ, decide_eq_true (show (0 : Int) ≤ (t.rs.length : Int) by omega)]
    rfl
  unfold outD errD
  rw [if_pos hO, if_pos hO]
  exact ⟨hT, rfl⟩

/-! What is read is just what is written. -/
theorem nx_form (p : St) (h : (nx p).2 = 0) : p.2 = 0 ∧ p.1 = Bt.numS (nv p) ++ (nx p).1 := by
  obtain ⟨s, e⟩ := p
  unfold nx nv tE tS tN at *
  dsimp only at *
  by_cases he : e = 0
  · subst he
    rw [if_pos rfl] at h
    rw [if_pos rfl, if_pos rfl]
    have hd := Bt.numD_facts s
    refine ⟨rfl, ?_⟩
    rw [Bt.numD_form s h]
    exact (Bt.split_at s _ hd.2.1).symm
  · rw [if_neg he] at h; exact absurd h he
theorem lim_form {n most : Nat} (h : 0 ≤ limL n most) : limL n most = n ∧ Bt.numS n = numI (limL n most) := by
  have : limL n most = n := by
    unfold limL at *
    split at h
    · omega
    · rename_i hh; rw [if_neg hh]
  refine ⟨this, ?_⟩
  unfold numI; rw [this, Int.toNat_natCast]
theorem difL_snoc (ps : List Int) (k : Nat) : difL ps (k + 1) = difL ps k ++ [numI (dif ps k)] := by unfold difL; rw [List.range_succ, List.map_append]; rfl
theorem goK_err (b : Int) (p : St) : ∀ i, (goK b p i).2.1.2 = 0 → p.2 = 0 := by
  intro i
  induction i with
  | zero => intro h; exact h
  | succ i ih =>
    intro h
    unfold goK at h
    split at h
    · exact ih h
    · exact ih (nx_form _ h).1
theorem goK_form (b : Int) (p : St) (n : Nat) (hr : ∀ i, i + 1 < n → gi (goK b p n).1 i < gi (goK b p n).1 (i + 1)) : ∀ i, i + 1 ≤ n → (goK b p (i + 1)).2.1.2 = 0 → p.1 = cat (difL (goK b p n).1 i) ++ (goK b p (i + 1)).2.1.1 := by
  intro i
  induction i with
  | zero => intro _ h; show p.1 = ⟨#[]⟩ ++ p.1; rw [nil_app]
  | succ i ih =>
    intro hi h
    have hE : goK b p (i + 1 + 1) = ((goK b p (i + 1)).1 ++ [(goK b p (i + 1)).2.2 + (limL (nv (goK b p (i + 1)).2.1) 549755813888 + 1)], nx (goK b p (i + 1)).2.1, (goK b p (i + 1)).2.2 + (limL (nv (goK b p (i + 1)).2.1) 549755813888 + 1)) := by
      conv => lhs; unfold goK
      rw [if_neg (by omega)]
    have h' := h
    rw [hE] at h'
    dsimp only at h'
    obtain ⟨k1, k2⟩ := nx_form _ h'
    have hh := ih (by omega) k1
    have g1 : gi (goK b p n).1 i = (goK b p (i + 1)).2.2 := by
      rw [← goK_get b p i]
      have := goK_stay b p (i + 1) (n - (i + 1)) i (by omega)
      rw [show i + 1 + (n - (i + 1)) = n by omega] at this
      exact this
    have g2 : gi (goK b p n).1 (i + 1) = (goK b p (i + 1 + 1)).2.2 := by
      rw [← goK_get b p (i + 1)]
      have := goK_stay b p (i + 1 + 1) (n - (i + 1 + 1)) (i + 1) (by omega)
      rw [show i + 1 + 1 + (n - (i + 1 + 1)) = n by omega] at this
      exact this
    have hlt := hr i (by omega)
    rw [g1, g2, hE] at hlt
    dsimp only at hlt
    have hL : 0 ≤ limL (nv (goK b p (i + 1)).2.1) 549755813888 := by omega
    obtain ⟨l1, l2⟩ := lim_form hL
    have hD : dif (goK b p n).1 i = limL (nv (goK b p (i + 1)).2.1) 549755813888 := by
      unfold dif; rw [g1, g2, hE]; dsimp only; omega
    rw [difL_snoc, cat_snoc, hD, ← l2, hE]
    dsimp only
    rw [ByteArray.append_assoc, ← k2]
    exact hh
theorem runK_form (p : St) (h : (runK p).2.2 = 0) (hb : RunP (runK p).1) : p.2 = 0 ∧ p.1 = runTail (runK p).1 ++ (runK p).2.1 := by
  have hR : runK p = (⟨limL (nv p) 549755813888, limL (nv (nx p)) 9223372036854775807, limL (nv (nx (nx p))) 64, nv (nx (nx (nx p))),
    (goK (limL (nv p) 549755813888) (nx (nx (nx (nx (nx p))))) (limL (nv (nx (nx (nx (nx p))))) 16).toNat).1⟩,
   (goK (limL (nv p) 549755813888) (nx (nx (nx (nx (nx p))))) (limL (nv (nx (nx (nx (nx p))))) 16).toNat).2.1) := rfl
  rw [hR] at h hb ⊢
  have hlen := goK_len (limL (nv p) 549755813888) (nx (nx (nx (nx (nx p))))) (limL (nv (nx (nx (nx (nx p))))) 16).toNat
  have n0 := hb.n0
  have hb0 := hb.b0
  have hst := hb.st
  have hs0 := hb.s0
  have hris := (risB_iff _).1 hb.ris
  dsimp only at h n0 hb0 hst hs0 hris hlen ⊢
  rw [hlen] at n0 hris
  have e5 := goK_err _ _ _ h
  obtain ⟨e4, f4⟩ := nx_form _ e5
  obtain ⟨e3, f3⟩ := nx_form _ e4
  obtain ⟨e2, f2⟩ := nx_form _ e3
  obtain ⟨e1, f1⟩ := nx_form _ e2
  obtain ⟨e0, f0⟩ := nx_form _ e1
  have hcn : 0 ≤ limL (nv (nx (nx (nx (nx p))))) 16 := by omega
  have hG := goK_form (limL (nv p) 549755813888) (nx (nx (nx (nx (nx p))))) (limL (nv (nx (nx (nx (nx p))))) 16).toNat hris ((limL (nv (nx (nx (nx (nx p))))) 16).toNat - 1) (by omega)
  rw [show (limL (nv (nx (nx (nx (nx p))))) 16).toNat - 1 + 1 = (limL (nv (nx (nx (nx (nx p))))) 16).toNat by omega] at hG
  have hG := hG h
  refine ⟨e0, ?_⟩
  unfold runTail
  dsimp only
  rw [hlen, Int.toNat_of_nonneg hcn, ← (lim_form hb0).2, ← (lim_form hst).2, ← (lim_form hs0).2, ← (lim_form hcn).2]
  simp only [ByteArray.append_assoc]
  rw [← hG, ← f4, ← f3, ← f2, ← f1, ← f0]
theorem runsK_form (p : St) : ∀ i, (runsK p i).2.2 = 0 → (∀ r ∈ (runsK p i).1, RunP r) → p.2 = 0 ∧ p.1 = cat ((runsK p i).1.map runTail) ++ (runsK p i).2.1 := by
  intro i
  induction i with
  | zero => intro h _; exact ⟨h, by show p.1 = ⟨#[]⟩ ++ p.1; rw [nil_app]⟩
  | succ i ih =>
    intro h hP
    have hE : runsK p (i + 1) = ((runsK p i).1 ++ [(runK (runsK p i).2).1], (runK (runsK p i).2).2) := rfl
    rw [hE] at h hP ⊢
    dsimp only at h hP ⊢
    obtain ⟨k1, k2⟩ := runK_form _ h (hP _ (by simp))
    obtain ⟨j1, j2⟩ := ih k1 (fun r hr => hP r (by simp [hr]))
    refine ⟨j1, ?_⟩
    rw [List.map_append, List.map_cons, List.map_nil, cat_snoc, ByteArray.append_assoc, ← k2]
    exact j2
/-- WHAT IS READ IS JUST WHAT IS WRITTEN. -/
theorem back_read (s : ByteArray) (h : kOK s = true) : textT (kT s) = s ∧ trkB (kT s) = true := by
  unfold kOK at h
  simp only [Bool.and_eq_true, decide_eq_true_eq] at h
  obtain ⟨hm, he, hb⟩ := h
  obtain ⟨⟨c0, c1⟩, ⟨l0, l1⟩, s0, hn, hP⟩ := trk_parts hb
  have hq : (kQ s).2 = 0 ∧ (kQ s).1.size = 0 := by
    unfold endE at he
    split at he
    · omega
    · rename_i hh; exact ⟨he, by
        by_cases hz : (kQ s).1.size = 0
        · exact hz
        · exact absurd ⟨he, hz⟩ hh⟩
  obtain ⟨r1, r2⟩ := runsK_form (kP s) (kM s).toNat hq.1 (fun r hr => hP r hr)
  have hlen : (kT s).rs.length = (kM s).toNat := (runsK_ok (kP s) (kM s).toNat).2
  have hrs : (kT s).rs = (runsK (kP s) (kM s).toNat).1 := rfl
  have hkp : kP s = nx (nx (nx (nx (s, 0)))) := rfl
  have hkm : kM s = limL (nv (nx (nx (nx (s, 0))))) 64 := rfl
  have hc : (kT s).c = limL (nv (s, 0)) 549755813888 := rfl
  have hst : (kT s).st = limL (nv (nx (s, 0))) 9223372036854775807 := rfl
  have hlo : (kT s).lo = limL (nv (nx (nx (s, 0)))) 549755813888 := rfl
  rw [hkp] at r1 r2
  obtain ⟨e3, f3⟩ := nx_form _ r1
  obtain ⟨e2, f2⟩ := nx_form _ e3
  obtain ⟨e1, f1⟩ := nx_form _ e2
  obtain ⟨e0, f0⟩ := nx_form _ e1
  refine ⟨?_, hb⟩
  have hz : (runsK (nx (nx (nx (nx (s, 0))))) (kM s).toNat).2.1 = ⟨#[]⟩ := by
    have h2 := hq.2
    unfold kQ at h2
    rw [hkp] at h2
    apply Bt.ext_list
    exact List.eq_nil_of_length_eq_zero (by rw [Bt.size_data]; exact h2)
  rw [hz, app_nil] at r2
  rw [textT_cat, hlen, Int.toNat_of_nonneg hm, hrs, hkp, ← r2, hkm, ← (lim_form (by rw [← hkm]; exact hm)).2, hlo, ← (lim_form (by rw [← hlo]; exact l0)).2, hst, ← (lim_form (by rw [← hst]; exact s0)).2, hc, ← (lim_form (by rw [← hc]; exact c0)).2]
  rw [← f3, ← f2, ← f1]
  exact f0.symm
end Go.Proofs.Ytcbafomhifdgpaa.Ke
