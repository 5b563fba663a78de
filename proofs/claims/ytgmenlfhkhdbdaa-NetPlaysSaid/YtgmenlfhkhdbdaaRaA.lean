/- What is written of a message is read as it was: plain. -/
import Derived.Test.YtgmenlfhkhdbdaaRa8
import Derived.Test.YtgmenlfhkhdbdaaBu
namespace Go.Proofs.Ytgmenlfhkhdbdaa.Ra
open Go.RowKit Mem Bits
set_option linter.unusedSimpArgs false
set_option linter.unusedVariables false
set_option maxRecDepth 100000

theorem app_nil (s : ByteArray) : s ++ ⟨#[]⟩ = s := by apply Bt.ext_list; rw [Bt.app_data]; simp
theorem tN_app (n : Nat) (hn : n < 18446744073709551616) (r : ByteArray) : tN (Bt.numS n ++ r) 0 = n ∧ nx (Bt.numS n ++ r, 0) = (r, 0) := by
  have h := Bt.numD_app n hn r
  unfold nx tN tS tE
  rw [if_pos rfl]
  dsimp only
  rw [if_pos rfl, if_pos rfl, h]
  dsimp only
  rw [Bt.extract_rest]
  exact ⟨rfl, rfl⟩
theorem nv_app (x : Int) (hx : 0 ≤ x ∧ x ≤ 549755813888) (r : ByteArray) : nv (numI x ++ r, 0) = x := by
  have h := (tN_app x.toNat (by omega) r).1
  unfold nv numI lim
  dsimp only
  rw [h, if_neg (by omega)]
  omega
theorem nx_app (x : Int) (hx : 0 ≤ x ∧ x ≤ 549755813888) (r : ByteArray) : nx (numI x ++ r, 0) = (r, 0) := (tN_app x.toNat (by omega) r).2
theorem text_app (x r : ByteArray) (most : Nat) (hx : x.size ≤ most) (hm : most ≤ 262144) : (textR (textS x ++ r) 0 most).1 = x ∧ tx (textS x ++ r, 0) most = (r, 0) := by
  have ha : textS x ++ r = Bt.numS x.size ++ (x ++ r) := by unfold textS; rw [ByteArray.append_assoc]
  have h := Bt.numD_app x.size (by omega) (x ++ r)
  have hz : (Bt.numS x.size ++ (x ++ r)).size = (Bt.numS x.size).size + (x.size + r.size) := by rw [ByteArray.size_append, ByteArray.size_append]
  have hR : textR (textS x ++ r) 0 most = (x, r, 0) := by
    rw [ha, textR0, h]
    dsimp only
    rw [if_neg (by simp), if_neg (by omega), if_neg (by omega)]
    have h1 : (Bt.numS x.size ++ (x ++ r)).extract (Bt.numS x.size).size ((Bt.numS x.size).size + x.size) = x := by
      apply Bt.ext_list
      have e1 := Bt.size_data x
      have e2 := Bt.size_data (Bt.numS x.size)
      rw [Lib.extract_data, Bt.app_data, Bt.app_data, ← e2, List.drop_left, Nat.add_sub_cancel_left, List.take_append_of_le_length (by omega), List.take_of_length_le (by omega)]
    have h2 : (Bt.numS x.size ++ (x ++ r)).extract ((Bt.numS x.size).size + x.size) (Bt.numS x.size ++ (x ++ r)).size = r := by
      have := Bt.extract_rest (Bt.numS x.size ++ x) r
      rw [ByteArray.append_assoc, ByteArray.size_append] at this
      exact this
    rw [h1, h2]
  constructor
  · rw [hR]
  · unfold tx
    dsimp only
    rw [hR]
theorem flag_app (b : Bool) (r : ByteArray) : flagR (flagS b ++ r) 0 = (b, r, 0) := by
  have hsz : (flagS b ++ r).size = 1 + r.size := by rw [ByteArray.size_append, flagS_size]
  have hx : (flagS b ++ r).extract 1 (flagS b ++ r).size = r := by
    have := Bt.extract_rest (flagS b) r
    rwa [flagS_size] at this
  have hb : Bt.byt (flagS b ++ r) 0 = if b then 1 else 0 := by
    cases b
    · exact Bt.byt_app 0 [] r (by omega)
    · exact Bt.byt_app 1 [] r (by omega)
  unfold flagR
  rw [if_neg (by simp), if_neg (by omega), hb, hx]
  cases b <;> rfl
def enR (x : En) (r : ByteArray) : ByteArray := numI x.t ++ (numI x.k ++ (numI x.m ++ (textS x.x ++ r)))
def esR (l : List En) (r : ByteArray) : ByteArray := l.foldr enR r
theorem enS_app (s : ByteArray) (x : En) (r : ByteArray) : enS s x ++ r = s ++ enR x r := by
  unfold enS putL enR
  simp only [List.foldl_cons, List.foldl_nil, ByteArray.append_assoc]
theorem ens_app : ∀ (l : List En) (s r : ByteArray), l.foldl enS s ++ r = s ++ esR l r
  | [], s, r => rfl
  | x :: l, s, r => by
    rw [List.foldl_cons, ens_app l, enS_app]
    rfl
theorem rdE_app (x : En) (r : ByteArray) (h : EnOk x) : rdE (enR x r, 0) = (x, (r, 0)) := by
  have h1 := h.t
  have h2 := h.k
  have h3 := h.m
  unfold rdE enR
  rw [nv_app _ h1, nx_app _ h1, nv_app _ (by omega), nx_app _ (by omega), nv_app _ (by omega), nx_app _ (by omega)]
  dsimp only
  have h4 := text_app x.x r 32768 h.x (by omega)
  rw [show ((32768 : Nat) : Int) = 32768 from rfl] at h4
  rw [h4.1, h4.2]
theorem rdEs_front (p : Tp) : ∀ k, rdEs p (k + 1) = ((rdE p).1 :: (rdEs (rdE p).2 k).1, (rdEs (rdE p).2 k).2)
  | 0 => rfl
  | k + 1 => by
    show ((rdEs p (k + 1)).1 ++ [(rdE (rdEs p (k + 1)).2).1], (rdE (rdEs p (k + 1)).2).2) = _
    rw [rdEs_front p k]
    rfl
theorem rdEs_app : ∀ (l : List En) (r : ByteArray), (∀ x ∈ l, EnOk x) → rdEs (esR l r, 0) l.length = (l, (r, 0))
  | [], r, _ => rfl
  | x :: l, r, h => by
    rw [List.length_cons, rdEs_front]
    have e : esR (x :: l) r = enR x (esR l r) := rfl
    rw [e, rdE_app x _ (h x (by simp))]
    dsimp only
    rw [rdEs_app l r (fun y hy => h y (by simp [hy]))]
theorem writeS_eq (m : Ms) : writeS m = numI m.kind ++ (numI m.frm ++ (numI m.dst ++ (numI m.term ++ (numI m.index ++ (numI m.lt ++ (numI m.commit ++ (flagS m.yes ++ (numI (m.es.length : Int) ++ (esR m.es (numI m.si ++ (numI m.st ++ (numI m.sm ++ (textS m.sx ++ ⟨#[]⟩))))))))))))) := by
  unfold writeS
  have h : ∀ (s : ByteArray), putL s [m.si, m.st, m.sm] = s ++ (numI m.si ++ (numI m.st ++ numI m.sm)) := fun s => by
    unfold putL
    simp only [List.foldl_cons, List.foldl_nil, ByteArray.append_assoc]
  rw [h, ByteArray.append_assoc, ens_app]
  unfold headS putL
  simp only [List.foldl_cons, List.foldl_nil, ByteArray.append_assoc, nil_app, app_nil]
/-- What is written is read as it was. -/
theorem read_write (m : Ms) (h : checkB m = true) : readOk (writeS m) = true ∧ readM (writeS m) = m := by
  have ok := checkB_ok h
  obtain ⟨o1, o2, o3, o4, o5, o6, o7, o8, o9, o10, o11, o12, o13⟩ := ok
  have k1 : 0 ≤ m.kind ∧ m.kind ≤ 549755813888 := by omega
  have k2 : 0 ≤ m.frm ∧ m.frm ≤ 549755813888 := by omega
  have k3 : 0 ≤ m.dst ∧ m.dst ≤ 549755813888 := by omega
  have k8 : 0 ≤ (m.es.length : Int) ∧ (m.es.length : Int) ≤ 549755813888 := by omega
  have k11 : 0 ≤ m.sm ∧ m.sm ≤ 549755813888 := by omega
  have hq : q7 (writeS m) = (flagS m.yes ++ (numI (m.es.length : Int) ++ (esR m.es (numI m.si ++ (numI m.st ++ (numI m.sm ++ (textS m.sx ++ ⟨#[]⟩)))))), 0) := by
    unfold q7
    rw [writeS_eq, nx_app _ k1, nx_app _ k2, nx_app _ k3, nx_app _ o4, nx_app _ o5, nx_app _ o6, nx_app _ o7]
  have hf : flagR (q7 (writeS m)).1 (q7 (writeS m)).2 = (m.yes, numI (m.es.length : Int) ++ (esR m.es (numI m.si ++ (numI m.st ++ (numI m.sm ++ (textS m.sx ++ ⟨#[]⟩))))), 0) := by
    rw [hq]; exact flag_app _ _
  have hfx : fx (q7 (writeS m)) = (numI (m.es.length : Int) ++ (esR m.es (numI m.si ++ (numI m.st ++ (numI m.sm ++ (textS m.sx ++ ⟨#[]⟩))))), 0) := by
    unfold fx; rw [hf]
  have hn : nE (writeS m) = m.es.length := by unfold nE; rw [hfx, nv_app _ k8]
  have hp : pE (writeS m) = (esR m.es (numI m.si ++ (numI m.st ++ (numI m.sm ++ (textS m.sx ++ ⟨#[]⟩)))), 0) := by unfold pE; rw [hfx, nx_app _ k8]
  have hc : cE (writeS m) = m.es.length := by unfold cE; rw [hn]; omega
  have hes : rdEs (pE (writeS m)) (cE (writeS m)) = (m.es, (numI m.si ++ (numI m.st ++ (numI m.sm ++ (textS m.sx ++ ⟨#[]⟩))), 0)) := by
    rw [hp, hc]; exact rdEs_app _ _ o13
  have ha : aE (writeS m) = (numI m.si ++ (numI m.st ++ (numI m.sm ++ (textS m.sx ++ ⟨#[]⟩))), 0) := by unfold aE; rw [hes]
  have ht := text_app m.sx ⟨#[]⟩ 262144 o12 (by omega)
  rw [show ((262144 : Nat) : Int) = 262144 from rfl] at ht
  have hz : zE (writeS m) = (⟨#[]⟩, 0) := by
    unfold zE
    rw [ha, nx_app _ o9, nx_app _ o10, nx_app _ k11]
    exact ht.2
  have hM : readM (writeS m) = m := by
    unfold readM
    rw [hf, hes, ha, nx_app _ o9, nx_app _ o10, nx_app _ k11, nv_app _ o9, nv_app _ o10, nv_app _ k11]
    dsimp only
    rw [ht.1, writeS_eq, nx_app _ k1, nx_app _ k2, nx_app _ k3, nx_app _ o4, nx_app _ o5, nx_app _ o6, nv_app _ k1, nv_app _ k2, nv_app _ k3, nv_app _ o4, nv_app _ o5, nv_app _ o6, nv_app _ o7]
  refine ⟨?_, hM⟩
  unfold readOk
  rw [hz, hn, hM, h]
  have h0 : (⟨#[]⟩ : ByteArray).size = 0 := rfl
  simp [endE, h0]
theorem readS_write (m : Ms) (h : checkB m = true) : readS (writeS m) = m := by
  obtain ⟨h1, h2⟩ := read_write m h
  unfold readS
  rw [if_pos h1, h2]
theorem writeS_size (m : Ms) (h : checkB m = true) : (writeS m).size ≤ 1000000 := by
  have ok := checkB_ok h
  have h1 := ens_size m.es (headS m) ok.es
  have h2 := headS_size m
  have h3 := (putL_size (m.es.foldl enS (headS m)) [m.si, m.st, m.sm]).2
  have h4 := textS_size m.sx
  have h5 := ok.sx
  have h6 := ok.len
  unfold writeS
  rw [ByteArray.size_append]
  simp only [List.length_cons, List.length_nil] at h3
  omega
end Go.Proofs.Ytgmenlfhkhdbdaa.Ra
