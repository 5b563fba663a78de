/- Events written and read: the plain laws, Same, the argument (printed by mkM.py). -/
import Derived.Test.YtdmipmkgoefidaaEvD5
import Derived.Test.YtdmipmkgoefidaaEvA
import Derived.Lib.Strings
namespace Go.Proofs.Ytdmipmkgoefidaa.Bt
set_option linter.unusedSimpArgs false
set_option linter.unusedVariables false

theorem ext_list {a b : ByteArray} (h : a.data.toList = b.data.toList) : a = b := ByteArray.ext (Array.ext' h)
theorem app_data (a b : ByteArray) : (a ++ b).data.toList = a.data.toList ++ b.data.toList := by
  rw [ByteArray.data_append, Array.toList_append]
theorem size_data (s : ByteArray) : s.data.toList.length = s.size := by simp

theorem split_at (s : ByteArray) (k : Nat) (h : k ≤ s.size) : s.extract 0 k ++ s.extract k s.size = s := by
  apply ext_list
  rw [app_data, Lib.extract_data, Lib.extract_data, List.drop_zero]
  have := size_data s
  rw [Nat.sub_zero, List.take_of_length_le (l := List.drop k s.data.toList) (by rw [List.length_drop]; omega), List.take_append_drop]
theorem split_two (s : ByteArray) (k n : Nat) (h : k + n ≤ s.size) : s.extract 0 k ++ s.extract k (k + n) = s.extract 0 (k + n) := by
  apply ext_list
  rw [app_data, Lib.extract_data, Lib.extract_data, Lib.extract_data, List.drop_zero]
  have := size_data s
  rw [Nat.sub_zero, Nat.sub_zero, Nat.add_sub_cancel_left, List.take_add]

theorem numD_form (s : ByteArray) (h : (numD s).2.2 = 0) : numS (numD s).1 = s.extract 0 (numD s).2.1 := by
  have hb := byt_lt s 0
  unfold numD at h ⊢
  by_cases h0 : s.size = 0
  · rw [if_pos h0] at h; simp at h
  rw [if_neg h0] at h ⊢
  by_cases h1 : byt s 0 ≤ 247
  · rw [if_pos h1]
    show numS (byt s 0) = s.extract 0 1
    unfold numS numL
    rw [if_pos h1]
    apply ext_list
    rw [strOfNums_data, Lib.extract_data, List.drop_zero]
    have hl := size_data s
    unfold byt
    cases hq : s.data.toList with
    | nil => rw [hq] at hl; simp at hl; omega
    | cons b l => simp
  rw [if_neg h1] at h ⊢
  by_cases h2 : s.size ≤ byt s 0 - 247
  · rw [if_pos h2] at h; simp at h
  rw [if_neg h2] at h ⊢
  by_cases h3 : byt s 1 = 0 ∨ val (bytesOf s 1 (byt s 0 - 247)) 0 ≤ 247
  · rw [if_pos h3] at h; simp at h
  rw [if_neg h3]
  have h4 := (form_iff s (by omega) (by omega)).2 h3
  generalize val (bytesOf s 1 (byt s 0 - 247)) 0 = v at h4 ⊢
  show numS v = s.extract 0 (byt s 0 - 247 + 1)
  exact h4
end Go.Proofs.Ytdmipmkgoefidaa.Bt
namespace Go.Proofs.Ytdmipmkgoefidaa.Bt
set_option linter.unusedSimpArgs false
set_option linter.unusedVariables false

theorem bytesOf_app (l : List Int) (r : ByteArray) (a k : Nat) (hl : ∀ x ∈ l, 0 ≤ x ∧ x ≤ 255) (h : a + k ≤ l.length) : bytesOf (strOfNums l ++ r) a k = (l.drop a).take k := by
  unfold bytesOf
  rw [app_data, strOfNums_data, List.drop_append_of_le_length (by simp; omega), List.take_append_of_le_length (by simp; omega), ← List.map_drop, ← List.map_take, List.map_map]
  conv => rhs; rw [← List.map_id ((l.drop a).take k)]
  apply List.map_congr_left
  intro x hx
  have := hl x (List.mem_of_mem_drop (List.mem_of_mem_take hx))
  show ((UInt8.ofNat x.toNat).toNat : Int) = x
  rw [UInt8.toNat_ofNat']
  omega
theorem byt_app (x : Int) (l : List Int) (r : ByteArray) (h : 0 ≤ x ∧ x ≤ 255) : byt (strOfNums (x :: l) ++ r) 0 = x.toNat := by
  unfold byt
  rw [app_data, strOfNums_data]
  show (UInt8.ofNat x.toNat).toNat = x.toNat
  rw [UInt8.toNat_ofNat']
  omega
theorem extract_app (a r : ByteArray) : (a ++ r).extract 0 a.size = a := by
  apply ext_list
  rw [Lib.extract_data, List.drop_zero, Nat.sub_zero, app_data, List.take_append_of_le_length (by rw [size_data]; exact Nat.le_refl _), List.take_of_length_le (by rw [size_data]; exact Nat.le_refl _)]
theorem extract_rest (a r : ByteArray) : (a ++ r).extract a.size (a ++ r).size = r := by
  apply ext_list
  have h1 := size_data r
  have h2 := size_data a
  rw [Lib.extract_data, app_data, ByteArray.size_append, ← h2, List.drop_left, Nat.add_sub_cancel_left, ← h1, List.take_of_length_le (Nat.le_refl _)]
theorem numD_app (n : Nat) (hn : n < 18446744073709551616) (r : ByteArray) : numD (numS n ++ r) = (n, (numS n).size, 0) := by
  have hz : (numS n ++ r).size = (numS n).size + r.size := ByteArray.size_append
  have hp := numS_size_pos n
  by_cases h : n ≤ 247
  · have hl : numL n = [(n : Int)] := by unfold numL; rw [if_pos h]
    have hb : byt (numS n ++ r) 0 = n := by
      unfold numS
      rw [hl, byt_app _ _ _ (by omega)]
      rfl
    have hs : (numS n).size = 1 := by unfold numS; rw [strOfNums_size, hl]; rfl
    unfold numD
    rw [if_neg (by omega), hb, if_pos h, hs]
  · have hl : numL n = ((247 + bl n : Nat) : Int) :: be (bl n) n := by unfold numL; rw [if_neg h]
    have hk := bl_le n
    have hb : byt (numS n ++ r) 0 = 247 + bl n := by
      unfold numS
      rw [hl, byt_app _ _ _ (by omega)]
      omega
    have hs : (numS n).size = bl n + 1 := by unfold numS; rw [strOfNums_size, hl, List.length_cons, be_length]
    have h0 : 0 < bl n := (bl_iff n 0 hn (by omega)).1 (by simp; omega)
    have hv : val (bytesOf (numS n ++ r) 1 (bl n)) 0 = n := by
      unfold numS
      rw [bytesOf_app _ _ _ _ (numL_bytes n) (by rw [hl, List.length_cons, be_length]; omega), hl, List.drop_succ_cons, List.drop_zero, List.take_of_length_le (by rw [be_length]; exact Nat.le_refl _), val_be, Nat.zero_mul, Nat.zero_add, Nat.mod_eq_of_lt (bl_lt n hn)]
    have he : byt (numS n ++ r) 0 - 247 = bl n := by omega
    have hf := form_iff (numS n ++ r) (by omega) (by omega)
    rw [he, hv] at hf
    have hg := hf.1 (by rw [← hs, extract_app])
    unfold numD
    rw [if_neg (by omega), if_neg (by omega), he, if_neg (by omega), hv, if_neg hg, hs]
end Go.Proofs.Ytdmipmkgoefidaa.Bt
section
namespace Go.Proofs.Ytdmipmkgoefidaa.Ev
open Go.RowKit Mem Bits EvH
set_option linter.unusedSimpArgs false
set_option linter.unusedVariables false
set_option maxRecDepth 100000

theorem unfoldI_fold (m : Int) : unfoldI (fold m) = m := by
  unfold fold unfoldI
  by_cases h : 0 ≤ m
  · rw [if_pos h, if_pos (by omega)]; omega
  · rw [if_neg h, if_neg (by omega)]; omega
theorem num_app (n : Nat) (hn : n < 18446744073709551616) (r : ByteArray) : tN (Bt.numS n ++ r) 0 = n ∧ tpN (Bt.numS n ++ r, 0) = (r, 0) := by
  have h := Bt.numD_app n hn r
  unfold tpN tN tS tE
  rw [if_pos rfl]
  dsimp only
  rw [if_pos rfl, if_pos rfl, h]
  dsimp only
  rw [Bt.extract_rest]
  exact ⟨rfl, rfl⟩
theorem text_app (x r : ByteArray) (most : Nat) (hx : x.size ≤ most) (hm : most ≤ 64) : (textR (textS x ++ r) 0 most).1 = x ∧ tpT (textS x ++ r, 0) most = (r, 0) := by
  have ha : textS x ++ r = Bt.numS x.size ++ (x ++ r) := by unfold textS; rw [ByteArray.append_assoc]
  have h := Bt.numD_app x.size (by omega) (x ++ r)
  have hz : (Bt.numS x.size ++ (x ++ r)).size = (Bt.numS x.size).size + (x.size + r.size) := by rw [ByteArray.size_append, ByteArray.size_append]
  have hR : textR (textS x ++ r) 0 most = (x, r, 0) := by
    rw [ha, textR0, h]
    dsimp only
    rw [if_neg (by simp), if_neg (by omega), if_neg (by omega)]
    have h1 : (Bt.numS x.size ++ (x ++ r)).extract (Bt.numS x.size).size ((Bt.numS x.size).size + x.size) = x := by
      apply Bt.ext_list
      have e1 := Bt.size_data x
      have e2 := Bt.size_data (Bt.numS x.size)
      rw [Lib.extract_data, Bt.app_data, Bt.app_data, ← e2, List.drop_left, Nat.add_sub_cancel_left, List.take_append_of_le_length (by omega), List.take_of_length_le (by omega)]
    have h2 : (Bt.numS x.size ++ (x ++ r)).extract ((Bt.numS x.size).size + x.size) (Bt.numS x.size ++ (x ++ r)).size = r := by
      have := Bt.extract_rest (Bt.numS x.size ++ x) r
      rw [ByteArray.append_assoc, ByteArray.size_append] at this
      exact this
    rw [h1, h2]
  constructor
  · rw [hR]
  · unfold tpT
    dsimp only
    rw [hR]
theorem real_app (f : Nat) (hf : f < 18446744073709551616) (r : ByteArray) : (realR (realS f ++ r) 0).1 = canB f ∧ tpR (realS f ++ r, 0) = (r, 0) := by
  have hc := canB_lt f hf
  have hs : (realS f).size = 8 := by unfold realS; rw [strOfNums_size, Bt.be_length]
  have hb : Bt.bytesOf (realS f ++ r) 0 8 = Bt.be 8 (canB f) := by
    unfold realS
    rw [Bt.bytesOf_app _ _ _ _ (Bt.be_bytes 8 _) (by rw [Bt.be_length]; omega), List.drop_zero, List.take_of_length_le (by rw [Bt.be_length]; omega)]
  have hv : Bt.val (Bt.be 8 (canB f)) 0 = canB f := by
    rw [Bt.val_be, Nat.zero_mul, Nat.zero_add]
    exact Nat.mod_eq_of_lt (by omega)
  have hn : ¬ (Fl.nanB (canB f) = true ∧ canB f ≠ 9221120237041090561) := by
    rintro ⟨h1, h2⟩
    unfold canB at h1 h2
    by_cases h : Fl.nanB f = true
    · rw [if_pos h] at h2; exact h2 rfl
    · rw [if_neg h] at h1; exact h h1
  have hR : realR (realS f ++ r) 0 = (canB f, r, 0) := by
    unfold realR
    rw [if_neg (by simp), if_neg (by rw [ByteArray.size_append]; omega), hb, hv, if_neg hn]
    have := Bt.extract_rest (realS f) r
    rw [hs] at this
    rw [this]
  constructor
  · rw [hR]
  · unfold tpR
    dsimp only
    rw [hR]

def canF (x : Fld) : Fld := ⟨x.name, ⟨x.v.k, x.v.n, canB x.v.f, x.v.s⟩⟩
theorem canB0 : canB 0 = 0 := by decide +kernel
theorem empty_of {s : ByteArray} (h : s.size = 0) : s = ⟨#[]⟩ := by
  apply Bt.ext_list
  have := Bt.size_data s
  exact List.eq_nil_of_length_eq_zero (by omega)
theorem val_app (k n : Int) (f : Nat) (s r : ByteArray) (h : mayB k n f s = true) (n1 : -9223372036854775808 ≤ n) (n2 : n ≤ 9223372036854775807) (hf : f < 18446744073709551616) :
    valT (valueS k n f s ++ r, 0) = (⟨k, n, canB f, s⟩, (r, 0)) := by
  have hk := mayB_facts k n f s h
  have ha : valueS k n f s ++ r = Bt.numS k.toNat ++ (payS k n f s ++ r) := by unfold valueS; rw [ByteArray.append_assoc]
  obtain ⟨h1, h2⟩ := num_app k.toNat (by omega) (payS k n f s ++ r)
  have hl : limI k.toNat 3 = k := by unfold limI; rw [if_pos (by omega)]; omega
  unfold valT
  rw [ha]
  dsimp only
  rw [h1, h2, hl]
  unfold mayB at h
  by_cases k1 : k = 1
  · subst k1
    rw [if_pos rfl] at h ⊢
    simp only [Bool.and_eq_true, decide_eq_true_iff, beq_iff_eq] at h
    have hf0 : f = 0 := by omega
    obtain ⟨h3, h4⟩ := num_app (fold n) (fold_lt n n1 n2) r
    have hp : payS 1 n f s = Bt.numS (fold n) := by unfold payS; rw [if_pos rfl]
    rw [hp]
    dsimp only
    rw [h3, h4, unfoldI_fold, hf0, canB0, empty_of h.2]
  rw [if_neg k1] at h ⊢
  by_cases k2 : k = 2
  · subst k2
    rw [if_pos rfl] at h ⊢
    simp only [Bool.and_eq_true, decide_eq_true_iff, beq_iff_eq] at h
    obtain ⟨h3, h4⟩ := real_app f hf r
    have hp : payS 2 n f s = realS f := by unfold payS; rw [if_neg (by decide), if_pos rfl]
    rw [hp]
    dsimp only
    rw [h3, h4, h.1, empty_of h.2]
  rw [if_neg k2] at h ⊢
  by_cases k3 : k = 3
  · subst k3
    rw [if_pos rfl] at h ⊢
    simp only [Bool.and_eq_true, decide_eq_true_iff, beq_iff_eq] at h
    obtain ⟨h3, h4⟩ := text_app s r 64 (by omega) (by omega)
    have hp : payS 3 n f s = textS s := by unfold payS; rw [if_neg (by decide), if_neg (by decide)]
    have hf0 : f = 0 := by omega
    rw [hp]
    dsimp only
    rw [show ((64 : Nat) : Int) = 64 from rfl] at h3 h4
    rw [h3, h4, h.1, hf0, canB0]
  · rw [if_neg k3] at h; cases h
theorem fld_app (x : Fld) (r : ByteArray) (hx : FldOK x) (h1 : wordB x.name = true) (h2 : mayB x.v.k x.v.n x.v.f x.v.s = true) : fldT (fieldS x ++ r, 0) = (canF x, (r, 0)) := by
  have ha : fieldS x ++ r = textS x.name ++ (valueS x.v.k x.v.n x.v.f x.v.s ++ r) := by unfold fieldS; rw [ByteArray.append_assoc]
  obtain ⟨h3, h4⟩ := text_app x.name (valueS x.v.k x.v.n x.v.f x.v.s ++ r) 16 (wordB_size _ h1) (by omega)
  rw [show ((16 : Nat) : Int) = 16 from rfl] at h3 h4
  unfold fldT
  rw [ha]
  dsimp only
  rw [h3, h4, val_app _ _ _ _ _ h2 hx.n1 hx.n2 hx.f]
  rfl

/-- All the fields' bytes. -/
def restS : List Fld → ByteArray
  | [] => ⟨#[]⟩
  | x :: l => fieldS x ++ restS l
theorem app_nil (s : ByteArray) : s ++ ⟨#[]⟩ = s := by apply Bt.ext_list; rw [Bt.app_data]; simp
theorem encTo_rest (a b c : Int) (k : ByteArray) (l : List Fld) : ∀ i, i ≤ l.length → encTo a b c k l i ++ restS (l.drop i) = headS a b c k l.length ++ restS l
  | 0, _ => by rw [List.drop_zero]; rfl
  | i + 1, hi => by
    rw [← encTo_rest a b c k l i (by omega), List.drop_eq_getElem_cons (by omega : i < l.length)]
    show (encTo a b c k l i ++ fieldS (l[i]!)) ++ _ = _ ++ (fieldS _ ++ _)
    rw [getElem!_pos l i (by omega), ByteArray.append_assoc]
theorem encTo_all (a b c : Int) (k : ByteArray) (l : List Fld) : encTo a b c k l l.length = headS a b c k l.length ++ restS l := by
  have := encTo_rest a b c k l l.length (Nat.le_refl _)
  rw [List.drop_length] at this
  rw [← this]
  exact (app_nil _).symm
theorem go_app (l : List Fld) (hl : ∀ x ∈ l, FldOK x ∧ wordB x.name = true ∧ mayB x.v.k x.v.n x.v.f x.v.s = true) : ∀ i, i ≤ l.length → goT (restS l, 0) i = ((l.take i).map canF, (restS (l.drop i), 0))
  | 0, _ => by rw [List.take_zero, List.drop_zero]; rfl
  | i + 1, hi => by
    have hm := hl (l[i]'(by omega)) (List.getElem_mem _)
    have h := fld_app (l[i]'(by omega)) (restS (l.drop (i + 1))) hm.1 hm.2.1 hm.2.2
    simp only [goT]
    rw [go_app l hl i (by omega)]
    dsimp only
    rw [List.drop_eq_getElem_cons (by omega : i < l.length)]
    show ((l.take i).map canF ++ [(fldT (fieldS _ ++ restS _, 0)).1], (fldT (fieldS _ ++ restS _, 0)).2) = _
    rw [h, List.take_succ_eq_append_getElem (by omega), List.map_append]
    rfl
theorem may_can (k n : Int) (f : Nat) (s : ByteArray) : mayB k n (canB f) s = true ↔ mayB k n f s = true := by
  have h0 : ((canB f : Int) == 0) = ((f : Int) == 0) := by
    rw [Bool.eq_iff_iff, beq_iff_eq, beq_iff_eq]
    constructor
    · intro h
      have : canB f = 0 := by omega
      unfold canB at this
      split at this
      · cases this
      · omega
    · intro h
      have : f = 0 := by omega
      rw [this, canB0]; rfl
  unfold mayB
  rw [h0]
theorem check_can (a b c : Int) (k : ByteArray) (l : List Fld) (h : checkB a b c k l = true) : checkB a b c k (l.map canF) = true := by
  have hf : fieldsB (l.map canF) = fieldsB l := by
    unfold fieldsB
    rw [List.length_map]
    rw [Bool.eq_iff_iff, List.all_eq_true, List.all_eq_true]
    have hg : ∀ i, i ∈ List.range l.length → (goodF (l.map canF) i = true ↔ goodF l i = true) := by
      intro i hi
      have hi := List.mem_range.1 hi
      unfold goodF
      rw [getElem!_pos (l.map canF) i (by rw [List.length_map]; exact hi), getElem!_pos l i hi, getElem!_pos (l.map canF) (i - 1) (by rw [List.length_map]; omega), getElem!_pos l (i - 1) (by omega), List.getElem_map, List.getElem_map]
      have hm := may_can (l[i]).v.k (l[i]).v.n (l[i]).v.f (l[i]).v.s
      simp only [Bool.and_eq_true]
      show _ ∧ (mayB (l[i]).v.k (l[i]).v.n (canB (l[i]).v.f) (l[i]).v.s = true ∧ _) ↔ _
      rw [hm]
      exact Iff.rfl
    exact ⟨fun h i hi => (hg i hi).1 (h i hi), fun h i hi => (hg i hi).2 (h i hi)⟩
  unfold checkB at h ⊢
  rw [List.length_map, hf]
  exact h
/-- What is written is read. -/
theorem back_write (a b c : Int) (k : ByteArray) (l : List Fld) (hl : ∀ x ∈ l, FldOK x) (h : checkB a b c k l = true) :
    outD (encTo a b c k l l.length) = ⟨a, b, c, k, l.map canF⟩ ∧ errD (encTo a b c k l l.length) = 0 := by
  obtain ⟨ha, hb, hc, hk, hn, hf⟩ := check_parts a b c k l h
  have hE : encTo a b c k l l.length = Bt.numS a.toNat ++ (Bt.numS b.toNat ++ (Bt.numS c.toNat ++ (textS k ++ (Bt.numS l.length ++ restS l)))) := by
    rw [encTo_all]
    unfold headS
    simp only [ByteArray.append_assoc]
  obtain ⟨p1, q1⟩ := num_app a.toNat (by omega) (Bt.numS b.toNat ++ (Bt.numS c.toNat ++ (textS k ++ (Bt.numS l.length ++ restS l))))
  obtain ⟨p2, q2⟩ := num_app b.toNat (by omega) (Bt.numS c.toNat ++ (textS k ++ (Bt.numS l.length ++ restS l)))
  obtain ⟨p3, q3⟩ := num_app c.toNat (by omega) (textS k ++ (Bt.numS l.length ++ restS l))
  obtain ⟨p4, q4⟩ := text_app k (Bt.numS l.length ++ restS l) 16 hk (by omega)
  obtain ⟨p5, q5⟩ := num_app l.length (by omega) (restS l)
  rw [show ((16 : Nat) : Int) = 16 from rfl] at p4 q4
  have hg := go_app l (fun x hx => by
    obtain ⟨i, hi, rfl⟩ := List.getElem_of_mem hx
    have := fields_at l hf i hi
    exact ⟨hl _ hx, this.1, this.2⟩) l.length (Nat.le_refl _)
  rw [List.take_length, List.drop_length] at hg
  generalize hS : encTo a b c k l l.length = S at *
  have hT : tD S = (textS k ++ (Bt.numS l.length ++ restS l), 0) := by
    unfold tD
    rw [hE, q1, q2, q3]
  have hN : nD S = l.length := by
    unfold nD
    rw [hT, q4]
    exact p5
  have hG : gD S = (l.map canF, (⟨#[]⟩, 0)) := by
    unfold gD
    rw [hN, hT, q4, q5]
    have : (limI l.length 8).toNat = l.length := by unfold limI; rw [if_pos hn]; rfl
    rw [this, hg]
    rfl
  have lim : ∀ x : Int, 0 ≤ x → x ≤ 549755813888 → limI x.toNat 549755813888 = x := fun x h1 h2 => by unfold limI; rw [if_pos (by omega)]; omega
  have hR : rawD S = ⟨a, b, c, k, l.map canF⟩ := by
    unfold rawD
    rw [hG, hT, p4]
    rw [hE, p1, q1]
    dsimp only
    rw [p2, q2]
    dsimp only
    rw [p3, lim a ha.1 ha.2, lim b hb.1 hb.2, lim c hc.1 hc.2]
  have hO : okD S = true := by
    unfold okD
    rw [hR, hN, hG]
    dsimp only
    rw [check_can a b c k l h, decide_eq_true hn]
    rfl
  obtain ⟨e1, e2⟩ := outD_good hO
  exact ⟨by rw [e1, hR], e2⟩
end Go.Proofs.Ytdmipmkgoefidaa.Ev
end
section
namespace Go.Proofs.Ytdmipmkgoefidaa.Ev
open Go.RowKit Mem Bits EvH
set_option linter.unusedSimpArgs false
set_option linter.unusedVariables false
set_option maxRecDepth 100000

theorem fold_unfoldI (n : Nat) : fold (unfoldI n) = n := by
  unfold fold unfoldI
  split
  · rename_i h; rw [if_pos (by omega)]; omega
  · rename_i h; rw [if_neg (by omega)]; omega
theorem num_form (s : ByteArray) (h : tE s 0 = 0) : Bt.numS (tN s 0) ++ tS s 0 = s := by
  have hd := Bt.numD_facts s
  unfold tN tS tE at *
  rw [if_pos rfl] at *
  rw [if_pos rfl, Bt.numD_form s h]
  exact Bt.split_at s _ hd.2.1
theorem text_form (s : ByteArray) (most : Int) (h : (textR s 0 most).2.2 = 0) : Bt.numS (textR s 0 most).1.size ++ (textR s 0 most).1 ++ (textR s 0 most).2.1 = s := by
  have hd := Bt.numD_facts s
  rw [textR0] at *
  by_cases h1 : (Bt.numD s).2.2 ≠ 0
  · rw [if_pos h1] at h; exact absurd h h1
  rw [if_neg h1] at *
  by_cases h2 : max most 0 < (Bt.numD s).1
  · rw [if_pos h2] at h; simp at h
  rw [if_neg h2] at *
  by_cases h3 : s.size - (Bt.numD s).2.1 < (Bt.numD s).1
  · rw [if_pos h3] at h; simp at h
  rw [if_neg h3]
  have hf := Bt.numD_form s (by simpa using h1)
  generalize Bt.numD s = D at *
  obtain ⟨n, k, e⟩ := D
  simp only at *
  have hsz : (s.extract k (k + n)).size = n := by rw [ByteArray.size_extract]; omega
  rw [hsz, hf, Bt.split_two s k n (by omega)]
  exact Bt.split_at s _ (by omega)
theorem real_form (s : ByteArray) (h : (realR s 0).2.2 = 0) : realS (realR s 0).1 ++ (realR s 0).2.1 = s := by
  unfold realR at *
  rw [if_neg (by simp)] at *
  by_cases h1 : s.size < 8
  · rw [if_pos h1] at h; simp at h
  rw [if_neg h1] at *
  have hv := val_bd0 s 8 8 (Nat.le_refl _) (by omega)
  rw [List.take_of_length_le (by rw [Bt.bytesOf_length s 0 8 (by omega)]; exact Nat.le_refl _)] at hv
  by_cases h2 : Fl.nanB (Bt.val (Bt.bytesOf s 0 8) 0) = true ∧ Bt.val (Bt.bytesOf s 0 8) 0 ≠ 9221120237041090561
  · rw [if_pos h2] at h; simp at h
  rw [if_neg h2]
  have hc : canB (Bt.val (Bt.bytesOf s 0 8) 0) = Bt.val (Bt.bytesOf s 0 8) 0 := by
    unfold canB
    split
    · rename_i hn
      by_cases h3 : Bt.val (Bt.bytesOf s 0 8) 0 = 9221120237041090561
      · rw [h3]
      · exact absurd ⟨hn, h3⟩ h2
    · rfl
  have hs : realS (Bt.val (Bt.bytesOf s 0 8) 0) = s.extract 0 8 := by
    unfold realS
    rw [hc]
    have hb := Bt.be_val (Bt.bytesOf s 0 8) 0 (Bt.bytesOf_bytes s 0 8)
    rw [Bt.bytesOf_length s 0 8 (by omega)] at hb
    rw [hb]
    apply Bt.ext_list
    rw [strOfNums_data, Lib.extract_data]
    unfold Bt.bytesOf
    rw [List.map_map, Nat.sub_zero]
    conv => rhs; rw [← List.map_id (List.take 8 (List.drop 0 s.data.toList))]
    apply List.map_congr_left
    intro b _
    simp
  have h9 := Bt.split_at s 8 (by omega)
  generalize Bt.val (Bt.bytesOf s 0 8) 0 = v at *
  show realS v ++ s.extract 8 s.size = s
  rw [hs]; exact h9

theorem tpN_err (t : Tp) (h : (tpN t).2 = 0) : t.2 = 0 := by
  by_cases h0 : t.2 = 0
  · exact h0
  · exfalso
    unfold tpN tE at h
    dsimp only at h
    rw [if_neg h0] at h
    exact h0 h
theorem tpT_err (t : Tp) (m : Int) (h : (tpT t m).2 = 0) : t.2 = 0 := by
  by_cases h0 : t.2 = 0
  · exact h0
  · exfalso
    unfold tpT textR at h
    dsimp only at h
    rw [if_pos h0] at h
    exact h0 h
theorem tpR_err (t : Tp) (h : (tpR t).2 = 0) : t.2 = 0 := by
  by_cases h0 : t.2 = 0
  · exact h0
  · exfalso
    unfold tpR realR at h
    dsimp only at h
    rw [if_pos h0] at h
    exact h0 h
theorem tpN_form (t : Tp) (h : (tpN t).2 = 0) : Bt.numS (tN t.1 t.2) ++ (tpN t).1 = t.1 := by
  have h0 := tpN_err t h
  obtain ⟨s, e⟩ := t
  dsimp only at h0
  subst h0
  exact num_form s h
theorem tpT_form (t : Tp) (m : Int) (h : (tpT t m).2 = 0) : textS (textR t.1 t.2 m).1 ++ (tpT t m).1 = t.1 := by
  have h0 := tpT_err t m h
  obtain ⟨s, e⟩ := t
  dsimp only at h0
  subst h0
  exact text_form s m h
theorem tpR_form (t : Tp) (h : (tpR t).2 = 0) : realS (realR t.1 t.2).1 ++ (tpR t).1 = t.1 := by
  have h0 := tpR_err t h
  obtain ⟨s, e⟩ := t
  dsimp only at h0
  subst h0
  exact real_form s h
theorem valT_form (t : Tp) (h : (valT t).2.2 = 0) (hm : mayB (valT t).1.k (valT t).1.n (valT t).1.f (valT t).1.s = true) :
    (tpN t).2 = 0 ∧ valueS (valT t).1.k (valT t).1.n (valT t).1.f (valT t).1.s ++ (valT t).2.1 = t.1 := by
  have hf := mayB_facts _ _ _ _ hm
  clear hm
  unfold valT at h hf ⊢
  by_cases h1 : limI (tN t.1 t.2) 3 = 1
  · rw [if_pos h1] at h ⊢
    dsimp only at h ⊢
    have e1 := tpN_err _ h
    have hk : tN t.1 t.2 = 1 := by unfold limI at h1; split at h1 <;> omega
    have f1 := tpN_form t e1
    have f2 := tpN_form _ h
    refine ⟨e1, ?_⟩
    unfold valueS payS
    rw [if_pos rfl, fold_unfoldI, ByteArray.append_assoc, f2]
    rw [hk] at f1
    exact f1
  rw [if_neg h1] at h hf ⊢
  by_cases h2 : limI (tN t.1 t.2) 3 = 2
  · rw [if_pos h2] at h ⊢
    dsimp only at h ⊢
    have e1 := tpR_err _ h
    have hk : tN t.1 t.2 = 2 := by unfold limI at h2; split at h2 <;> omega
    have f1 := tpN_form t e1
    have f2 := tpR_form _ h
    refine ⟨e1, ?_⟩
    unfold valueS payS
    rw [if_neg (by decide), if_pos rfl, ByteArray.append_assoc, f2]
    rw [hk] at f1
    exact f1
  rw [if_neg h2] at h hf ⊢
  by_cases h3 : limI (tN t.1 t.2) 3 = 3
  · rw [if_pos h3] at h ⊢
    dsimp only at h ⊢
    have e1 := tpT_err _ _ h
    have hk : tN t.1 t.2 = 3 := by unfold limI at h3; split at h3 <;> omega
    have f1 := tpN_form t e1
    have f2 := tpT_form _ _ h
    refine ⟨e1, ?_⟩
    unfold valueS payS
    rw [if_neg (by decide), if_neg (by decide), ByteArray.append_assoc, f2]
    rw [hk] at f1
    exact f1
  rw [if_neg h3] at hf
  dsimp only at hf
  omega
theorem fldT_form (t : Tp) (h : (fldT t).2.2 = 0) (hm : mayB (fldT t).1.v.k (fldT t).1.v.n (fldT t).1.v.f (fldT t).1.v.s = true) :
    t.2 = 0 ∧ fieldS (fldT t).1 ++ (fldT t).2.1 = t.1 := by
  unfold fldT at h hm ⊢
  dsimp only at h hm ⊢
  obtain ⟨e1, f1⟩ := valT_form _ h hm
  have e2 := tpN_err _ e1
  have f2 := tpT_form t 16 e2
  refine ⟨tpT_err t 16 e2, ?_⟩
  unfold fieldS
  dsimp only
  rw [ByteArray.append_assoc, f1, f2]
theorem restS_snoc (l : List Fld) (x : Fld) : restS (l ++ [x]) = restS l ++ fieldS x := by
  induction l with
  | nil =>
    show fieldS x ++ ⟨#[]⟩ = ⟨#[]⟩ ++ fieldS x
    apply Bt.ext_list
    rw [Bt.app_data, Bt.app_data]; simp
  | cons y l ih =>
    show fieldS y ++ restS (l ++ [x]) = (fieldS y ++ restS l) ++ fieldS x
    rw [ih, ByteArray.append_assoc]
theorem goT_form (t : Tp) : ∀ i, (goT t i).2.2 = 0 → (∀ x ∈ (goT t i).1, mayB x.v.k x.v.n x.v.f x.v.s = true) → t.2 = 0 ∧ restS (goT t i).1 ++ (goT t i).2.1 = t.1
  | 0, h, _ => ⟨h, by
    show ⟨#[]⟩ ++ t.1 = t.1
    apply Bt.ext_list
    rw [Bt.app_data]; simp⟩
  | i + 1, h, hm => by
    simp only [goT] at h hm ⊢
    obtain ⟨e1, f1⟩ := fldT_form _ h (hm _ (by simp))
    obtain ⟨e2, f2⟩ := goT_form t i e1 (fun x hx => hm x (by simp [hx]))
    refine ⟨e2, ?_⟩
    rw [restS_snoc, ByteArray.append_assoc, f1, f2]
/-- What is read is written. -/
theorem back_read (s : ByteArray) (h : okD s = true) : checkB (rawD s).a (rawD s).b (rawD s).c (rawD s).k (rawD s).l = true ∧ encTo (rawD s).a (rawD s).b (rawD s).c (rawD s).k (rawD s).l (rawD s).l.length = s := by
  unfold okD at h
  simp only [Bool.and_eq_true, decide_eq_true_iff] at h
  obtain ⟨hn, he, hc⟩ := h
  obtain ⟨ha, hb, hcc, hk, hl, hf⟩ := check_parts _ _ _ _ _ hc
  have he2 : (gD s).2.2 = 0 ∧ (gD s).2.1.size = 0 := by
    unfold endE at he
    split at he
    · cases he
    · rename_i hh
      refine ⟨he, ?_⟩
      rcases Nat.eq_zero_or_pos (gD s).2.1.size with h | h
      · exact h
      · exact absurd ⟨he, by omega⟩ hh
  have hlim : (limI (nD s) 8).toNat = nD s := by unfold limI; rw [if_pos hn]; rfl
  have hlen : (rawD s).l.length = nD s := by
    show (gD s).1.length = nD s
    unfold gD
    rw [goT_len, hlim]
  obtain ⟨e5, f5⟩ := goT_form _ _ he2.1 (fun x hx => by
    obtain ⟨i, hi, rfl⟩ := List.getElem_of_mem hx
    exact (fields_at (rawD s).l hf i hi).2)
  have e4 := tpN_err _ e5
  have e3 := tpT_err _ _ e4
  have e2 := tpN_err _ e3
  have e1 := tpN_err _ e2
  have f4 := tpN_form _ e5
  have f3 := tpT_form _ _ e4
  have f2 := tpN_form _ e3
  have f1 := tpN_form _ e2
  have f0 := tpN_form _ e1
  have lim : ∀ x : Nat, 0 ≤ limI x 549755813888 → (limI x 549755813888).toNat = x := fun x h => by
    unfold limI at h ⊢
    split at h
    · rename_i hh; rw [if_pos hh]; rfl
    · omega
  refine ⟨hc, ?_⟩
  rw [encTo_all, hlen]
  unfold headS
  have ga : (rawD s).a.toNat = tN s 0 := lim _ ha.1
  have gb : (rawD s).b.toNat = tN (tpN (s, 0)).1 (tpN (s, 0)).2 := lim _ hb.1
  have gc : (rawD s).c.toNat = tN (tpN (tpN (s, 0))).1 (tpN (tpN (s, 0))).2 := lim _ hcc.1
  rw [ga, gb, gc]
  simp only [ByteArray.append_assoc]
  have hg : restS (rawD s).l = (tpN (tpT (tD s) 16)).1 := by
    have f6 : restS (gD s).1 ++ (gD s).2.1 = (tpN (tpT (tD s) 16)).1 := f5
    rw [empty_of he2.2, app_nil] at f6
    exact f6
  rw [hg]
  show Bt.numS (tN s 0) ++ (Bt.numS (tN (tpN (s, 0)).1 (tpN (s, 0)).2) ++ (Bt.numS (tN (tpN (tpN (s, 0))).1 (tpN (tpN (s, 0))).2) ++ (textS (textR (tD s).1 (tD s).2 16).1 ++ (Bt.numS (tN (tpT (tD s) 16).1 (tpT (tD s) 16).2) ++ _)))) = s
  rw [f4, f3, show tD s = tpN (tpN (tpN (s, 0))) from rfl, f2, f1, f0]
end Go.Proofs.Ytdmipmkgoefidaa.Ev
end
section
namespace Go.Proofs.Ytdmipmkgoefidaa.Ev
open Go.RowKit Mem Bits EvH
set_option linter.unusedSimpArgs false
set_option linter.unusedVariables false
set_option maxRecDepth 100000

theorem same_self (k n : Int) (f : Nat) (s : ByteArray) (w : World) :
    Calls Try.prog 23 #[valV k n f s, valV k n f s] w fun e w' => e = .returned (.bool true) ∧ Mod w w' [] := by
  have BC := Lib.hid (fun w => refbits_calls f w)
  generalize canB f = F at *
  have h1 : (k == k) = true := by simp
  have h2 : (n == n) = true := by simp
  have h3 : (s.toList == s.toList) = true := by simp
  have h4 : ((F : Int) == (F : Int)) = true := by simp
  have HB0 := Lib.hid ((Blk.new w #[.int .i64 k, .int .i64 n, .float .f64 f, .string s] 45).alloc (.cells #[.int .i64 k, .int .i64 n, .float .f64 f, .string s] 45))
  have hb1 := Blk.new (w.alloc (.cells #[.int .i64 k, .int .i64 n, .float .f64 f, .string s] 45)) #[.int .i64 k, .int .i64 n, .float .f64 f, .string s] 45
  rw [World.size_alloc] at hb1
  have HB1 := Lib.hid hb1
  have HM0 := Lib.hid (((Mod.refl w []).alloc (.cells #[.int .i64 k, .int .i64 n, .float .f64 f, .string s] 45)).alloc (.cells #[.int .i64 k, .int .i64 n, .float .f64 f, .string s] 45))
  clear hb1
  go_enter Try.func23, Try.ntmps23
  go_wp2_with fail
  generalize (w.alloc _).alloc _ = W at HB0 HB1 HM0 ⊢
  obtain ⟨v0, v1, v2, v3⟩ := BlkA HB0.out
  obtain ⟨u0, u1, u2, u3⟩ := BlkA HB1.out
  (refine wp_region_quiet_after (by kernel_rfl) (by kernel_rfl) ?_; (repeat (go_big_quiet_step ((with_reducible refine after_same (BC.out _))))); refine wpQuiet_nil ?_; intro wq hw'; obtain ⟨⟨wq2, hmq⟩, hw''⟩ := hw'; subst hw'')
  have M1 := Lib.hid (HM0.out.trans0 hmq)
  clear v0 v1 v2 v3 u0 u1 u2 u3 hmq
  go_wp2_with fail
  go_ret
  exact ⟨rfl, M1.out⟩


set_option maxHeartbeats 4000000 in
theorem same_calls (a b c : Int) (k : ByteArray) (sl sl' : Value) (l : List Fld) (hn : l.length ≤ 1000000) (w : World) (hf : FldsAt w sl l) (hf' : FldsAt w sl' l) :
    Calls Try.prog 26 #[evV a b c k sl, evV a b c k sl'] w fun e w' => e = .returned (.bool true) ∧ Mod w w' [] := by
  have hn' : (l.length : Int) ≤ 1000000 := by omega
  have h1 : (a != a) = false := by simp
  have h2 : (b != b) = false := by simp
  have h3 : (c != c) = false := by simp
  have h4 : (k.toList == k.toList) = true := by simp
  have h5 : ((l.length : Int) != (l.length : Int)) = false := by simp
  have HB0 := Lib.hid ((Blk.new w #[.int .i64 a, .int .i64 b, .int .i64 c, .string k, sl] 32).alloc (.cells #[.int .i64 a, .int .i64 b, .int .i64 c, .string k, sl'] 32))
  have hb1 := Blk.new (w.alloc (.cells #[.int .i64 a, .int .i64 b, .int .i64 c, .string k, sl] 32)) #[.int .i64 a, .int .i64 b, .int .i64 c, .string k, sl'] 32
  rw [World.size_alloc] at hb1
  have HB1 := Lib.hid hb1
  have HM0 := Lib.hid (((Mod.refl w []).alloc (.cells #[.int .i64 a, .int .i64 b, .int .i64 c, .string k, sl] 32)).alloc (.cells #[.int .i64 a, .int .i64 b, .int .i64 c, .string k, sl'] 32))
  have HF := Lib.hid hf
  have HF' := Lib.hid hf'
  clear hb1 hf hf'
  rcases HF.out with ⟨hnil, a0, cap, hsl⟩ | ⟨bb, off, cap, hsl, hcap, hrow⟩
  · rcases HF'.out with ⟨_, a1, cap', hsl'⟩ | ⟨bb', off', cap', hsl', hcap', hrow'⟩
    · subst hsl hsl'
      clear hnil
      go_enter Try.func26, Try.ntmps26
      go_wp2_with fail
      go_loop [5] (fun v => v = .int .i64 0) (fun v => 0)
      case atStart => rfl
      case round =>
        subst hrel
        go_wp2_with fail
        go_ret
        exact ⟨rfl, HM0.out⟩
    · have h0 : l.length = 0 := by rw [hnil]; rfl
      rw [h0] at hsl'
      subst hsl hsl'
      clear hnil
      go_enter Try.func26, Try.ntmps26
      go_wp2_with fail
      go_loop [5] (fun v => v = .int .i64 0) (fun v => 0)
      case atStart => rfl
      case round =>
        subst hrel
        go_wp2_with fail
        go_ret
        exact ⟨rfl, HM0.out⟩
  · have hsl2 : ∃ bb' off' cap', sl' = .slice (some ⟨bb', off', none⟩) l.length cap' ∧ (0 < l.length → l.length ≤ cap') ∧ RowF w bb' off' l ∨ (l.length = 0 ∧ ∃ a1, sl' = .slice a1 0 cap') := by
      rcases HF'.out with ⟨hnil', a1, cap', hsl'⟩ | ⟨bb', off', cap', hsl', hcap', hrow'⟩
      · exact ⟨0, 0, cap', .inr ⟨by rw [hnil']; rfl, a1, hsl'⟩⟩
      · exact ⟨bb', off', cap', .inl ⟨hsl', fun _ => hcap', hrow'⟩⟩
    obtain ⟨bb', off', cap', ⟨hsl', hcap', hrow'⟩ | ⟨h0, a1, hsl'⟩⟩ := hsl2
    case inr =>
      rw [h0] at hsl
      subst hsl hsl'
      go_enter Try.func26, Try.ntmps26
      go_wp2_with fail
      go_loop [5] (fun v => v = .int .i64 0) (fun v => 0)
      case atStart => rfl
      case round =>
        subst hrel
        go_wp2_with fail
        go_ret
        exact ⟨rfl, HM0.out⟩
    subst hsl hsl'
    have HROW := Lib.hid (hrow.mod HM0.out)
    have HROW' := Lib.hid (hrow'.mod HM0.out)
    clear hrow hrow'
    go_enter Try.func26, Try.ntmps26
    go_wp2_with fail
    generalize (w.alloc _).alloc _ = W at HB0 HB1 HM0 HROW HROW' ⊢
    go_loopw [5] (fun v wr => ∃ i : Nat, i ≤ l.length ∧ v = .int .i64 (i : Int) ∧ Mod W wr []) (fun v _ => l.length + 1 - (intOf v).toNat)
    case atStart => exact ⟨0, by omega, rfl, Mod.refl _ _⟩
    case round =>
      obtain ⟨i, hi, rfl, hm⟩ := hrel
      have HM := Lib.hid hm
      by_cases hlt : i < l.length
      · have hlt' : (i : Int) < l.length := by omega
        have hi0 : (0 : Int) ≤ (i : Int) := by omega
        have hc1 := (HROW.out.mod hm) i hlt
        have hc2 := (HROW'.out.mod hm) i hlt
        obtain ⟨e0, e1, e2, e3, e4⟩ := Blk5 (HB0.out.mod hm (by simp))
        obtain ⟨g0, g1, g2, g3, g4⟩ := Blk5 (HB1.out.mod hm (by simp))
        obtain ⟨v0, v1, v2, v3, v4⟩ := BlkA5 (HB0.out.mod hm (by simp))
        obtain ⟨u0, u1, u2, u3, u4⟩ := BlkA5 (HB1.out.mod hm (by simp))
        obtain ⟨x, hx⟩ : ∃ x, (l[i]'hlt) = x := ⟨_, rfl⟩
        rw [hx] at hc1 hc2
        obtain ⟨p0, p1, p2, p3, p4⟩ := hc1.after
        obtain ⟨q0, q1, q2, q3, q4⟩ := hc2.after
        have SV := Lib.hid (fun w => same_self x.v.k x.v.n x.v.f x.v.s w)
        have hxx : (x.name.toList == x.name.toList) = true := by simp
        have hcl : (l.length : Int) ≤ cap := by omega
        have hcl' : (l.length : Int) ≤ cap' := by have := hcap' (by omega); omega
        clear hm hx hc1 hc2
        go_wp2_with fail
        (refine wp_region_quiet_after (by kernel_rfl) (by kernel_rfl) ?_; (repeat (go_big_quiet_step ((with_reducible refine after_of (SV.out _))))); refine wpQuiet_nil ?_; intro wq hw'; obtain ⟨⟨wq2, hmq⟩, hw''⟩ := hw'; subst hw'')
        have M3 := Lib.hid (HM.out.trans0 hmq)
        clear v0 v1 v2 v3 v4 u0 u1 u2 u3 u4 p0 p1 p2 p3 p4 q0 q1 q2 q3 q4 e0 e1 e2 e3 e4 g0 g1 g2 g3 g4 hmq
        go_wp2_with fail
        go_roundw
        case rel => exact ⟨i + 1, by omega, by go_num, M3.out⟩
        case measure => simp [intOf]; omega
      · have hge : (l.length : Int) ≤ i := by omega
        obtain ⟨e0, e1, e2, e3, e4⟩ := Blk5 (HB0.out.mod hm (by simp))
        go_wp2_with fail
        go_ret
        exact ⟨rfl, HM0.out.trans0 HM.out⟩
end Go.Proofs.Ytdmipmkgoefidaa.Ev
end
section
namespace Go.Proofs.Ytdmipmkgoefidaa.Ev
open Go.RowKit Mem Bits EvH
set_option linter.unusedSimpArgs false
set_option linter.unusedVariables false
set_option maxRecDepth 100000
theorem flds_slice {w : World} {v : Value} {l : List Fld} (h : FldsAt w v l) : ∃ a n c, v = .slice a n c := by
  rcases h with ⟨_, a, c, rfl⟩ | ⟨g, o, c, rfl, _⟩ <;> exact ⟨_, _, _, rfl⟩
theorem outD_len (s : ByteArray) : (outD s).l.length ≤ 8 := by
  unfold outD
  split
  · have hb := limI_bd (nD s) 8
    show (gD s).1.length ≤ 8
    unfold gD
    rw [goT_len]
    omega
  · exact Nat.zero_le _
theorem keepR {a b : World} (m : Mod a b []) {g g' : Nat} {v0 v1 v2 v3 v4 u0 u1 u2 u3 u4 : Value} (h : (a.cell? ⟨g, 0, none⟩ = some v0 ∧ a.cell? ⟨g, 1, none⟩ = some v1 ∧ a.cell? ⟨g, 2, none⟩ = some v2 ∧ a.cell? ⟨g, 3, none⟩ = some v3 ∧ a.cell? ⟨g, 4, none⟩ = some v4) ∧ a.cell? ⟨g', 0, none⟩ = some u0 ∧ a.cell? ⟨g', 1, none⟩ = some u1 ∧ a.cell? ⟨g', 2, none⟩ = some u2 ∧ a.cell? ⟨g', 3, none⟩ = some u3 ∧ a.cell? ⟨g', 4, none⟩ = some u4) :
    (b.cell? ⟨g, 0, none⟩ = some v0 ∧ b.cell? ⟨g, 1, none⟩ = some v1 ∧ b.cell? ⟨g, 2, none⟩ = some v2 ∧ b.cell? ⟨g, 3, none⟩ = some v3 ∧ b.cell? ⟨g, 4, none⟩ = some v4) ∧ b.cell? ⟨g', 0, none⟩ = some u0 ∧ b.cell? ⟨g', 1, none⟩ = some u1 ∧ b.cell? ⟨g', 2, none⟩ = some u2 ∧ b.cell? ⟨g', 3, none⟩ = some u3 ∧ b.cell? ⟨g', 4, none⟩ = some u4 :=
  ⟨⟨keepC m h.1.1, keepC m h.1.2.1, keepC m h.1.2.2.1, keepC m h.1.2.2.2.1, keepC m h.1.2.2.2.2⟩, keepC m h.2.1, keepC m h.2.2.1, keepC m h.2.2.2.1, keepC m h.2.2.2.2.1, keepC m h.2.2.2.2.2⟩

end Go.Proofs.Ytdmipmkgoefidaa.Ev
end
section
namespace Go.Proofs.Ytdmipmkgoefidaa.Ev
open Go.RowKit Mem Bits EvH
set_option linter.unusedSimpArgs false
set_option linter.unusedVariables false
set_option maxRecDepth 100000
abbrev fldSh : Open.Sh := .st (.cat .str (.cat valSh .nil))
abbrev evSh : Open.Sh := .st (.cat (.int .i64) (.cat (.int .i64) (.cat (.int .i64) (.cat .str (.cat (.sl fldSh 56) .nil)))))
theorem fld_rd {w : World} {cs : List Value} (h : Open.Rd w fldSh cs) : ∃ x : Fld, cs = fldC x ∧ FldOK x := by
  obtain ⟨_, _, rfl, ⟨nm, rfl, hn⟩, _, _, rfl, hv, rfl⟩ := h
  obtain ⟨v, rfl, hv2⟩ := val_rd hv
  exact ⟨⟨nm, v⟩, rfl, hn, hv2.k1, hv2.k2, hv2.n1, hv2.n2, hv2.f, hv2.s⟩
structure EvOK (w : World) (a b c : Int) (k : ByteArray) (sl : Value) (l : List Fld) : Prop where
  a1 : -9223372036854775808 ≤ a
  a2 : a ≤ 9223372036854775807
  b1 : -9223372036854775808 ≤ b
  b2 : b ≤ 9223372036854775807
  c1 : -9223372036854775808 ≤ c
  c2 : c ≤ 9223372036854775807
  kz : k.size ≤ 140737488351232
  shape : ∃ a cap, sl = .slice a l.length cap
  f : FldsAt w sl l
  ok : ∀ x ∈ l, FldOK x
  n : l.length ≤ 140737488351232
theorem ev_rd {w : World} {cs : List Value} (h : Open.Rd w evSh cs) : ∃ a b c k sl l, cs = [.int .i64 a, .int .i64 b, .int .i64 c, .string k, sl] ∧ EvOK w a b c k sl l := by
  obtain ⟨_, _, rfl, ⟨a, rfl, ha⟩, _, _, rfl, ⟨b, rfl, hb⟩, _, _, rfl, ⟨c, rfl, hc⟩, _, _, rfl, ⟨k, rfl, hk⟩, _, _, rfl, ⟨sl, rows, rfl, hr, hn, _, hq⟩, rfl⟩ := h
  obtain ⟨l, rfl, hl⟩ := Open.rows_map fldC FldOK (fun r hr => fld_rd (hq r hr))
  have hs : ∃ a cap, sl = .slice a l.length cap := by
    obtain ⟨a, cap, rfl, _⟩ := hr
    rw [List.length_map]
    exact ⟨a, cap, rfl⟩
  rw [List.length_map] at hn
  exact ⟨a, b, c, k, sl, l, rfl, (wf_i64 ha).1, (wf_i64 ha).2, (wf_i64 hb).1, (wf_i64 hb).2, (wf_i64 hc).1, (wf_i64 hc).2, hk, hs, flds_of hr, hl, by omega⟩

end Go.Proofs.Ytdmipmkgoefidaa.Ev
end
section
namespace Go.Proofs.Ytdmipmkgoefidaa.Ev
open Go.RowKit Mem Bits EvH
set_option linter.unusedSimpArgs false
set_option linter.unusedVariables false
set_option maxRecDepth 100000

theorem canB2 (f : Nat) : canB (canB f) = canB f := by
  by_cases h : Fl.nanB f = true
  · have : canB f = 9221120237041090561 := by unfold canB; rw [if_pos h]
    rw [this]; decide +kernel
  · have : canB f = f := by unfold canB; rw [if_neg h]
    rw [this, this]
theorem same_val (k n : Int) (f f' : Nat) (hff : canB f = canB f') (s : ByteArray) (w : World) :
    Calls Try.prog 23 #[valV k n f s, valV k n f' s] w fun e w' => e = .returned (.bool true) ∧ Mod w w' [] := by
  have BC := Lib.hid (fun w => refbits_calls f w)
  have BC' := Lib.hid (fun w => refbits_calls f' w)
  rw [← hff] at BC'
  clear hff
  generalize canB f = F at *
  have h1 : (k == k) = true := by simp
  have h2 : (n == n) = true := by simp
  have h3 : (s.toList == s.toList) = true := by simp
  have h4 : ((F : Int) == (F : Int)) = true := by simp
  have HB0 := Lib.hid ((Blk.new w #[.int .i64 k, .int .i64 n, .float .f64 f, .string s] 45).alloc (.cells #[.int .i64 k, .int .i64 n, .float .f64 f', .string s] 45))
  have hb1 := Blk.new (w.alloc (.cells #[.int .i64 k, .int .i64 n, .float .f64 f, .string s] 45)) #[.int .i64 k, .int .i64 n, .float .f64 f', .string s] 45
  rw [World.size_alloc] at hb1
  have HB1 := Lib.hid hb1
  have HM0 := Lib.hid (((Mod.refl w []).alloc (.cells #[.int .i64 k, .int .i64 n, .float .f64 f, .string s] 45)).alloc (.cells #[.int .i64 k, .int .i64 n, .float .f64 f', .string s] 45))
  clear hb1
  go_enter Try.func23, Try.ntmps23
  go_wp2_with fail
  generalize (w.alloc _).alloc _ = W at HB0 HB1 HM0 ⊢
  obtain ⟨v0, v1, v2, v3⟩ := BlkA HB0.out
  obtain ⟨u0, u1, u2, u3⟩ := BlkA HB1.out
  (refine wp_region_quiet_after (by kernel_rfl) (by kernel_rfl) ?_; (repeat (go_big_quiet_step ((first | (with_reducible refine after_same (BC.out _)) | (with_reducible refine after_same (BC'.out _)))))); refine wpQuiet_nil ?_; intro wq hw'; obtain ⟨⟨wq2, hmq⟩, hw''⟩ := hw'; subst hw'')
  have M1 := Lib.hid (HM0.out.trans0 hmq)
  clear v0 v1 v2 v3 u0 u1 u2 u3 hmq
  go_wp2_with fail
  go_ret
  exact ⟨rfl, M1.out⟩


set_option maxHeartbeats 4000000 in
theorem same2_calls (a b c : Int) (k : ByteArray) (sl sl' : Value) (l l' : List Fld) (hll : l' = l.map canF) (hn : l.length ≤ 1000000) (w : World) (hf : FldsAt w sl l') (hf' : FldsAt w sl' l) :
    Calls Try.prog 26 #[evV a b c k sl, evV a b c k sl'] w fun e w' => e = .returned (.bool true) ∧ Mod w w' [] := by
  have hn' : (l.length : Int) ≤ 1000000 := by omega
  have h1 : (a != a) = false := by simp
  have h2 : (b != b) = false := by simp
  have h3 : (c != c) = false := by simp
  have h4 : (k.toList == k.toList) = true := by simp
  have h5 : ((l.length : Int) != (l.length : Int)) = false := by simp
  have HB0 := Lib.hid ((Blk.new w #[.int .i64 a, .int .i64 b, .int .i64 c, .string k, sl] 32).alloc (.cells #[.int .i64 a, .int .i64 b, .int .i64 c, .string k, sl'] 32))
  have hb1 := Blk.new (w.alloc (.cells #[.int .i64 a, .int .i64 b, .int .i64 c, .string k, sl] 32)) #[.int .i64 a, .int .i64 b, .int .i64 c, .string k, sl'] 32
  rw [World.size_alloc] at hb1
  have HB1 := Lib.hid hb1
  have HM0 := Lib.hid (((Mod.refl w []).alloc (.cells #[.int .i64 a, .int .i64 b, .int .i64 c, .string k, sl] 32)).alloc (.cells #[.int .i64 a, .int .i64 b, .int .i64 c, .string k, sl'] 32))
  have hlen : l'.length = l.length := by rw [hll, List.length_map]
  have HF := Lib.hid hf
  have HF' := Lib.hid hf'
  clear hb1 hf hf'
  rcases HF.out with ⟨hnil', a0, cap, hsl⟩ | ⟨bb, off, cap, hsl, hcap, hrow⟩
  · have hnil : l = [] := List.eq_nil_of_length_eq_zero (by rw [← hlen, hnil']; rfl)
    rcases HF'.out with ⟨_, a1, cap', hsl'⟩ | ⟨bb', off', cap', hsl', hcap', hrow'⟩
    · subst hsl hsl'
      clear hnil hnil' hll hlen
      go_enter Try.func26, Try.ntmps26
      go_wp2_with fail
      go_loop [5] (fun v => v = .int .i64 0) (fun v => 0)
      case atStart => rfl
      case round =>
        subst hrel
        go_wp2_with fail
        go_ret
        exact ⟨rfl, HM0.out⟩
    · have h0 : l.length = 0 := by rw [hnil]; rfl
      rw [h0] at hsl'
      subst hsl hsl'
      clear hnil hnil' hll hlen
      go_enter Try.func26, Try.ntmps26
      go_wp2_with fail
      go_loop [5] (fun v => v = .int .i64 0) (fun v => 0)
      case atStart => rfl
      case round =>
        subst hrel
        go_wp2_with fail
        go_ret
        exact ⟨rfl, HM0.out⟩
  · rw [hlen] at hsl hcap
    have hsl2 : ∃ bb' off' cap', sl' = .slice (some ⟨bb', off', none⟩) l.length cap' ∧ (0 < l.length → l.length ≤ cap') ∧ RowF w bb' off' l ∨ (l.length = 0 ∧ ∃ a1, sl' = .slice a1 0 cap') := by
      rcases HF'.out with ⟨hnil', a1, cap', hsl'⟩ | ⟨bb', off', cap', hsl', hcap', hrow'⟩
      · exact ⟨0, 0, cap', .inr ⟨by rw [hnil']; rfl, a1, hsl'⟩⟩
      · exact ⟨bb', off', cap', .inl ⟨hsl', fun _ => hcap', hrow'⟩⟩
    obtain ⟨bb', off', cap', ⟨hsl', hcap', hrow'⟩ | ⟨h0, a1, hsl'⟩⟩ := hsl2
    case inr =>
      rw [h0] at hsl
      subst hsl hsl'
      go_enter Try.func26, Try.ntmps26
      go_wp2_with fail
      go_loop [5] (fun v => v = .int .i64 0) (fun v => 0)
      case atStart => rfl
      case round =>
        subst hrel
        go_wp2_with fail
        go_ret
        exact ⟨rfl, HM0.out⟩
    subst hsl hsl'
    have HROW := Lib.hid (hrow.mod HM0.out)
    have HROW' := Lib.hid (hrow'.mod HM0.out)
    clear hrow hrow'
    go_enter Try.func26, Try.ntmps26
    go_wp2_with fail
    generalize (w.alloc _).alloc _ = W at HB0 HB1 HM0 HROW HROW' ⊢
    go_loopw [5] (fun v wr => ∃ i : Nat, i ≤ l.length ∧ v = .int .i64 (i : Int) ∧ Mod W wr []) (fun v _ => l.length + 1 - (intOf v).toNat)
    case atStart => exact ⟨0, by omega, rfl, Mod.refl _ _⟩
    case round =>
      obtain ⟨i, hi, rfl, hm⟩ := hrel
      have HM := Lib.hid hm
      by_cases hlt : i < l.length
      · have hlt' : (i : Int) < l.length := by omega
        have hi0 : (0 : Int) ≤ (i : Int) := by omega
        have hc1 := (HROW.out.mod hm) i (by rw [hlen]; exact hlt)
        have hx1 : l'[i]'(by rw [hlen]; exact hlt) = canF (l[i]'hlt) := by subst hll; rw [List.getElem_map]
        rw [hx1] at hc1
        have hc2 := (HROW'.out.mod hm) i hlt
        obtain ⟨e0, e1, e2, e3, e4⟩ := Blk5 (HB0.out.mod hm (by simp))
        obtain ⟨g0, g1, g2, g3, g4⟩ := Blk5 (HB1.out.mod hm (by simp))
        obtain ⟨v0, v1, v2, v3, v4⟩ := BlkA5 (HB0.out.mod hm (by simp))
        obtain ⟨u0, u1, u2, u3, u4⟩ := BlkA5 (HB1.out.mod hm (by simp))
        obtain ⟨x, hx⟩ : ∃ x, (l[i]'hlt) = x := ⟨_, rfl⟩
        rw [hx] at hc1 hc2
        obtain ⟨p0, p1, p2, p3, p4⟩ := hc1.after
        obtain ⟨q0, q1, q2, q3, q4⟩ := hc2.after
        have SV := Lib.hid (fun w => same_val x.v.k x.v.n (canB x.v.f) x.v.f (canB2 _) x.v.s w)
        have hxx : (x.name.toList == x.name.toList) = true := by simp
        have hcl : (l.length : Int) ≤ cap := by omega
        have hcl' : (l.length : Int) ≤ cap' := by have := hcap' (by omega); omega
        clear hm hx hc1 hc2 hx1
        dsimp only [canF] at p0 p1 p2 p3 p4
        go_wp2_with fail
        (refine wp_region_quiet_after (by kernel_rfl) (by kernel_rfl) ?_; (repeat (go_big_quiet_step ((with_reducible refine after_of (SV.out _))))); refine wpQuiet_nil ?_; intro wq hw'; obtain ⟨⟨wq2, hmq⟩, hw''⟩ := hw'; subst hw'')
        have M3 := Lib.hid (HM.out.trans0 hmq)
        clear v0 v1 v2 v3 v4 u0 u1 u2 u3 u4 p0 p1 p2 p3 p4 q0 q1 q2 q3 q4 e0 e1 e2 e3 e4 g0 g1 g2 g3 g4 hmq
        go_wp2_with fail
        go_roundw
        case rel => exact ⟨i + 1, by omega, by go_num, M3.out⟩
        case measure => simp [intOf]; omega
      · have hge : (l.length : Int) ≤ i := by omega
        obtain ⟨e0, e1, e2, e3, e4⟩ := Blk5 (HB0.out.mod hm (by simp))
        go_wp2_with fail
        go_ret
        exact ⟨rfl, HM0.out.trans0 HM.out⟩
end Go.Proofs.Ytdmipmkgoefidaa.Ev
end
