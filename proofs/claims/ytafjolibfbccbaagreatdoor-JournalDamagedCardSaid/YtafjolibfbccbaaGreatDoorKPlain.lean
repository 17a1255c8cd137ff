/-
  The journal in plain Lean: what is stored is read back.
-/
import Derived.Test.YtafjolibfbccbaaGreatDoorKOpenJ
import Derived.Test.YtafjolibfbccbaaGreatDoorKAppend
namespace Go.Proofs.YtafjolibfbccbaaGreatDoor
open Go.RowKit
set_option maxRecDepth 100000
set_option maxHeartbeats 1000000

/-- Records one after the other: the tape behind them, and what is stored. -/
def addL (ks : List Int) (T : TapeS) (l : List (List UInt8)) : TapeS × List UInt8 := l.foldl (fun x r => (x.1.add ks r, x.2 ++ storedS ks x.1 r)) (T, [])
theorem addAll_L (ks : List Int) (T : TapeS) (l : List ByteArray) : addAll ks T l = addL ks T (l.map fun s => s.data.toList) := by unfold addAll addL; rw [List.foldl_map]
theorem addL_acc (ks : List Int) : ∀ (l : List (List UInt8)) (T : TapeS) (b : List UInt8), l.foldl (fun x r => (x.1.add ks r, x.2 ++ storedS ks x.1 r)) (T, b) = ((addL ks T l).1, b ++ (addL ks T l).2) := by
  intro l
  induction l with
  | nil => intro T b; simp [addL]
  | cons r l ih =>
    intro T b
    unfold addL
    rw [List.foldl_cons, List.foldl_cons, ih, ih (T.add ks r) ([] ++ storedS ks T r)]
    simp
theorem addL_cons (ks : List Int) (T : TapeS) (r : List UInt8) (l : List (List UInt8)) : addL ks T (r :: l) = ((addL ks (T.add ks r) l).1, storedS ks T r ++ (addL ks (T.add ks r) l).2) := by
  conv => lhs; unfold addL
  rw [List.foldl_cons, addL_acc]
  simp
theorem addL_append (ks : List Int) : ∀ (a b : List (List UInt8)) (T : TapeS), addL ks T (a ++ b) = ((addL ks (addL ks T a).1 b).1, (addL ks T a).2 ++ (addL ks (addL ks T a).1 b).2) := by
  intro a
  induction a with
  | nil => intro b T; simp [addL]
  | cons r a ih => intro b T; rw [List.cons_append, addL_cons, ih, addL_cons]; simp
theorem stored_length (ks : List Int) (T : TapeS) (r : List UInt8) : (storedS ks T r).length = (putStrS r).length + 33 := by
  unfold storedS
  simp only [List.length_cons, List.length_append, chainS_length]
theorem addL_size (ks : List Int) : ∀ (l : List (List UInt8)) (T : TapeS), (addL ks T l).1.size = T.size + (addL ks T l).2.length := by
  intro l
  induction l with
  | nil => intro T; simp [addL]
  | cons r l ih =>
    intro T
    rw [addL_cons]
    simp only [List.length_append, stored_length]
    rw [ih]
    unfold TapeS.add
    simp only
    omega
theorem addL_recs (ks : List Int) : ∀ (l : List (List UInt8)) (T : TapeS), (addL ks T l).1.recs = T.recs ++ l := by
  intro l
  induction l with
  | nil => intro T; simp [addL]
  | cons r l ih => intro T; rw [addL_cons]; simp only; rw [ih]; unfold TapeS.add; simp
theorem addL_head (ks : List Int) : ∀ (l : List (List UInt8)) (T : TapeS), T.head.length = 32 → (addL ks T l).1.head.length = 32 := by
  intro l
  induction l with
  | nil => intro T h; exact h
  | cons r l ih => intro T h; rw [addL_cons]; simp only; exact ih _ (by unfold TapeS.add; exact chainS_length _ _ _)
def lenL (l : List (List UInt8)) : Nat := (l.map fun r => 33 + (putStrS r).length).sum
theorem addL_len (ks : List Int) : ∀ (l : List (List UInt8)) (T : TapeS), (addL ks T l).2.length = lenL l := by
  intro l
  induction l with
  | nil => intro T; rfl
  | cons r l ih =>
    intro T
    rw [addL_cons]
    simp only [List.length_append, stored_length, ih]
    unfold lenL
    simp only [List.map_cons, List.sum_cons]
    omega
theorem lenL_append (a b : List (List UInt8)) : lenL (a ++ b) = lenL a + lenL b := by unfold lenL; rw [List.map_append, List.sum_append]

/-- A number that was put is read. -/
theorem intFrom_groups (bs : List UInt8) (a : Nat) : ∀ (z i z0 f : Nat) (rest : List UInt8), bs.drop (a + i) = (groupsS z).map (fun x => UInt8.ofNat (grpB x)) ++ rest → (groupsS z).length ≤ f → (i = 0 ∨ z ≠ 0) → -4611686018427387903 ≤ unzig (z0 + z * 2 ^ (7 * i)) →
    intFrom bs a f i z0 = (unzig (z0 + z * 2 ^ (7 * i)), ((a + i + (groupsS z).length : Nat) : Int), 0) := by
  intro z
  induction z using Nat.strongRecOn with
  | _ z ih =>
    intro i z0 f rest hd hf hi hu
    by_cases hz : z < 128
    · rw [groupsS_last hz] at hd hf ⊢
      simp only [List.map_cons, List.map_nil, List.length_singleton, List.singleton_append] at hd hf ⊢
      obtain ⟨f, rfl⟩ : ∃ g, f = g + 1 := ⟨f - 1, by omega⟩
      have hg : bs[a + i]? = some (UInt8.ofNat z) := by
        have h1 : (bs.drop (a + i))[0]? = some (UInt8.ofNat z) := by rw [hd]; rfl
        rwa [List.getElem?_drop, Nat.add_zero] at h1
      have ht : (UInt8.ofNat z).toNat = z := by rw [UInt8.toNat_ofNat']; omega
      rw [intFrom, hg]
      simp only [ht, Nat.mod_eq_of_lt hz]
      rw [if_neg (by omega), if_neg (by unfold intBad; omega)]
    · rw [groupsS_more hz] at hd hf ⊢
      simp only [List.map_cons, List.length_cons, List.cons_append] at hd hf ⊢
      obtain ⟨f, rfl⟩ : ∃ g, f = g + 1 := ⟨f - 1, by omega⟩
      have hgb : grpB (z % 128, false) = z % 128 + 128 := rfl
      have hg : bs[a + i]? = some (UInt8.ofNat (z % 128 + 128)) := by
        have h1 : (bs.drop (a + i))[0]? = some (UInt8.ofNat (z % 128 + 128)) := by rw [hd]; rfl
        rwa [List.getElem?_drop, Nat.add_zero] at h1
      have ht : (UInt8.ofNat (z % 128 + 128)).toNat = z % 128 + 128 := by rw [UInt8.toNat_ofNat']; omega
      have hd2 : bs.drop (a + (i + 1)) = (groupsS (z / 128)).map (fun x => UInt8.ofNat (grpB x)) ++ rest := by
        rw [← Nat.add_assoc, ← List.drop_drop, hd]; rfl
      have hm : z0 + (z % 128) * 2 ^ (7 * i) + (z / 128) * 2 ^ (7 * (i + 1)) = z0 + z * 2 ^ (7 * i) := by
        have h1 : 2 ^ (7 * (i + 1)) = 128 * 2 ^ (7 * i) := by rw [Nat.mul_add, Nat.pow_add, Nat.mul_comm]
        rw [h1, ← Nat.mul_assoc, Nat.add_assoc, ← Nat.add_mul]
        congr 2
        omega
      rw [intFrom, hg]
      simp only [ht, show (z % 128 + 128) % 128 = z % 128 by omega]
      rw [if_pos (by omega), ih (z / 128) (by omega) (i + 1) _ f rest hd2 (by omega) (.inr (by omega)) (by rw [hm]; exact hu), hm]
      congr 2
      omega
theorem groupsS_pos (z : Nat) : 0 < (groupsS z).length := by
  by_cases h : z < 128
  · rw [groupsS_last h]; simp
  · rw [groupsS_more h]; simp
theorem putS_length (n : Int) : (putS n).length = (groupsS (zigS n)).length := by unfold putS; rw [List.length_map]
theorem intS_put (bs : List UInt8) (a n : Nat) (rest : List UInt8) (hd : bs.drop a = putS (n : Int) ++ rest) (hn : n ≤ 65536) : intS bs a = ((n : Int), ((a + (putS (n : Int)).length : Nat) : Int), 0) := by
  have hz : zigS (n : Int) = 2 * n := by unfold zigS; rw [if_neg (by omega)]; omega
  have hu : unzig (2 * n) = (n : Int) := by unfold unzig; rw [if_pos (by omega)]; omega
  have hl : (groupsS (2 * n)).length ≤ 9 := groupsS_length 8 _ (by omega)
  have hla : a ≤ bs.length := by
    have h1 := congrArg List.length hd
    rw [List.length_drop, List.length_append, putS_length] at h1
    have := groupsS_pos (zigS (n : Int))
    omega
  unfold intS
  rw [if_neg (by omega)]
  have h := intFrom_groups bs a (2 * n) 0 0 9 rest (by rw [← hz]; exact hd) hl (.inl rfl) (by simp only [Nat.mul_zero, Nat.pow_zero, Nat.mul_one, Nat.zero_add]; rw [hu]; omega)
  rw [h, putS_length, hz]
  simp only [Nat.mul_zero, Nat.pow_zero, Nat.mul_one, Nat.zero_add, Nat.add_zero, hu]
theorem stringS_put (bs : List UInt8) (a : Nat) (r rest : List UInt8) (hd : bs.drop a = putStrS r ++ rest) (hr : r.length ≤ 65536) : stringS bs a = (r, ((a + (putStrS r).length : Nat) : Int), 0) := by
  unfold putStrS at hd ⊢
  rw [List.append_assoc] at hd
  have h := intS_put bs a r.length (r ++ rest) hd hr
  have hd2 : bs.drop (a + (putS (r.length : Int)).length) = r ++ rest := by rw [← List.drop_drop, hd, List.drop_left]
  have hla := congrArg List.length hd2
  rw [List.length_drop, List.length_append] at hla
  have hz : a + (putS (r.length : Int)).length ≤ bs.length := by
    have h1 := congrArg List.length hd
    rw [List.length_drop, List.length_append, List.length_append] at h1
    have : 0 < (putS (r.length : Int)).length := by rw [putS_length]; exact groupsS_pos _
    omega
  unfold stringS
  rw [h]
  simp only [ne_eq, not_true_eq_false, if_false, Int.toNat_natCast]
  rw [if_neg (by unfold strBad; omega), hd2, List.take_left, List.length_append]
  congr 2
  omega
theorem reload (ks : List Int) : ∀ (l : List (List UInt8)) (T : TapeS) (bs : List UInt8) (f k : Nat), bs.drop T.size = (addL ks T l).2 ++ List.replicate k 0 → (∀ r ∈ l, r.length ≤ 65536) → l.length < f → loadS ks bs f T = some (addL ks T l).1 := by
  intro l
  induction l with
  | nil =>
    intro T bs f k hd _ hf
    obtain ⟨f, rfl⟩ : ∃ g, f = g + 1 := ⟨f - 1, by omega⟩
    have h0 : bs[T.size]?.getD 0 = 0 := by
      have h1 : (bs.drop T.size)[0]? = (List.replicate k (0 : UInt8))[0]? := by rw [hd]; rfl
      rw [List.getElem?_drop, Nat.add_zero] at h1
      rw [h1]
      cases k <;> simp
    rw [loadS, if_neg (by rw [h0]; simp)]
    rfl
  | cons r l ih =>
    intro T bs f k hd hr hf
    obtain ⟨f, rfl⟩ : ∃ g, f = g + 1 := ⟨f - 1, by omega⟩
    rw [addL_cons] at hd ⊢
    simp only at hd ⊢
    have hsl := stored_length ks T r
    have hd1 : bs.drop T.size = storedS ks T r ++ ((addL ks (T.add ks r) l).2 ++ List.replicate k 0) := by rw [hd, List.append_assoc]
    have hlen := congrArg List.length hd1
    rw [List.length_drop, List.length_append, hsl] at hlen
    have hg : bs[T.size]? = some 1 := by
      have h1 : (bs.drop T.size)[0]? = some 1 := by rw [hd1]; rfl
      rwa [List.getElem?_drop, Nat.add_zero] at h1
    have hd2 : bs.drop (T.size + 1) = putStrS r ++ (chainS ks T.head r ++ ((addL ks (T.add ks r) l).2 ++ List.replicate k 0)) := by
      rw [← List.drop_drop, hd1]
      unfold storedS
      simp
    have hs := stringS_put bs (T.size + 1) r _ hd2 (hr r (by simp))
    rw [loadS, hs, if_pos ⟨by omega, by rw [hg]; simp⟩]
    simp only [Int.toNat_natCast]
    rw [if_pos ⟨hg, trivial, by omega, by
      rw [show T.size + 1 + (putStrS r).length + 32 - T.size = (storedS ks T r).length by rw [hsl]; omega, hd1, List.take_left]⟩]
    refine ih _ bs f k ?_ (fun x hx => hr x (by simp [hx])) (by simp only [List.length_cons] at hf; omega)
    have e : (T.add ks r).size = T.size + (storedS ks T r).length := by rw [hsl]; unfold TapeS.add; simp only; omega
    rw [e, ← List.drop_drop, hd1, List.drop_left]

/-- The tape of records on a new disk, and their bytes. -/
def tapeOf (ks : List Int) (l : List (List UInt8)) : TapeS := (addL ks tape0 l).1
def bytesOf (ks : List Int) (l : List (List UInt8)) : List UInt8 := (addL ks tape0 l).2
theorem tapeOf_size (ks : List Int) (l : List (List UInt8)) : (tapeOf ks l).size = (bytesOf ks l).length := by unfold tapeOf bytesOf; rw [addL_size]; simp [tape0]
theorem tapeOf_recs (ks : List Int) (l : List (List UInt8)) : (tapeOf ks l).recs = l := by unfold tapeOf; rw [addL_recs]; simp [tape0]
theorem tapeOf_head (ks : List Int) (l : List (List UInt8)) : (tapeOf ks l).head.length = 32 := addL_head ks l tape0 (by simp [tape0])
theorem bytesOf_length (ks : List Int) (l : List (List UInt8)) : (bytesOf ks l).length = lenL l := addL_len ks l tape0
theorem lenL_count : ∀ l : List (List UInt8), 33 * l.length ≤ lenL l := by
  intro l
  induction l with
  | nil => simp [lenL]
  | cons r l ih => unfold lenL at *; simp only [List.map_cons, List.sum_cons, List.length_cons]; omega
theorem tape0_of (ks : List Int) : tape0 = tapeOf ks [] := rfl
/-- A disk of n bytes, s at its beginning, all of it sure. -/
def diskOf (n : Nat) (s : List UInt8) : DiskS := { off := false, left := 0, sure := s ++ List.replicate (n - s.length) 0, vis := s ++ List.replicate (n - s.length) 0, pend := [] }
theorem fresh_of (n : Nat) : DiskS.fresh n = diskOf n [] := by unfold DiskS.fresh diskOf; simp
theorem reload_of (ks : List Int) (l : List (List UInt8)) (k : Nat) (bs : List UInt8) (hb : bs = bytesOf ks l ++ List.replicate k 0) (hr : ∀ r ∈ l, r.length ≤ 65536) : loadS ks bs (bs.length + 1) tape0 = some (tapeOf ks l) := by
  refine reload ks l tape0 bs _ k (by rw [hb]; rfl) hr ?_
  rw [hb, List.length_append, bytesOf_length]
  have := lenL_count l
  omega
theorem trim_zeros (k : Nat) : Lib.trimB (List.replicate k 0) 0 = [] := by
  unfold Lib.trimB Lib.trimRightB Lib.trimLeftB
  have h : ∀ k, (List.replicate k (0 : UInt8)).dropWhile (· == 0) = [] := fun k => by
    induction k with
    | zero => rfl
    | succ k ih => rw [List.replicate_succ, List.dropWhile_cons, if_pos (by simp), ih]
  simp [h]
theorem open_of (ks : List Int) (l : List (List UInt8)) (k : Nat) (D : DiskS) (ho : D.off = false) (hb : D.vis = bytesOf ks l ++ List.replicate k 0) (hr : ∀ r ∈ l, r.length ≤ 65536) : OpenS ks D = (some (tapeOf ks l), D, 0) := by
  unfold OpenS
  rw [if_neg (by rw [ho]; simp), reload_of ks l k D.vis hb hr]
  simp only
  rw [if_pos (by rw [hb, tapeOf_size, List.drop_left]; exact trim_zeros k)]
theorem open_bad (ks : List Int) (D : DiskS) (ho : D.off = false) (b : UInt8) (t : List UInt8) (hb : D.vis = b :: t) (h0 : b ≠ 0) (h1 : b ≠ 1) : OpenS ks D = (none, D, 342) := by
  have e : loadS ks D.vis (D.vis.length + 1) tape0 = none := by
    rw [loadS, hb, if_pos ⟨by simp [tape0], by simp [tape0, h0]⟩, if_neg (by simp [tape0, h1])]
  unfold OpenS
  rw [if_neg (by rw [ho]; simp), e]
theorem put_mid (a m c s : List UInt8) (h : m.length = s.length) : put (a ++ m ++ c) a.length s = a ++ s ++ c := by
  unfold put
  rw [List.append_assoc, List.take_left, ← h, ← List.drop_drop, List.drop_left, List.drop_left, List.append_assoc]
theorem write_on (D : DiskS) (a m c s : List UInt8) (x : Int) (hx : x = (a.length : Int)) (ho : D.off = false) (hl : D.left = 0) (hv : D.vis = a ++ m ++ c) (hs : D.vis.length = D.sure.length) (hm : m.length = s.length) : D.write x s = ({ D with vis := a ++ s ++ c, pend := D.pend ++ [(a.length, s)] }, 0) := by
  subst hx
  unfold DiskS.write
  have hlen : D.sure.length = a.length + m.length + c.length := by rw [← hs, hv]; simp; omega
  rw [if_neg (by rw [ho]; simp), if_pos (by unfold inB; simp only [decide_eq_true_eq]; omega)]
  unfold DiskS.written DiskS.used
  simp only [hl, if_true, Int.toNat_natCast]
  rw [hv, put_mid a m c s hm]
theorem sync_on (D : DiskS) (ho : D.off = false) : D.sync = ({ D with sure := D.vis, pend := [] }, 0) := by
  unfold DiskS.sync
  rw [if_neg (by rw [ho]; simp)]
  unfold DiskS.settled
  rfl
theorem runOps_cons (D D' : DiskS) (o : DOp) (l : List DOp) (h : o.run D = (D', 0)) : runOps D (o :: l) = runOps D' l := by
  rw [runOps_on (by rw [h]), h]
theorem append_run (n : Nat) (s t : List UInt8) (h : UInt8) (hn : s.length + t.length + 1 ≤ n) :
    runOps (diskOf n s) [.write ((s.length : Int) + 1) ⟨t.toArray⟩, .sync, .write (s.length : Int) ⟨#[h]⟩, .sync] = (diskOf n (s ++ h :: t), 0) := by
  have hz : List.replicate (n - s.length) (0 : UInt8) = [0] ++ List.replicate t.length 0 ++ List.replicate (n - s.length - t.length - 1) 0 := by
    rw [← List.replicate_one, List.replicate_append_replicate, List.replicate_append_replicate]
    congr 1
    omega
  have e1 := write_on (diskOf n s) (s ++ [0]) (List.replicate t.length 0) (List.replicate (n - s.length - t.length - 1) 0) t ((s.length : Int) + 1) (by simp) rfl rfl (by unfold diskOf; rw [hz]; simp) rfl (by simp)
  rw [runOps_cons _ _ _ _ (show DOp.run (diskOf n s) (.write ((s.length : Int) + 1) ⟨t.toArray⟩) = _ from e1)]
  rw [runOps_cons _ _ _ _ (show DOp.run _ .sync = _ from sync_on _ rfl)]
  have e2 := write_on { off := false, left := 0, sure := s ++ [0] ++ t ++ List.replicate (n - s.length - t.length - 1) 0, vis := s ++ [0] ++ t ++ List.replicate (n - s.length - t.length - 1) 0, pend := [] } s [0] (t ++ List.replicate (n - s.length - t.length - 1) 0) [h] (s.length : Int) rfl rfl rfl (by simp) rfl rfl
  refine Eq.trans (runOps_cons _ _ _ _ (show DOp.run _ (.write (s.length : Int) ⟨#[h]⟩) = _ from e2)) ?_
  refine Eq.trans (runOps_cons _ _ _ _ (show DOp.run _ .sync = _ from sync_on _ rfl)) ?_
  rw [runOps]
  unfold diskOf
  have e : n - (s ++ h :: t).length = n - s.length - t.length - 1 := by simp; omega
  rw [e]
  simp
def bytesL (l : List ByteArray) : List (List UInt8) := l.map fun s => s.data.toList
theorem lens_of (l : List ByteArray) (h : ∀ s ∈ l, s.size ≤ 65536) : ∀ r ∈ bytesL l, r.length ≤ 65536 := by
  intro r hr
  obtain ⟨s, hs, rfl⟩ := List.mem_map.1 hr
  have := h s hs
  have : s.data.toList.length = s.size := Lib.size_eq s ▸ rfl
  omega
theorem long_not (l : List ByteArray) (h : ∀ s ∈ l, s.size ≤ 65536) : anyLong l = false := by
  unfold anyLong
  rw [List.any_eq_false]
  intro s hs
  have := h s hs
  simp; omega
theorem addAll_tape (ks : List Int) (l0 : List (List UInt8)) (l : List ByteArray) : (addAll ks (tapeOf ks l0) l).1 = tapeOf ks (l0 ++ bytesL l) ∧ bytesOf ks (l0 ++ bytesL l) = bytesOf ks l0 ++ (addAll ks (tapeOf ks l0) l).2 := by
  rw [addAll_L]
  unfold tapeOf bytesOf
  rw [addL_append]
  exact ⟨rfl, rfl⟩
theorem addAll_len (ks : List Int) (T : TapeS) (l : List ByteArray) : (addAll ks T l).2.length = lenL (bytesL l) := by rw [addAll_L, addL_len]; rfl
theorem diskOf_size (n : Nat) (s : List UInt8) (h : s.length ≤ n) : (diskOf n s).sure.length = n := by unfold diskOf; simp; omega
theorem append_ok (ks : List Int) (n : Nat) (l0 : List (List UInt8)) (l : List ByteArray) (hs : ∀ s ∈ l, s.size ≤ 65536) (hn : lenL l0 + lenL (bytesL l) ≤ n) :
    appendS ks (tapeOf ks l0) (diskOf n (bytesOf ks l0)) false l = (tapeOf ks (l0 ++ bytesL l), diskOf n (bytesOf ks (l0 ++ bytesL l)), false, 0) := by
  obtain ⟨h1, h2⟩ := addAll_tape ks l0 l
  have hl := addAll_len ks (tapeOf ks l0) l
  unfold appendS
  rw [if_neg (by rw [long_not l hs]; simp), if_neg (by rw [diskOf_size _ _ (by rw [bytesOf_length]; omega), tapeOf_size, bytesOf_length, hl]; omega)]
  rw [h2, ← h1]
  cases hc : (addAll ks (tapeOf ks l0) l).2 with
  | nil =>
    rw [hc] at hl
    have hl0 : l = [] := by
      have := lenL_count (bytesL l)
      unfold bytesL at this
      rw [List.length_map] at this
      simp only [List.length_nil] at hl
      unfold bytesL at hl
      exact List.eq_nil_of_length_eq_zero (by omega)
    subst hl0
    simp [addAll]
  | cons b t =>
    rw [hc] at hl
    simp only [List.length_cons] at hl
    have e := append_run n (bytesOf ks l0) t b (by rw [bytesOf_length]; omega)
    rw [← tapeOf_size] at e
    simp only [e]
    simp
theorem append_full (ks : List Int) (n : Nat) (l0 : List (List UInt8)) (l : List ByteArray) (D : DiskS) (hd : D.sure.length = n) (hs : ∀ s ∈ l, s.size ≤ 65536) (hn0 : lenL l0 ≤ n) (hn : n < lenL l0 + lenL (bytesL l)) :
    appendS ks (tapeOf ks l0) D false l = (tapeOf ks l0, D, false, 341) := by
  have hl := addAll_len ks (tapeOf ks l0) l
  unfold appendS
  rw [if_neg (by rw [long_not l hs]; simp), if_pos (by rw [hd, tapeOf_size, bytesOf_length, hl]; omega)]
theorem append_long (ks : List Int) (T : TapeS) (D : DiskS) (br : Bool) (l : List ByteArray) (s : ByteArray) (hs : s ∈ l) (h : 65536 < s.size) : appendS ks T D br l = (T, D, br, 340) := by
  unfold appendS
  rw [if_pos (.inr (by unfold anyLong; rw [List.any_eq_true]; exact ⟨s, hs, by simpa using h⟩))]
theorem append_broken (ks : List Int) (T : TapeS) (D : DiskS) (l : List ByteArray) : appendS ks T D true l = (T, D, true, 340) := by
  unfold appendS
  rw [if_pos (.inl rfl)]
theorem append_none (ks : List Int) (T : TapeS) (D : DiskS) : appendS ks T D false [] = (T, D, false, 0) := by
  unfold appendS
  rw [if_neg (by simp [anyLong]), if_neg (by simp [addAll])]
  simp [addAll]
/-- The power is off. -/
theorem append_off (ks : List Int) (n : Nat) (l0 : List (List UInt8)) (l : List ByteArray) (D : DiskS) (ho : D.off = true) (hd : D.sure.length = n) (hs : ∀ s ∈ l, s.size ≤ 65536) (hl0 : l ≠ []) (hn : lenL l0 + lenL (bytesL l) ≤ n) :
    appendS ks (tapeOf ks l0) D false l = (tapeOf ks l0, D, true, 331) := by
  have hl := addAll_len ks (tapeOf ks l0) l
  unfold appendS
  rw [if_neg (by rw [long_not l hs]; simp), if_neg (by rw [hd, tapeOf_size, bytesOf_length, hl]; omega)]
  cases hc : (addAll ks (tapeOf ks l0) l).2 with
  | nil =>
    rw [hc] at hl
    have := lenL_count (bytesL l)
    unfold bytesL at this
    rw [List.length_map] at this
    simp only [List.length_nil] at hl
    unfold bytesL at hl
    exact absurd (List.eq_nil_of_length_eq_zero (by omega)) hl0
  | cons b t =>
    have e : runOps D [.write (((tapeOf ks l0).size : Int) + 1) ⟨t.toArray⟩, .sync, .write ((tapeOf ks l0).size : Int) ⟨#[b]⟩, .sync] = (D, 331) := by
      have e1 : ∀ (x : Int) (s : ByteArray), DOp.run D (.write x s) = (D, 331) := fun x s => by
        show D.write x s.data.toList = _
        unfold DiskS.write
        rw [if_pos ho]
      rw [runOps_stop (by rw [e1]; simp), e1]
    simp only [e]
    simp
/-- As 'reload', whatever stands behind a byte 0. -/
theorem reload0 (ks : List Int) : ∀ (l : List (List UInt8)) (T : TapeS) (bs : List UInt8) (f : Nat) (rest : List UInt8), bs.drop T.size = (addL ks T l).2 ++ rest → rest[0]?.getD 0 = 0 → (∀ r ∈ l, r.length ≤ 65536) → l.length < f → loadS ks bs f T = some (addL ks T l).1 := by
  intro l
  induction l with
  | nil =>
    intro T bs f rest hd hz _ hf
    obtain ⟨f, rfl⟩ : ∃ g, f = g + 1 := ⟨f - 1, by omega⟩
    have h0 : bs[T.size]?.getD 0 = 0 := by
      have h1 : (bs.drop T.size)[0]? = rest[0]? := by rw [hd]; rfl
      rw [List.getElem?_drop, Nat.add_zero] at h1
      rw [h1]; exact hz
    rw [loadS, if_neg (by rw [h0]; simp)]
    rfl
  | cons r l ih =>
    intro T bs f rest hd hz hr hf
    obtain ⟨f, rfl⟩ : ∃ g, f = g + 1 := ⟨f - 1, by omega⟩
    rw [addL_cons] at hd ⊢
    simp only at hd ⊢
    have hsl := stored_length ks T r
    have hd1 : bs.drop T.size = storedS ks T r ++ ((addL ks (T.add ks r) l).2 ++ rest) := by rw [hd, List.append_assoc]
    have hlen := congrArg List.length hd1
    rw [List.length_drop, List.length_append, hsl] at hlen
    have hg : bs[T.size]? = some 1 := by
      have h1 : (bs.drop T.size)[0]? = some 1 := by rw [hd1]; rfl
      rwa [List.getElem?_drop, Nat.add_zero] at h1
    have hd2 : bs.drop (T.size + 1) = putStrS r ++ (chainS ks T.head r ++ ((addL ks (T.add ks r) l).2 ++ rest)) := by
      rw [← List.drop_drop, hd1]
      unfold storedS
      simp
    have hs := stringS_put bs (T.size + 1) r _ hd2 (hr r (by simp))
    rw [loadS, hs, if_pos ⟨by omega, by rw [hg]; simp⟩]
    simp only [Int.toNat_natCast]
    rw [if_pos ⟨hg, trivial, by omega, by
      rw [show T.size + 1 + (putStrS r).length + 32 - T.size = (storedS ks T r).length by rw [hsl]; omega, hd1, List.take_left]⟩]
    refine ih _ bs f rest ?_ hz (fun x hx => hr x (by simp [hx])) (by simp only [List.length_cons] at hf; omega)
    have e : (T.add ks r).size = T.size + (storedS ks T r).length := by rw [hsl]; unfold TapeS.add; simp only; omega
    rw [e, ← List.drop_drop, hd1, List.drop_left]
theorem reload_of0 (ks : List Int) (l : List (List UInt8)) (rest bs : List UInt8) (hb : bs = bytesOf ks l ++ rest) (hz : rest[0]?.getD 0 = 0) (hr : ∀ r ∈ l, r.length ≤ 65536) : loadS ks bs (bs.length + 1) tape0 = some (tapeOf ks l) := by
  refine reload0 ks l tape0 bs _ rest (by rw [hb]; rfl) hz hr ?_
  rw [hb, List.length_append, bytesOf_length]
  have := lenL_count l
  omega
theorem tw_imp {p : UInt8 → Bool} : ∀ (l : List UInt8) (x : UInt8), x ∈ l.takeWhile p → p x = true := by
  intro l
  induction l with
  | nil => intro x hx; simp at hx
  | cons b l ih =>
    intro x hx
    rw [List.takeWhile_cons] at hx
    split at hx
    · rename_i hb
      rcases List.mem_cons.1 hx with rfl | hx
      · exact hb
      · exact ih x hx
    · simp at hx
theorem trim_none : ∀ (l : List UInt8), Lib.trimB l 0 = [] → l = List.replicate l.length 0 := by
  have h1 : ∀ l : List UInt8, l.dropWhile (· == 0) = [] → l = List.replicate l.length 0 := by
    intro l
    induction l with
    | nil => intro _; rfl
    | cons b l ih =>
      intro h
      rw [List.dropWhile_cons] at h
      split at h
      · rename_i hb
        have hb0 : b = 0 := by simpa using hb
        rw [hb0, List.length_cons, List.replicate_succ, ← ih h]
      · cases h
  intro l h
  unfold Lib.trimB Lib.trimLeftB Lib.trimRightB at h
  have h2 := h1 _ h
  have h3 : ∀ l : List UInt8, (∀ x ∈ l, x = 0) → l = List.replicate l.length 0 := fun l hl => List.eq_replicate_iff.2 ⟨rfl, hl⟩
  refine h3 l (fun x hx => ?_)
  have hspl := List.takeWhile_append_dropWhile (p := (· == (0 : UInt8))) (l := l.reverse)
  have hx2 : x ∈ l.reverse.takeWhile (· == 0) ++ l.reverse.dropWhile (· == 0) := by rw [hspl]; simpa using hx
  rcases List.mem_append.1 hx2 with hm | hm
  · have := tw_imp _ _ hm
    simpa using this
  · have h4 : x ∈ (l.reverse.dropWhile (· == 0)).reverse := by simpa using hm
    rw [h2] at h4
    exact List.eq_of_mem_replicate h4
/-- A disk behind a crash. -/
def plainD (v : List UInt8) : DiskS := { off := false, left := 0, sure := v, vis := v, pend := [] }
theorem open_crashed (ks : List Int) (N : Nat) (l : List (List UInt8)) (v rest : List UInt8) (hv : v = bytesOf ks l ++ rest) (hN : v.length = N) (hz : rest[0]?.getD 0 = 0) (hr : ∀ r ∈ l, r.length ≤ 65536) : OpenS ks (plainD v) = (some (tapeOf ks l), diskOf N (bytesOf ks l), 0) := by
  have hrl : rest.length = N - (bytesOf ks l).length := by rw [← hN, hv, List.length_append]; omega
  unfold OpenS
  rw [if_neg (by simp [plainD]), show (plainD v).vis = v from rfl, reload_of0 ks l rest v hv hz hr]
  simp only
  by_cases ht : Lib.trimB (v.drop (tapeOf ks l).size) 0 = []
  · rw [if_pos ht]
    have hd : v.drop (tapeOf ks l).size = rest := by rw [hv, tapeOf_size, List.drop_left]
    rw [hd] at ht
    have hrr := trim_none rest ht
    unfold plainD diskOf
    rw [hv, hrr, ← hrl]
    try simp
  · rw [if_neg ht]
    have hsz : v.length - (tapeOf ks l).size = rest.length := by rw [tapeOf_size, hv, List.length_append]; omega
    have e1 := write_on (plainD v) (bytesOf ks l) rest [] (List.replicate rest.length 0) ((tapeOf ks l).size : Int) (by rw [tapeOf_size]) rfl rfl (by unfold plainD; simp [hv]) rfl (by simp)
    have e2 : runOps (plainD v) [.write ((tapeOf ks l).size : Int) ⟨(List.replicate (v.length - (tapeOf ks l).size) 0).toArray⟩, .sync] = (diskOf N (bytesOf ks l), 0) := by
      rw [hsz, runOps_cons _ _ _ _ (show DOp.run (plainD v) (.write ((tapeOf ks l).size : Int) ⟨(List.replicate rest.length 0).toArray⟩) = _ from e1)]
      refine Eq.trans (runOps_cons _ _ _ _ (show DOp.run _ .sync = _ from sync_on _ rfl)) ?_
      rw [runOps]
      unfold diskOf plainD
      rw [← hrl]
      simp
    rw [e2]
    simp
/-- What any power failure leaves: the records L, or the group in addition. -/
def Crashes (ks : List Int) (N : Nat) (L G : List (List UInt8)) (D : DiskS) : Prop :=
  ∀ keep torn, ∃ L' v rest, (L' = L ∨ L' = L ++ G) ∧ D.crash keep torn = plainD v ∧ v = bytesOf ks L' ++ rest ∧ v.length = N ∧ rest[0]?.getD 0 = 0
theorem crash_empty (D : DiskS) (keep : List Int) (torn : Int) (h : D.pend = []) : D.crash keep torn = plainD D.sure := by
  unfold DiskS.crash DiskS.kept
  rw [h]
  unfold DiskS.settled plainD
  simp [order, lastTorn, puts]
theorem kept_one (D : DiskS) (p : Nat × List UInt8) (h : D.pend = [p]) (keep : List Int) : D.kept keep = [] ∨ D.kept keep = [p] := by
  unfold DiskS.kept order
  rw [h]
  by_cases hk : ((0 : Nat) : Int) ∈ keep
  · right
    have : (List.range [p].length).filter (fun (i : Nat) => decide ((i : Int) ∈ keep)) = [0] := by
      rw [List.length_singleton, List.range_one, List.filter_cons, if_pos (by simpa using hk)]
      rfl
    rw [this]
    rfl
  · left
    have : (List.range [p].length).filter (fun (i : Nat) => decide ((i : Int) ∈ keep)) = [] := by
      rw [List.length_singleton, List.range_one, List.filter_cons, if_neg (by simpa using hk)]
      rfl
    rw [this]
    rfl
theorem crash_one (D : DiskS) (o : Nat) (s : List UInt8) (h : D.pend = [(o, s)]) (keep : List Int) (torn : Int) : ∃ k, D.crash keep torn = plainD (put D.sure o (s.take k)) ∨ D.crash keep torn = plainD D.sure := by
  have hc : D.crash keep torn = plainD (puts D.sure (lastTorn torn (D.kept keep))) := by
    unfold DiskS.crash DiskS.settled plainD
    rfl
  rw [hc]
  rcases kept_one D _ h keep with hk | hk
  · exact ⟨0, .inr (by rw [hk]; rfl)⟩
  · rw [hk]
    by_cases ht : 0 ≤ torn
    · refine ⟨torn.toNat, .inl ?_⟩
      have : lastTorn torn [(o, s)] = [(o, s.take torn.toNat)] := by simp [lastTorn, ht]
      rw [this]; rfl
    · refine ⟨s.length, .inl ?_⟩
      have : lastTorn torn [(o, s)] = [(o, s)] := by simp [lastTorn, ht]
      rw [this, List.take_length]; rfl
/-- A disk of n bytes that will take m writes more (0: any number). -/
def diskLeft (n : Nat) (s : List UInt8) (m : Nat) : DiskS := { diskOf n s with left := m }
theorem diskLeft_none (n : Nat) (s : List UInt8) : diskLeft n s 0 = diskOf n s := rfl
theorem crashes_left (ks : List Int) (N m : Nat) (L G : List (List UInt8)) (h : lenL L ≤ N) : Crashes ks N L G (diskLeft N (bytesOf ks L) m) := by
  intro keep torn
  refine ⟨L, _, List.replicate (N - (bytesOf ks L).length) 0, .inl rfl, crash_empty _ keep torn rfl, rfl, ?_, ?_⟩
  · show (bytesOf ks L ++ List.replicate (N - (bytesOf ks L).length) 0).length = N
    rw [List.length_append, List.length_replicate, bytesOf_length]; omega
  · cases N - (bytesOf ks L).length <;> simp
theorem write_left (D : DiskS) (a m c s : List UInt8) (x : Int) (hx : x = (a.length : Int)) (ho : D.off = false) (hv : D.vis = a ++ m ++ c) (hs : D.vis.length = D.sure.length) (hm : m.length = s.length) : D.write x s = ({ D with vis := a ++ s ++ c, pend := D.pend ++ [(a.length, s)] }.used, 0) := by
  subst hx
  unfold DiskS.write
  have hlen : D.sure.length = a.length + m.length + c.length := by rw [← hs, hv]; simp; omega
  rw [if_neg (by rw [ho]; simp), if_pos (by unfold inB; simp only [decide_eq_true_eq]; omega)]
  unfold DiskS.written
  simp only [Int.toNat_natCast]
  rw [hv, put_mid a m c s hm]
theorem zeros_split (n a t : Nat) (h : a + t + 1 ≤ n) : List.replicate (n - a) (0 : UInt8) = [0] ++ List.replicate t 0 ++ List.replicate (n - a - t - 1) 0 := by
  rw [← List.replicate_one, List.replicate_append_replicate, List.replicate_append_replicate]
  congr 1
  omega
/-- A group is stored while the power lasts. -/
theorem append_run_ok (n m : Nat) (s t : List UInt8) (h : UInt8) (hn : s.length + t.length + 1 ≤ n) (hm : m = 0 ∨ 3 ≤ m) :
    runOps (diskLeft n s m) [.write ((s.length : Int) + 1) ⟨t.toArray⟩, .sync, .write (s.length : Int) ⟨#[h]⟩, .sync] = (diskLeft n (s ++ h :: t) (m - 2), 0) := by
  rcases hm with rfl | hm
  · exact append_run n s t h hn
  have e1 := write_left (diskLeft n s m) (s ++ [0]) (List.replicate t.length 0) (List.replicate (n - s.length - t.length - 1) 0) t ((s.length : Int) + 1) (by simp) rfl (by unfold diskLeft diskOf; simp only; rw [zeros_split n s.length t.length hn]; simp) rfl (by simp)
  have u1 : ∀ v p, ({ diskLeft n s m with vis := v, pend := p } : DiskS).used = { off := false, left := m - 1, sure := (diskLeft n s m).sure, vis := v, pend := p } := by
    intro v p
    unfold DiskS.used
    rw [if_neg (by show ¬ m = 0; omega)]
    show ({ off := decide (m - 1 = 0), left := m - 1, sure := _, vis := v, pend := p } : DiskS) = _
    rw [decide_eq_false (by omega)]
  rw [u1] at e1
  rw [runOps_cons _ _ _ _ (show DOp.run (diskLeft n s m) (.write ((s.length : Int) + 1) ⟨t.toArray⟩) = _ from e1)]
  refine Eq.trans (runOps_cons _ _ _ _ (show DOp.run _ .sync = _ from sync_on _ rfl)) ?_
  have e2 := write_left { off := false, left := m - 1, sure := s ++ [0] ++ t ++ List.replicate (n - s.length - t.length - 1) 0, vis := s ++ [0] ++ t ++ List.replicate (n - s.length - t.length - 1) 0, pend := [] } s [0] (t ++ List.replicate (n - s.length - t.length - 1) 0) [h] (s.length : Int) rfl rfl (by simp) rfl rfl
  have u2 : ∀ v w p, ({ off := false, left := m - 1, sure := w, vis := v, pend := p } : DiskS).used = { off := false, left := m - 2, sure := w, vis := v, pend := p } := by
    intro v w p
    unfold DiskS.used
    rw [if_neg (by show ¬ m - 1 = 0; omega)]
    show ({ off := decide (m - 1 - 1 = 0), left := m - 1 - 1, sure := w, vis := v, pend := p } : DiskS) = _
    rw [decide_eq_false (by omega)]
    congr 1
  rw [u2] at e2
  refine Eq.trans (runOps_cons _ _ _ _ (show DOp.run _ (.write (s.length : Int) ⟨#[h]⟩) = _ from e2)) ?_
  refine Eq.trans (runOps_cons _ _ _ _ (show DOp.run _ .sync = _ from sync_on _ rfl)) ?_
  rw [runOps]
  unfold diskLeft diskOf
  have e : n - (s ++ h :: t).length = n - s.length - t.length - 1 := by simp; omega
  rw [e]
  simp
theorem sync_off (D : DiskS) (ho : D.off = true) : D.sync = (D, 331) := by
  unfold DiskS.sync
  rw [if_pos ho]
theorem put_nil (b : List UInt8) (o : Nat) : put b o [] = b := by unfold put; simp
/-- The power fails behind the first write of a group. -/
theorem append_run_1 (n : Nat) (s t : List UInt8) (h : UInt8) (hn : s.length + t.length + 1 ≤ n) :
    ∃ D', runOps (diskLeft n s 1) [.write ((s.length : Int) + 1) ⟨t.toArray⟩, .sync, .write (s.length : Int) ⟨#[h]⟩, .sync] = (D', 331) ∧ D'.off = true ∧ D'.sure = s ++ List.replicate (n - s.length) 0 ∧ D'.pend = [(s.length + 1, t)] := by
  have e1 := write_left (diskLeft n s 1) (s ++ [0]) (List.replicate t.length 0) (List.replicate (n - s.length - t.length - 1) 0) t ((s.length : Int) + 1) (by simp) rfl (by unfold diskLeft diskOf; simp only; rw [zeros_split n s.length t.length hn]; simp) rfl (by simp)
  rw [runOps_cons _ _ _ _ (show DOp.run (diskLeft n s 1) (.write ((s.length : Int) + 1) ⟨t.toArray⟩) = _ from e1)]
  have e2 := fun l => runOps_stop (D := ({ diskLeft n s 1 with vis := s ++ [0] ++ t ++ List.replicate (n - s.length - t.length - 1) 0, pend := (diskLeft n s 1).pend ++ [((s ++ [0]).length, t)] } : DiskS).used) (o := .sync) (l := l) (by
    show (DiskS.sync _).2 ≠ 0
    rw [sync_off _ rfl]; simp)
  refine ⟨_, (e2 _).trans (sync_off _ rfl), rfl, rfl, ?_⟩
  show [((s ++ [0]).length, t)] = _
  simp
/-- The power fails behind the second write of a group. -/
theorem append_run_2 (n : Nat) (s t : List UInt8) (h : UInt8) (hn : s.length + t.length + 1 ≤ n) :
    ∃ D', runOps (diskLeft n s 2) [.write ((s.length : Int) + 1) ⟨t.toArray⟩, .sync, .write (s.length : Int) ⟨#[h]⟩, .sync] = (D', 331) ∧ D'.off = true ∧ D'.sure = s ++ [0] ++ t ++ List.replicate (n - s.length - t.length - 1) 0 ∧ D'.pend = [(s.length, [h])] := by
  have e1 := write_left (diskLeft n s 2) (s ++ [0]) (List.replicate t.length 0) (List.replicate (n - s.length - t.length - 1) 0) t ((s.length : Int) + 1) (by simp) rfl (by unfold diskLeft diskOf; simp only; rw [zeros_split n s.length t.length hn]; simp) rfl (by simp)
  rw [runOps_cons _ _ _ _ (show DOp.run (diskLeft n s 2) (.write ((s.length : Int) + 1) ⟨t.toArray⟩) = _ from e1)]
  have e3 : ∀ l, runOps ({ diskLeft n s 2 with vis := s ++ [0] ++ t ++ List.replicate (n - s.length - t.length - 1) 0, pend := (diskLeft n s 2).pend ++ [((s ++ [0]).length, t)] } : DiskS).used (.sync :: l) = runOps { off := false, left := 1, sure := s ++ [0] ++ t ++ List.replicate (n - s.length - t.length - 1) 0, vis := s ++ [0] ++ t ++ List.replicate (n - s.length - t.length - 1) 0, pend := [] } l := fun l => runOps_cons _ _ _ _ (show DOp.run _ .sync = _ from sync_on _ rfl)
  rw [e3]
  have e2 := write_left { off := false, left := 1, sure := s ++ [0] ++ t ++ List.replicate (n - s.length - t.length - 1) 0, vis := s ++ [0] ++ t ++ List.replicate (n - s.length - t.length - 1) 0, pend := [] } s [0] (t ++ List.replicate (n - s.length - t.length - 1) 0) [h] (s.length : Int) rfl rfl (by simp) rfl rfl
  rw [runOps_cons _ _ _ _ (show DOp.run _ (.write (s.length : Int) ⟨#[h]⟩) = _ from e2)]
  refine ⟨_, (runOps_stop (by
    show (DiskS.sync _).2 ≠ 0
    rw [sync_off _ rfl]; simp)).trans (sync_off _ rfl), rfl, rfl, rfl⟩
theorem crashes_1 (ks : List Int) (n : Nat) (L G : List (List UInt8)) (t : List UInt8) (D : DiskS) (hn : (bytesOf ks L).length + t.length + 1 ≤ n) (hs : D.sure = bytesOf ks L ++ List.replicate (n - (bytesOf ks L).length) 0) (hp : D.pend = [((bytesOf ks L).length + 1, t)]) : Crashes ks n L G D := by
  intro keep torn
  obtain ⟨k, hc | hc⟩ := crash_one D _ t hp keep torn
  · have htl : (t.take k).length ≤ t.length := by rw [List.length_take]; omega
    have hv : put D.sure ((bytesOf ks L).length + 1) (t.take k) = bytesOf ks L ++ ([0] ++ t.take k ++ List.replicate (n - (bytesOf ks L).length - (t.take k).length - 1) 0) := by
      have e := put_mid (bytesOf ks L ++ [0]) (List.replicate (t.take k).length 0) (List.replicate (n - (bytesOf ks L).length - (t.take k).length - 1) 0) (t.take k) (by simp)
      have e0 : (bytesOf ks L ++ [(0 : UInt8)]).length = (bytesOf ks L).length + 1 := by simp
      rw [e0] at e
      rw [hs, zeros_split n (bytesOf ks L).length (t.take k).length (by omega)]
      rw [show bytesOf ks L ++ ([0] ++ List.replicate (t.take k).length 0 ++ List.replicate (n - (bytesOf ks L).length - (t.take k).length - 1) 0) = bytesOf ks L ++ [0] ++ List.replicate (t.take k).length 0 ++ List.replicate (n - (bytesOf ks L).length - (t.take k).length - 1) 0 by simp, e]
      simp
    exact ⟨L, _, _, .inl rfl, hc, hv, by rw [hv]; simp; rw [List.length_take] at htl; omega, rfl⟩
  · refine ⟨L, _, _, .inl rfl, hc, hs, by rw [hs]; simp; omega, ?_⟩
    cases n - (bytesOf ks L).length <;> simp
theorem crashes_2 (ks : List Int) (n : Nat) (L G : List (List UInt8)) (t : List UInt8) (h : UInt8) (D : DiskS) (hn : (bytesOf ks L).length + t.length + 1 ≤ n) (hg : bytesOf ks (L ++ G) = bytesOf ks L ++ h :: t)
    (hs : D.sure = bytesOf ks L ++ [0] ++ t ++ List.replicate (n - (bytesOf ks L).length - t.length - 1) 0) (hp : D.pend = [((bytesOf ks L).length, [h])]) : Crashes ks n L G D := by
  intro keep torn
  have hlen : D.sure.length = n := by rw [hs]; simp; omega
  have hold : D.sure = bytesOf ks L ++ ([0] ++ t ++ List.replicate (n - (bytesOf ks L).length - t.length - 1) 0) := by rw [hs]; simp
  obtain ⟨k, hc | hc⟩ := crash_one D _ [h] hp keep torn
  · cases k with
    | zero =>
      rw [List.take_zero, put_nil] at hc
      exact ⟨L, _, _, .inl rfl, hc, hold, hlen, rfl⟩
    | succ k =>
      rw [List.take_of_length_le (by simp)] at hc
      have hv : put D.sure (bytesOf ks L).length [h] = bytesOf ks (L ++ G) ++ List.replicate (n - (bytesOf ks L).length - t.length - 1) 0 := by
        have e := put_mid (bytesOf ks L) [0] (t ++ List.replicate (n - (bytesOf ks L).length - t.length - 1) 0) [h] rfl
        rw [hs, show bytesOf ks L ++ [0] ++ t ++ List.replicate (n - (bytesOf ks L).length - t.length - 1) 0 = bytesOf ks L ++ [0] ++ (t ++ List.replicate (n - (bytesOf ks L).length - t.length - 1) 0) by simp, e, hg]
        simp
      refine ⟨L ++ G, _, _, .inr rfl, hc, hv, ?_, ?_⟩
      · rw [put_length _ _ _ (by rw [hlen]; simp; omega), hlen]
      · cases n - (bytesOf ks L).length - t.length - 1 <;> simp
  · exact ⟨L, _, _, .inl rfl, hc, hold, hlen, rfl⟩
/-- What a journal that stands makes of a group that is neither too long nor full. -/
theorem append_left (ks : List Int) (n m : Nat) (L : List (List UInt8)) (l : List ByteArray) (hs : ∀ s ∈ l, s.size ≤ 65536) (hn : lenL L + lenL (bytesL l) ≤ n) :
    (∃ m', appendS ks (tapeOf ks L) (diskLeft n (bytesOf ks L) m) false l = (tapeOf ks (L ++ bytesL l), diskLeft n (bytesOf ks (L ++ bytesL l)) m', false, 0) ∧ m' ≤ m) ∨
    (∃ D', appendS ks (tapeOf ks L) (diskLeft n (bytesOf ks L) m) false l = (tapeOf ks L, D', true, 331) ∧ D'.off = true ∧ D'.sure.length = n ∧ D'.pend.length ≤ 1 ∧ Crashes ks n L (bytesL l) D' ∧ (m = 1 ∨ m = 2)) := by
  obtain ⟨h1, h2⟩ := addAll_tape ks L l
  have hl := addAll_len ks (tapeOf ks L) l
  have hLl := bytesOf_length ks L
  unfold appendS
  rw [if_neg (by rw [long_not l hs]; simp), if_neg (by
    rw [show (diskLeft n (bytesOf ks L) m).sure.length = n from diskOf_size _ _ (by omega), tapeOf_size, hl]; omega)]
  rw [← h1]
  cases hc : (addAll ks (tapeOf ks L) l).2 with
  | nil =>
    rw [hc] at hl
    have hl0 : l = [] := by
      have := lenL_count (bytesL l)
      unfold bytesL at this
      rw [List.length_map] at this
      simp only [List.length_nil] at hl
      unfold bytesL at hl
      exact List.eq_nil_of_length_eq_zero (by omega)
    subst hl0
    refine .inl ⟨m, ?_, Nat.le_refl _⟩
    rw [h2]
    simp [addAll]
  | cons b t =>
    rw [hc] at hl h2
    simp only [List.length_cons] at hl
    have hle : (bytesOf ks L).length + t.length + 1 ≤ n := by omega
    have hsz := tapeOf_size ks L
    by_cases hm : m = 0 ∨ 3 ≤ m
    · have e := append_run_ok n m (bytesOf ks L) t b hle hm
      rw [← hsz] at e
      refine .inl ⟨m - 2, ?_, by omega⟩
      simp only [e]
      rw [h2]
      simp
    · right
      by_cases hm1 : m = 1
      · subst hm1
        obtain ⟨D', e, d1, d2, d3⟩ := append_run_1 n (bytesOf ks L) t b hle
        refine ⟨D', ?_, d1, by rw [d2]; simp; omega, by rw [d3]; simp, crashes_1 ks n L (bytesL l) t D' hle d2 d3, .inl rfl⟩
        rw [← hsz] at e
        simp only [e]
        simp
      · obtain rfl : m = 2 := by omega
        obtain ⟨D', e, d1, d2, d3⟩ := append_run_2 n (bytesOf ks L) t b hle
        refine ⟨D', ?_, d1, by rw [d2]; simp; omega, by rw [d3]; simp, crashes_2 ks n L (bytesL l) t b D' hle h2 d2 d3, .inr rfl⟩
        rw [← hsz] at e
        simp only [e]
        simp
end Go.Proofs.YtafjolibfbccbaaGreatDoor
