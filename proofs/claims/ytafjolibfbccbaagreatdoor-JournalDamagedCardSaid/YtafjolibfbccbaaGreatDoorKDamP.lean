/-
  One byte of the stored records is changed: what the journal's load makes of it. The plain law.
-/
import Derived.Test.YtafjolibfbccbaaGreatDoorKPlain
namespace Go.Proofs.YtafjolibfbccbaaGreatDoor
open Go.RowKit
set_option maxRecDepth 100000
set_option maxHeartbeats 1000000

def sizedS : List (List UInt8) → Int → Bool
  | [], _ => false
  | r :: l, a => if 1 ≤ a ∧ a ≤ (putS (r.length : Int)).length then true else sizedS l (a - (1 + (putS (r.length : Int)).length + r.length + 32))
theorem sizedS_cons (r : List UInt8) (l : List (List UInt8)) (a : Int) : sizedS (r :: l) a = if 1 ≤ a ∧ a ≤ (putS (r.length : Int)).length then true else sizedS l (a - (1 + (putS (r.length : Int)).length + r.length + 32)) := rfl
def headsS (ks : List Int) : List (List UInt8) → List UInt8 → List (List UInt8)
  | [], _ => []
  | r :: l, h => (2 :: (h ++ r)) :: headsS ks l (chainS ks h r)
def headTo (ks : List Int) (h : List UInt8) (l : List (List UInt8)) : List UInt8 := l.foldl (chainS ks) h
theorem headsS_length (ks : List Int) : ∀ (l : List (List UInt8)) (h : List UInt8), (headsS ks l h).length = l.length
  | [], _ => rfl
  | _ :: l, h => by show (headsS ks l _).length + 1 = l.length + 1; rw [headsS_length ks l]
theorem headsS_at (ks : List Int) : ∀ (l : List (List UInt8)) (h : List UInt8) (i : Nat) (r : List UInt8), l[i]? = some r → (headsS ks l h)[i]? = some (2 :: (headTo ks h (l.take i) ++ r))
  | [], _, _, _, e => by simp at e
  | x :: l, h, 0, r, e => by
    obtain rfl : x = r := by simpa using e
    rfl
  | x :: l, h, i + 1, r, e => by
    show (headsS ks l (chainS ks h x))[i]? = _
    rw [headsS_at ks l _ i r (by simpa using e)]
    rfl
theorem addL_headTo (ks : List Int) : ∀ (l : List (List UInt8)) (T : TapeS), (addL ks T l).1.head = headTo ks T.head l := by
  intro l
  induction l with
  | nil => intro T; rfl
  | cons r l ih => intro T; rw [addL_cons]; simp only; rw [ih]; rfl
theorem addL_same (ks : List Int) : ∀ (l : List (List UInt8)) (T T' : TapeS), T.head = T'.head → (addL ks T l).2 = (addL ks T' l).2 := by
  intro l
  induction l with
  | nil => intro T T' _; rfl
  | cons r l ih =>
    intro T T' h
    rw [addL_cons, addL_cons]
    simp only
    rw [ih (T.add ks r) (T'.add ks r) (by unfold TapeS.add; simp only; rw [h])]
    unfold storedS
    rw [h]
/-- A record that is laid with some digest. -/
theorem load_rec (ks : List Int) (T : TapeS) (bs : List UInt8) (f : Nat) (r H rest : List UInt8) (hd : bs.drop T.size = 1 :: (putStrS r ++ (H ++ rest))) (hH : H.length = 32) (hr : r.length ≤ 65536) :
    (chainS ks T.head r = H → loadS ks bs (f + 1) T = loadS ks bs f (T.add ks r) ∧ bs.drop (T.add ks r).size = rest) ∧ (chainS ks T.head r ≠ H → loadS ks bs (f + 1) T = none) := by
  have hlen := congrArg List.length hd
  rw [List.length_drop, List.length_cons, List.length_append, List.length_append, hH] at hlen
  have hg : bs[T.size]? = some 1 := by
    have h1 : (bs.drop T.size)[0]? = some 1 := by rw [hd]; rfl
    rwa [List.getElem?_drop, Nat.add_zero] at h1
  have hd2 : bs.drop (T.size + 1) = putStrS r ++ (H ++ rest) := by
    rw [← List.drop_drop, hd]
    rfl
  have hs := stringS_put bs (T.size + 1) r _ hd2 hr
  have htk : (bs.drop T.size).take (T.size + 1 + (putStrS r).length + 32 - T.size) = 1 :: (putStrS r ++ H) := by
    rw [hd, show (1 :: (putStrS r ++ (H ++ rest)) : List UInt8) = (1 :: (putStrS r ++ H)) ++ rest by simp, show T.size + 1 + (putStrS r).length + 32 - T.size = (1 :: (putStrS r ++ H) : List UInt8).length by rw [List.length_cons, List.length_append, hH]; omega, List.take_left]
  have hc0 := chainS_length ks T.head r
  constructor
  · intro he
    refine ⟨?_, ?_⟩
    · rw [loadS, hs, if_pos ⟨by omega, by rw [hg]; simp⟩]
      simp only [Int.toNat_natCast]
      rw [if_pos ⟨hg, trivial, by omega, by rw [htk]; unfold storedS; rw [he]⟩]
    · have e : (T.add ks r).size = T.size + (1 :: (putStrS r ++ H) : List UInt8).length := by rw [List.length_cons, List.length_append, hH]; unfold TapeS.add; simp only; omega
      rw [e, ← List.drop_drop, hd, show (1 :: (putStrS r ++ (H ++ rest)) : List UInt8) = (1 :: (putStrS r ++ H)) ++ rest by simp, List.drop_left]
  · intro he
    rw [loadS, hs, if_pos ⟨by omega, by rw [hg]; simp⟩]
    simp only [Int.toNat_natCast]
    rw [if_neg]
    rintro ⟨_, _, _, h4⟩
    rw [htk] at h4
    unfold storedS at h4
    have h5 := List.tail_eq_of_cons_eq h4
    exact he (List.append_cancel_left h5)
theorem set_ne {l : List UInt8} {k : Nat} {c : UInt8} (hk : k < l.length) (h : l[k]? ≠ some c) : l.set k c ≠ l := by
  intro e
  apply h
  rw [← e, List.getElem?_set_self hk]
theorem damaged (ks : List Int) : ∀ (l : List (List UInt8)) (T : TapeS) (bs : List UInt8) (f k z : Nat) (c : UInt8), (∀ r ∈ l, r.length ≤ 65536) →
    bs.drop T.size = (addL ks T l).2.set k c ++ List.replicate z 0 → k < (addL ks T l).2.length → (addL ks T l).2[k]? ≠ some c → sizedS l (k : Int) = false → l.length < f → T.size ≤ bs.length →
    loadS ks bs f T = none ∨
    (c = 0 ∧ ∃ i T', i < l.length ∧ loadS ks bs f T = some T' ∧ T'.recs = T.recs ++ l.take i ∧ T'.size ≤ bs.length) ∨
    (∃ i r r' T', l[i]? = some r ∧ r' ≠ r ∧ r'.length = r.length ∧ chainS ks (headTo ks T.head (l.take i)) r' = chainS ks (headTo ks T.head (l.take i)) r ∧ loadS ks bs f T = some T' ∧ T'.recs = T.recs ++ (l.take i ++ r' :: l.drop (i + 1)) ∧ T'.size ≤ bs.length) := by
  intro l
  induction l with
  | nil => intro T bs f k z c _ _ hk; exact absurd hk (by simp [addL])
  | cons r l ih =>
    intro T bs f k z c hr hd hk hne hsz hf hTb
    obtain ⟨f, rfl⟩ : ∃ g, f = g + 1 := ⟨f - 1, by omega⟩
    have hrl := hr r (by simp)
    have hsl := stored_length ks T r
    have hHl := chainS_length ks T.head r
    rw [addL_cons] at hd hk hne
    simp only at hd hk hne
    rw [List.set_append] at hd
    rw [List.length_append, hsl] at hk
    rw [hsl] at hd
    have hps : (putStrS r).length = (putS (r.length : Int)).length + r.length := by unfold putStrS; rw [List.length_append]
    by_cases hin : k < (putStrS r).length + 33
    · rw [if_pos hin] at hd
      rw [List.getElem?_append_left (by rw [hsl]; exact hin)] at hne
      obtain ⟨R, hR⟩ : ∃ x, (addL ks (T.add ks r) l).2 = x := ⟨_, rfl⟩
      rw [hR, List.append_assoc] at hd
      by_cases h0 : k = 0
      · subst h0
        have hc1 : c ≠ 1 := fun e => hne (by rw [e]; rfl)
        have hg : bs[T.size]? = some c := by
          have h1 : (bs.drop T.size)[0]? = some c := by rw [hd]; rfl
          rwa [List.getElem?_drop, Nat.add_zero] at h1
        by_cases hc0 : c = 0
        · subst hc0
          refine .inr (.inl ⟨rfl, 0, T, by simp, ?_, by simp, hTb⟩)
          rw [loadS, if_neg (by rw [hg]; simp)]
        · left
          have hlt := (List.getElem?_eq_some_iff.1 hg).1
          rw [loadS, if_pos ⟨hlt, by rw [hg]; simpa using hc0⟩, if_neg]
          rintro ⟨h1, _⟩
          rw [hg] at h1
          exact hc1 (by simpa using h1)
      · obtain ⟨j, rfl⟩ : ∃ j, k = j + 1 := ⟨k - 1, by omega⟩
        unfold storedS at hd hne
        rw [List.set_cons_succ, List.set_append] at hd
        rw [List.getElem?_cons_succ] at hne
        by_cases hj : j < (putStrS r).length
        · rw [if_pos hj] at hd
          rw [List.getElem?_append_left hj] at hne
          unfold sizedS at hsz
          have hjn : (putS (r.length : Int)).length ≤ j := by
            by_cases h : (putS (r.length : Int)).length ≤ j
            · exact h
            · rw [if_pos ⟨by omega, by omega⟩] at hsz; cases hsz
          unfold putStrS at hd hne
          rw [List.set_append, if_neg (by omega)] at hd
          rw [List.getElem?_append_right hjn] at hne
          obtain ⟨q, hq⟩ : ∃ q, j - (putS (r.length : Int)).length = q := ⟨_, rfl⟩
          rw [hq] at hd hne
          have hql : q < r.length := by omega
          obtain ⟨r', hr'⟩ : ∃ x, r.set q c = x := ⟨_, rfl⟩
          have hr'l : r'.length = r.length := by rw [← hr', List.length_set]
          have hr'n : r' ≠ r := by rw [← hr']; exact set_ne hql hne
          rw [hr'] at hd
          have hpr : putS (r.length : Int) ++ r' = putStrS r' := by unfold putStrS; rw [hr'l]
          rw [hpr, List.cons_append, List.append_assoc] at hd
          have hL := load_rec ks T bs f r' (chainS ks T.head r) (R ++ List.replicate z 0) hd hHl (by omega)
          by_cases he : chainS ks T.head r' = chainS ks T.head r
          · obtain ⟨h1, h2⟩ := hL.1 he
            have hR2 : R = (addL ks (T.add ks r') l).2 := by
              rw [← hR]
              exact addL_same ks l _ _ (by unfold TapeS.add; simp only; exact he.symm)
            rw [hR2] at h2
            have h3 := reload ks l (T.add ks r') bs f z h2 (fun x hx => hr x (by simp [hx])) (by simp only [List.length_cons] at hf; omega)
            have h4 := congrArg List.length h2
            rw [List.length_drop, List.length_append] at h4
            have h5 := addL_size ks l (T.add ks r')
            refine .inr (.inr ⟨0, r, r', (addL ks (T.add ks r') l).1, rfl, hr'n, hr'l, he, by rw [h1, h3], ?_, ?_⟩)
            · rw [addL_recs]; unfold TapeS.add; simp
            · have h6 : (T.add ks r').size ≤ bs.length := by
                have := congrArg List.length hd
                rw [List.length_drop, List.length_cons, List.length_append, List.length_append, hHl] at this
                unfold TapeS.add
                simp only
                omega
              omega
          · exact .inl (hL.2 he)
        · rw [if_neg hj] at hd
          rw [List.getElem?_append_right (by omega)] at hne
          obtain ⟨q, hq⟩ : ∃ q, j - (putStrS r).length = q := ⟨_, rfl⟩
          rw [hq] at hd hne
          have hql : q < (chainS ks T.head r).length := by rw [hHl]; omega
          rw [List.cons_append, List.append_assoc] at hd
          have hL := load_rec ks T bs f r ((chainS ks T.head r).set q c) (R ++ List.replicate z 0) hd (by rw [List.length_set]; exact hHl) hrl
          exact .inl (hL.2 (fun e => set_ne hql hne e.symm))
    · rw [if_neg hin, List.append_assoc] at hd
      rw [List.getElem?_append_right (by rw [hsl]; omega), hsl] at hne
      obtain ⟨k', hk'⟩ : ∃ x, k - ((putStrS r).length + 33) = x := ⟨_, rfl⟩
      rw [hk'] at hd hne
      have hd1 : bs.drop T.size = 1 :: (putStrS r ++ (chainS ks T.head r ++ ((addL ks (T.add ks r) l).2.set k' c ++ List.replicate z 0))) := by
        rw [hd]; unfold storedS; simp
      have hsz' : sizedS l (k' : Int) = false := by
        unfold sizedS at hsz
        rw [if_neg (by omega)] at hsz
        rw [show (k' : Int) = (k : Int) - (1 + (putS (r.length : Int)).length + r.length + 32) by omega]
        exact hsz
      obtain ⟨h1, h2⟩ := (load_rec ks T bs f r (chainS ks T.head r) _ hd1 hHl hrl).1 rfl
      have hTb' : (T.add ks r).size ≤ bs.length := by
        have := congrArg List.length hd1
        rw [List.length_drop, List.length_cons, List.length_append, List.length_append, hHl] at this
        unfold TapeS.add
        simp only
        omega
      rw [h1]
      rcases ih (T.add ks r) bs f k' z c (fun x hx => hr x (by simp [hx])) h2 (by omega) hne hsz' (by simp only [List.length_cons] at hf; omega) hTb' with h | ⟨hc, i, T', a1, a2, a3, a4⟩ | ⟨i, x, x', T', a1, a2, a3, a4, a5, a6, a7⟩
      · exact .inl h
      · refine .inr (.inl ⟨hc, i + 1, T', by simp only [List.length_cons]; omega, a2, ?_, a4⟩)
        rw [a3, List.take_succ_cons]
        unfold TapeS.add
        simp
      · refine .inr (.inr ⟨i + 1, x, x', T', by simpa using a1, a2, a3, ?_, a5, ?_, a7⟩)
        · rw [List.take_succ_cons]; exact a4
        · rw [a6, List.take_succ_cons, List.drop_succ_cons]
          unfold TapeS.add
          simp
theorem open_some (ks : List Int) (D : DiskS) (T' : TapeS) (ho : D.off = false) (hl : D.left = 0) (hs : D.vis.length = D.sure.length) (h : loadS ks D.vis (D.vis.length + 1) tape0 = some T') (hT : T'.size ≤ D.vis.length) : (OpenS ks D).1 = some T' := by
  unfold OpenS
  rw [if_neg (by simp [ho]), h]
  simp only
  by_cases ht : Lib.trimB (D.vis.drop T'.size) 0 = []
  · rw [if_pos ht]
  · rw [if_neg ht]
    have hrl : (D.vis.drop T'.size).length = D.vis.length - T'.size := List.length_drop
    have e1 := write_on D (D.vis.take T'.size) (D.vis.drop T'.size) [] (List.replicate (D.vis.length - T'.size) 0) (T'.size : Int) (by rw [List.length_take]; omega) ho hl (by rw [List.append_nil, List.take_append_drop]) hs (by rw [hrl, List.length_replicate])
    obtain ⟨D1, hD1⟩ : ∃ x, ({ D with vis := D.vis.take T'.size ++ List.replicate (D.vis.length - T'.size) 0 ++ [], pend := D.pend ++ [((D.vis.take T'.size).length, List.replicate (D.vis.length - T'.size) 0)] } : DiskS) = x := ⟨_, rfl⟩
    rw [hD1] at e1
    have ho1 : D1.off = false := by rw [← hD1]; exact ho
    have e2 : (runOps D [.write (T'.size : Int) ⟨(List.replicate (D.vis.length - T'.size) 0).toArray⟩, .sync]).2 = 0 := by
      rw [runOps_cons _ _ _ _ (show DOp.run D (.write (T'.size : Int) ⟨(List.replicate (D.vis.length - T'.size) 0).toArray⟩) = _ from e1)]
      rw [runOps_cons _ _ _ _ (show DOp.run _ .sync = _ from sync_on _ ho1)]
      rfl
    rw [if_neg (by rw [e2]; simp)]
theorem damaged_open (ks : List Int) (N : Nat) (L : List (List UInt8)) (k : Nat) (c : UInt8) (hN : lenL L ≤ N) (hk : k < lenL L) (hr : ∀ r ∈ L, r.length ≤ 65536) (hne : (bytesOf ks L)[k]? ≠ some c) (hz : sizedS L (k : Int) = false) :
    ∃ D', (diskOf N (bytesOf ks L)).write (k : Int) [c] = (D', 0) ∧ D'.pend.length ≤ 1 ∧
      (((OpenS ks D').1 = none ∧ (OpenS ks D').2.2 = 342) ∨ ∃ T', (OpenS ks D').1 = some T' ∧ ((c = 0 ∧ ∃ i, i < L.length ∧ T'.recs = L.take i) ∨
        ∃ i r r', L[i]? = some r ∧ r' ≠ r ∧ r'.length = r.length ∧ chainS ks (headTo ks (List.replicate 32 0) (L.take i)) r' = chainS ks (headTo ks (List.replicate 32 0) (L.take i)) r ∧ T'.recs = L.take i ++ r' :: L.drop (i + 1))) := by
  have hbl := bytesOf_length ks L
  obtain ⟨s, hs⟩ : ∃ s, bytesOf ks L = s := ⟨_, rfl⟩
  rw [hs] at hbl hne
  have hks : k < s.length := by omega
  obtain ⟨zz, hzz⟩ : ∃ x, List.replicate (N - s.length) (0 : UInt8) = x := ⟨_, rfl⟩
  have hzl : zz.length = N - s.length := by rw [← hzz, List.length_replicate]
  have e1 := write_on (diskOf N s) (s.take k) [s[k]] (s.drop (k + 1) ++ zz) [c] (k : Int) (by rw [List.length_take]; omega) rfl rfl (by
    unfold diskOf
    simp only
    rw [hzz]
    conv => lhs; rw [← List.take_append_drop k s, List.drop_eq_getElem_cons hks]
    simp
    rw [← List.append_assoc, List.take_append_drop]) rfl rfl
  obtain ⟨D', hD'⟩ : ∃ x, ({ diskOf N s with vis := s.take k ++ [c] ++ (s.drop (k + 1) ++ zz), pend := (diskOf N s).pend ++ [((s.take k).length, [c])] } : DiskS) = x := ⟨_, rfl⟩
  rw [hD'] at e1
  have hvis : D'.vis = s.set k c ++ List.replicate (N - s.length) 0 := by
    rw [← hD', hzz, List.set_eq_take_append_cons_drop, if_pos hks]
    simp
  have hvl : D'.vis.length = N := by rw [hvis, List.length_append, List.length_set, List.length_replicate]; omega
  have hsl : D'.sure.length = N := by rw [← hD']; exact diskOf_size N s (by omega)
  have ho : D'.off = false := by rw [← hD']; rfl
  have hl0 : D'.left = 0 := by rw [← hD']; rfl
  rw [hs]
  refine ⟨D', e1, by rw [← hD']; simp [diskOf], ?_⟩
  have hcount := lenL_count L
  rcases damaged ks L tape0 D'.vis (D'.vis.length + 1) k (N - s.length) c hr (by
      show D'.vis.drop 0 = _
      rw [List.drop_zero, hvis, ← hs]
      rfl) (by show k < (bytesOf ks L).length; rw [hs]; exact hks) (by show (bytesOf ks L)[k]? ≠ some c; rw [hs]; exact hne) hz (by omega) (Nat.zero_le _) with h | ⟨hc, i, T', a1, a2, a3, a4⟩ | ⟨i, x, x', T', a1, a2, a3, a4, a5, a6, a7⟩
  · left
    unfold OpenS
    rw [if_neg (by simp [ho]), h]
    exact ⟨rfl, rfl⟩
  · exact .inr ⟨T', open_some ks D' T' ho hl0 (by rw [hvl, hsl]) a2 a4, .inl ⟨hc, i, a1, by rw [a3]; simp [tape0]⟩⟩
  · exact .inr ⟨T', open_some ks D' T' ho hl0 (by rw [hvl, hsl]) a5 a7, .inr ⟨i, x, x', a1, a2, a3, a4, by rw [a6]; simp [tape0]⟩⟩
end Go.Proofs.YtafjolibfbccbaaGreatDoor
