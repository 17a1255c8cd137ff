/-
  The journal in plain Lean: what a power failure leaves.
-/
import Derived.Test.YtafjolibfbccbaaGreatDoorKPlain
namespace Go.Proofs.YtafjolibfbccbaaGreatDoor
open Go.RowKit
set_option maxRecDepth 100000
set_option maxHeartbeats 1000000

/-- As 'reload', whatever stands behind a byte 0. -/
theorem reload0 (ks : List Int) : ∀ (l : List (List UInt8)) (T : TapeS) (bs : List UInt8) (f : Nat) (rest : List UInt8), bs.drop T.size = (addL ks T l).2 ++ rest → rest[0]?.getD 0 = 0 → (∀ r ∈ l, r.length ≤ 65536) → l.length < f → loadS ks bs f T = some (addL ks T l).1 := by
  intro l
  induction l with
  | nil =>
    intro T bs f rest hd hz _ hf
    obtain ⟨f, rfl⟩ : ∃ g, f = g + 1 := ⟨f - 1, by omega⟩
    have h0 : bs[T.size]?.getD 0 = 0 := by
      have h1 : (bs.drop T.size)[0]? = rest[0]? := by rw [hd]; rfl
      rw [List.getElem?_drop, Nat.add_zero] at h1
      rw [h1]; exact hz
    rw [loadS, if_neg (by rw [h0]; simp)]
    rfl
  | cons r l ih =>
    intro T bs f rest hd hz hr hf
    obtain ⟨f, rfl⟩ : ∃ g, f = g + 1 := ⟨f - 1, by omega⟩
    rw [addL_cons] at hd ⊢
    simp only at hd ⊢
    have hsl := stored_length ks T r
    have hd1 : bs.drop T.size = storedS ks T r ++ ((addL ks (T.add ks r) l).2 ++ rest) := by rw [hd, List.append_assoc]
    have hlen := congrArg List.length hd1
    rw [List.length_drop, List.length_append, hsl] at hlen
    have hg : bs[T.size]? = some 1 := by
      have h1 : (bs.drop T.size)[0]? = some 1 := by rw [hd1]; rfl
      rwa [List.getElem?_drop, Nat.add_zero] at h1
    have hd2 : bs.drop (T.size + 1) = putStrS r ++ (chainS ks T.head r ++ ((addL ks (T.add ks r) l).2 ++ rest)) := by
      rw [← List.drop_drop, hd1]
      unfold storedS
      simp
    have hs := stringS_put bs (T.size + 1) r _ hd2 (hr r (by simp))
    rw [loadS, hs, if_pos ⟨by omega, by rw [hg]; simp⟩]
    simp only [Int.toNat_natCast]
    rw [if_pos ⟨hg, trivial, by omega, by
      rw [show T.size + 1 + (putStrS r).length + 32 - T.size = (storedS ks T r).length by rw [hsl]; omega, hd1, List.take_left]⟩]
    refine ih _ bs f rest ?_ hz (fun x hx => hr x (by simp [hx])) (by simp only [List.length_cons] at hf; omega)
    have e : (T.add ks r).size = T.size + (storedS ks T r).length := by rw [hsl]; unfold TapeS.add; simp only; omega
    rw [e, ← List.drop_drop, hd1, List.drop_left]
theorem reload_of0 (ks : List Int) (l : List (List UInt8)) (rest bs : List UInt8) (hb : bs = bytesOf ks l ++ rest) (hz : rest[0]?.getD 0 = 0) (hr : ∀ r ∈ l, r.length ≤ 65536) : loadS ks bs (bs.length + 1) tape0 = some (tapeOf ks l) := by
  refine reload0 ks l tape0 bs _ rest (by rw [hb]; rfl) hz hr ?_
  rw [hb, List.length_append, bytesOf_length]
  have := lenL_count l
  omega
theorem tw_imp {p : UInt8 → Bool} : ∀ (l : List UInt8) (x : UInt8), x ∈ l.takeWhile p → p x = true := by
  intro l
  induction l with
  | nil => intro x hx; simp at hx
  | cons b l ih =>
    intro x hx
    rw [List.takeWhile_cons] at hx
    split at hx
    · rename_i hb
      rcases List.mem_cons.1 hx with rfl | hx
      · exact hb
      · exact ih x hx
    · simp at hx
theorem trim_none : ∀ (l : List UInt8), Lib.trimB l 0 = [] → l = List.replicate l.length 0 := by
  have h1 : ∀ l : List UInt8, l.dropWhile (· == 0) = [] → l = List.replicate l.length 0 := by
    intro l
    induction l with
    | nil => intro _; rfl
    | cons b l ih =>
      intro h
      rw [List.dropWhile_cons] at h
      split at h
      · rename_i hb
        have hb0 : b = 0 := by simpa using hb
        rw [hb0, List.length_cons, List.replicate_succ, ← ih h]
      · cases h
  intro l h
  unfold Lib.trimB Lib.trimLeftB Lib.trimRightB at h
  have h2 := h1 _ h
  have h3 : ∀ l : List UInt8, (∀ x ∈ l, x = 0) → l = List.replicate l.length 0 := fun l hl => List.eq_replicate_iff.2 ⟨rfl, hl⟩
  refine h3 l (fun x hx => ?_)
  have hspl := List.takeWhile_append_dropWhile (p := (· == (0 : UInt8))) (l := l.reverse)
  have hx2 : x ∈ l.reverse.takeWhile (· == 0) ++ l.reverse.dropWhile (· == 0) := by rw [hspl]; simpa using hx
  rcases List.mem_append.1 hx2 with hm | hm
  · have := tw_imp _ _ hm
    simpa using this
  · have h4 : x ∈ (l.reverse.dropWhile (· == 0)).reverse := by simpa using hm
    rw [h2] at h4
    exact List.eq_of_mem_replicate h4
/-- A disk behind a crash. -/
def plainD (v : List UInt8) : DiskS := { off := false, left := 0, sure := v, vis := v, pend := [] }
theorem open_crashed (ks : List Int) (N : Nat) (l : List (List UInt8)) (v rest : List UInt8) (hv : v = bytesOf ks l ++ rest) (hN : v.length = N) (hz : rest[0]?.getD 0 = 0) (hr : ∀ r ∈ l, r.length ≤ 65536) : OpenS ks (plainD v) = (some (tapeOf ks l), diskOf N (bytesOf ks l), 0) := by
  have hrl : rest.length = N - (bytesOf ks l).length := by rw [← hN, hv, List.length_append]; omega
  unfold OpenS
  rw [if_neg (by simp [plainD]), show (plainD v).vis = v from rfl, reload_of0 ks l rest v hv hz hr]
  simp only
  by_cases ht : Lib.trimB (v.drop (tapeOf ks l).size) 0 = []
  · rw [if_pos ht]
    have hd : v.drop (tapeOf ks l).size = rest := by rw [hv, tapeOf_size, List.drop_left]
    rw [hd] at ht
    have hrr := trim_none rest ht
    unfold plainD diskOf
    rw [hv, hrr, ← hrl]
    try simp
  · rw [if_neg ht]
    have hsz : v.length - (tapeOf ks l).size = rest.length := by rw [tapeOf_size, hv, List.length_append]; omega
    have e1 := write_on (plainD v) (bytesOf ks l) rest [] (List.replicate rest.length 0) ((tapeOf ks l).size : Int) (by rw [tapeOf_size]) rfl rfl (by unfold plainD; simp [hv]) rfl (by simp)
    have e2 : runOps (plainD v) [.write ((tapeOf ks l).size : Int) ⟨(List.replicate (v.length - (tapeOf ks l).size) 0).toArray⟩, .sync] = (diskOf N (bytesOf ks l), 0) := by
      rw [hsz, runOps_cons _ _ _ _ (show DOp.run (plainD v) (.write ((tapeOf ks l).size : Int) ⟨(List.replicate rest.length 0).toArray⟩) = _ from e1)]
      refine Eq.trans (runOps_cons _ _ _ _ (show DOp.run _ .sync = _ from sync_on _ rfl)) ?_
      rw [runOps]
      unfold diskOf plainD
      rw [← hrl]
      simp
    rw [e2]
    simp
/-- What any power failure leaves: the records L, or the group in addition. -/
def Crashes (ks : List Int) (N : Nat) (L G : List (List UInt8)) (D : DiskS) : Prop :=
  ∀ keep torn, ∃ L' v rest, (L' = L ∨ L' = L ++ G) ∧ D.crash keep torn = plainD v ∧ v = bytesOf ks L' ++ rest ∧ v.length = N ∧ rest[0]?.getD 0 = 0
theorem crash_empty (D : DiskS) (keep : List Int) (torn : Int) (h : D.pend = []) : D.crash keep torn = plainD D.sure := by
  unfold DiskS.crash DiskS.kept
  rw [h]
  unfold DiskS.settled plainD
  simp [order, lastTorn, puts]
theorem kept_one (D : DiskS) (p : Nat × List UInt8) (h : D.pend = [p]) (keep : List Int) : D.kept keep = [] ∨ D.kept keep = [p] := by
  unfold DiskS.kept order
  rw [h]
  by_cases hk : ((0 : Nat) : Int) ∈ keep
  · right
    have : (List.range [p].length).filter (fun (i : Nat) => decide ((i : Int) ∈ keep)) = [0] := by
      rw [List.length_singleton, List.range_one, List.filter_cons, if_pos (by simpa using hk)]
      rfl
    rw [this]
    rfl
  · left
    have : (List.range [p].length).filter (fun (i : Nat) => decide ((i : Int) ∈ keep)) = [] := by
      rw [List.length_singleton, List.range_one, List.filter_cons, if_neg (by simpa using hk)]
      rfl
    rw [this]
    rfl
theorem crash_one (D : DiskS) (o : Nat) (s : List UInt8) (h : D.pend = [(o, s)]) (keep : List Int) (torn : Int) : ∃ k, D.crash keep torn = plainD (put D.sure o (s.take k)) ∨ D.crash keep torn = plainD D.sure := by
  have hc : D.crash keep torn = plainD (puts D.sure (lastTorn torn (D.kept keep))) := by
    unfold DiskS.crash DiskS.settled plainD
    rfl
  rw [hc]
  rcases kept_one D _ h keep with hk | hk
  · exact ⟨0, .inr (by rw [hk]; rfl)⟩
  · rw [hk]
    by_cases ht : 0 ≤ torn
    · refine ⟨torn.toNat, .inl ?_⟩
      have : lastTorn torn [(o, s)] = [(o, s.take torn.toNat)] := by simp [lastTorn, ht]
      rw [this]; rfl
    · refine ⟨s.length, .inl ?_⟩
      have : lastTorn torn [(o, s)] = [(o, s)] := by simp [lastTorn, ht]
      rw [this, List.take_length]; rfl
/-- A disk of n bytes that will take m writes more (0: any number). -/
def diskLeft (n : Nat) (s : List UInt8) (m : Nat) : DiskS := { diskOf n s with left := m }
theorem diskLeft_none (n : Nat) (s : List UInt8) : diskLeft n s 0 = diskOf n s := rfl
theorem crashes_left (ks : List Int) (N m : Nat) (L G : List (List UInt8)) (h : lenL L ≤ N) : Crashes ks N L G (diskLeft N (bytesOf ks L) m) := by
  intro keep torn
  refine ⟨L, _, List.replicate (N - (bytesOf ks L).length) 0, .inl rfl, crash_empty _ keep torn rfl, rfl, ?_, ?_⟩
  · show (bytesOf ks L ++ List.replicate (N - (bytesOf ks L).length) 0).length = N
    rw [List.length_append, List.length_replicate, bytesOf_length]; omega
  · cases N - (bytesOf ks L).length <;> simp
theorem write_left (D : DiskS) (a m c s : List UInt8) (x : Int) (hx : x = (a.length : Int)) (ho : D.off = false) (hv : D.vis = a ++ m ++ c) (hs : D.vis.length = D.sure.length) (hm : m.length = s.length) : D.write x s = ({ D with vis := a ++ s ++ c, pend := D.pend ++ [(a.length, s)] }.used, 0) := by
  subst hx
  unfold DiskS.write
  have hlen : D.sure.length = a.length + m.length + c.length := by rw [← hs, hv]; simp; omega
  rw [if_neg (by rw [ho]; simp), if_pos (by unfold inB; simp only [decide_eq_true_eq]; omega)]
  unfold DiskS.written
  simp only [Int.toNat_natCast]
  rw [hv, put_mid a m c s hm]
theorem zeros_split (n a t : Nat) (h : a + t + 1 ≤ n) : List.replicate (n - a) (0 : UInt8) = [0] ++ List.replicate t 0 ++ List.replicate (n - a - t - 1) 0 := by
  rw [← List.replicate_one, List.replicate_append_replicate, List.replicate_append_replicate]
  congr 1
  omega
/-- A group is stored while the power lasts. -/
theorem append_run_ok (n m : Nat) (s t : List UInt8) (h : UInt8) (hn : s.length + t.length + 1 ≤ n) (hm : m = 0 ∨ 3 ≤ m) :
    runOps (diskLeft n s m) [.write ((s.length : Int) + 1) ⟨t.toArray⟩, .sync, .write (s.length : Int) ⟨#[h]⟩, .sync] = (diskLeft n (s ++ h :: t) (m - 2), 0) := by
  rcases hm with rfl | hm
  · exact append_run n s t h hn
  have e1 := write_left (diskLeft n s m) (s ++ [0]) (List.replicate t.length 0) (List.replicate (n - s.length - t.length - 1) 0) t ((s.length : Int) + 1) (by simp) rfl (by unfold diskLeft diskOf; simp only; rw [zeros_split n s.length t.length hn]; simp) rfl (by simp)
  have u1 : ∀ v p, ({ diskLeft n s m with vis := v, pend := p } : DiskS).used = { off := false, left := m - 1, sure := (diskLeft n s m).sure, vis := v, pend := p } := by
    intro v p
    unfold DiskS.used
    rw [if_neg (by show ¬ m = 0; omega)]
    show ({ off := decide (m - 1 = 0), left := m - 1, sure := _, vis := v, pend := p } : DiskS) = _
    rw [decide_eq_false (by omega)]
  rw [u1] at e1
  rw [runOps_cons _ _ _ _ (show DOp.run (diskLeft n s m) (.write ((s.length : Int) + 1) ⟨t.toArray⟩) = _ from e1)]
  refine Eq.trans (runOps_cons _ _ _ _ (show DOp.run _ .sync = _ from sync_on _ rfl)) ?_
  have e2 := write_left { off := false, left := m - 1, sure := s ++ [0] ++ t ++ List.replicate (n - s.length - t.length - 1) 0, vis := s ++ [0] ++ t ++ List.replicate (n - s.length - t.length - 1) 0, pend := [] } s [0] (t ++ List.replicate (n - s.length - t.length - 1) 0) [h] (s.length : Int) rfl rfl (by simp) rfl rfl
  have u2 : ∀ v w p, ({ off := false, left := m - 1, sure := w, vis := v, pend := p } : DiskS).used = { off := false, left := m - 2, sure := w, vis := v, pend := p } := by
    intro v w p
    unfold DiskS.used
    rw [if_neg (by show ¬ m - 1 = 0; omega)]
    show ({ off := decide (m - 1 - 1 = 0), left := m - 1 - 1, sure := w, vis := v, pend := p } : DiskS) = _
    rw [decide_eq_false (by omega)]
    congr 1
  rw [u2] at e2
  refine Eq.trans (runOps_cons _ _ _ _ (show DOp.run _ (.write (s.length : Int) ⟨#[h]⟩) = _ from e2)) ?_
  refine Eq.trans (runOps_cons _ _ _ _ (show DOp.run _ .sync = _ from sync_on _ rfl)) ?_
  rw [runOps]
  unfold diskLeft diskOf
  have e : n - (s ++ h :: t).length = n - s.length - t.length - 1 := by simp; omega
  rw [e]
  simp
theorem sync_off (D : DiskS) (ho : D.off = true) : D.sync = (D, 331) := by
  unfold DiskS.sync
  rw [if_pos ho]
theorem put_nil (b : List UInt8) (o : Nat) : put b o [] = b := by unfold put; simp
/-- The power fails behind the first write of a group. -/
theorem append_run_1 (n : Nat) (s t : List UInt8) (h : UInt8) (hn : s.length + t.length + 1 ≤ n) :
    ∃ D', runOps (diskLeft n s 1) [.write ((s.length : Int) + 1) ⟨t.toArray⟩, .sync, .write (s.length : Int) ⟨#[h]⟩, .sync] = (D', 331) ∧ D'.off = true ∧ D'.sure = s ++ List.replicate (n - s.length) 0 ∧ D'.pend = [(s.length + 1, t)] := by
  have e1 := write_left (diskLeft n s 1) (s ++ [0]) (List.replicate t.length 0) (List.replicate (n - s.length - t.length - 1) 0) t ((s.length : Int) + 1) (by simp) rfl (by unfold diskLeft diskOf; simp only; rw [zeros_split n s.length t.length hn]; simp) rfl (by simp)
  rw [runOps_cons _ _ _ _ (show DOp.run (diskLeft n s 1) (.write ((s.length : Int) + 1) ⟨t.toArray⟩) = _ from e1)]
  have e2 := fun l => runOps_stop (D := ({ diskLeft n s 1 with vis := s ++ [0] ++ t ++ List.replicate (n - s.length - t.length - 1) 0, pend := (diskLeft n s 1).pend ++ [((s ++ [0]).length, t)] } : DiskS).used) (o := .sync) (l := l) (by
    show (DiskS.sync _).2 ≠ 0
    rw [sync_off _ rfl]; simp)
  refine ⟨_, (e2 _).trans (sync_off _ rfl), rfl, rfl, ?_⟩
  show [((s ++ [0]).length, t)] = _
  simp
/-- The power fails behind the second write of a group. -/
theorem append_run_2 (n : Nat) (s t : List UInt8) (h : UInt8) (hn : s.length + t.length + 1 ≤ n) :
    ∃ D', runOps (diskLeft n s 2) [.write ((s.length : Int) + 1) ⟨t.toArray⟩, .sync, .write (s.length : Int) ⟨#[h]⟩, .sync] = (D', 331) ∧ D'.off = true ∧ D'.sure = s ++ [0] ++ t ++ List.replicate (n - s.length - t.length - 1) 0 ∧ D'.pend = [(s.length, [h])] := by
  have e1 := write_left (diskLeft n s 2) (s ++ [0]) (List.replicate t.length 0) (List.replicate (n - s.length - t.length - 1) 0) t ((s.length : Int) + 1) (by simp) rfl (by unfold diskLeft diskOf; simp only; rw [zeros_split n s.length t.length hn]; simp) rfl (by simp)
  rw [runOps_cons _ _ _ _ (show DOp.run (diskLeft n s 2) (.write ((s.length : Int) + 1) ⟨t.toArray⟩) = _ from e1)]
  have e3 : ∀ l, runOps ({ diskLeft n s 2 with vis := s ++ [0] ++ t ++ List.replicate (n - s.length - t.length - 1) 0, pend := (diskLeft n s 2).pend ++ [((s ++ [0]).length, t)] } : DiskS).used (.sync :: l) = runOps { off := false, left := 1, sure := s ++ [0] ++ t ++ List.replicate (n - s.length - t.length - 1) 0, vis := s ++ [0] ++ t ++ List.replicate (n - s.length - t.length - 1) 0, pend := [] } l := fun l => runOps_cons _ _ _ _ (show DOp.run _ .sync = _ from sync_on _ rfl)
  rw [e3]
  have e2 := write_left { off := false, left := 1, sure := s ++ [0] ++ t ++ List.replicate (n - s.length - t.length - 1) 0, vis := s ++ [0] ++ t ++ List.replicate (n - s.length - t.length - 1) 0, pend := [] } s [0] (t ++ List.replicate (n - s.length - t.length - 1) 0) [h] (s.length : Int) rfl rfl (by simp) rfl rfl
  rw [runOps_cons _ _ _ _ (show DOp.run _ (.write (s.length : Int) ⟨#[h]⟩) = _ from e2)]
  refine ⟨_, (runOps_stop (by
    show (DiskS.sync _).2 ≠ 0
    rw [sync_off _ rfl]; simp)).trans (sync_off _ rfl), rfl, rfl, rfl⟩
theorem crashes_1 (ks : List Int) (n : Nat) (L G : List (List UInt8)) (t : List UInt8) (D : DiskS) (hn : (bytesOf ks L).length + t.length + 1 ≤ n) (hs : D.sure = bytesOf ks L ++ List.replicate (n - (bytesOf ks L).length) 0) (hp : D.pend = [((bytesOf ks L).length + 1, t)]) : Crashes ks n L G D := by
  intro keep torn
  obtain ⟨k, hc | hc⟩ := crash_one D _ t hp keep torn
  · have htl : (t.take k).length ≤ t.length := by rw [List.length_take]; omega
    have hv : put D.sure ((bytesOf ks L).length + 1) (t.take k) = bytesOf ks L ++ ([0] ++ t.take k ++ List.replicate (n - (bytesOf ks L).length - (t.take k).length - 1) 0) := by
      have e := put_mid (bytesOf ks L ++ [0]) (List.replicate (t.take k).length 0) (List.replicate (n - (bytesOf ks L).length - (t.take k).length - 1) 0) (t.take k) (by simp)
      have e0 : (bytesOf ks L ++ [(0 : UInt8)]).length = (bytesOf ks L).length + 1 := by simp
      rw [e0] at e
      rw [hs, zeros_split n (bytesOf ks L).length (t.take k).length (by omega)]
      rw [show bytesOf ks L ++ ([0] ++ List.replicate (t.take k).length 0 ++ List.replicate (n - (bytesOf ks L).length - (t.take k).length - 1) 0) = bytesOf ks L ++ [0] ++ List.replicate (t.take k).length 0 ++ List.replicate (n - (bytesOf ks L).length - (t.take k).length - 1) 0 by simp, e]
      simp
    exact ⟨L, _, _, .inl rfl, hc, hv, by rw [hv]; simp; rw [List.length_take] at htl; omega, rfl⟩
  · refine ⟨L, _, _, .inl rfl, hc, hs, by rw [hs]; simp; omega, ?_⟩
    cases n - (bytesOf ks L).length <;> simp
theorem crashes_2 (ks : List Int) (n : Nat) (L G : List (List UInt8)) (t : List UInt8) (h : UInt8) (D : DiskS) (hn : (bytesOf ks L).length + t.length + 1 ≤ n) (hg : bytesOf ks (L ++ G) = bytesOf ks L ++ h :: t)
    (hs : D.sure = bytesOf ks L ++ [0] ++ t ++ List.replicate (n - (bytesOf ks L).length - t.length - 1) 0) (hp : D.pend = [((bytesOf ks L).length, [h])]) : Crashes ks n L G D := by
  intro keep torn
  have hlen : D.sure.length = n := by rw [hs]; simp; omega
  have hold : D.sure = bytesOf ks L ++ ([0] ++ t ++ List.replicate (n - (bytesOf ks L).length - t.length - 1) 0) := by rw [hs]; simp
  obtain ⟨k, hc | hc⟩ := crash_one D _ [h] hp keep torn
  · cases k with
    | zero =>
      rw [List.take_zero, put_nil] at hc
      exact ⟨L, _, _, .inl rfl, hc, hold, hlen, rfl⟩
    | succ k =>
      rw [List.take_of_length_le (by simp)] at hc
      have hv : put D.sure (bytesOf ks L).length [h] = bytesOf ks (L ++ G) ++ List.replicate (n - (bytesOf ks L).length - t.length - 1) 0 := by
        have e := put_mid (bytesOf ks L) [0] (t ++ List.replicate (n - (bytesOf ks L).length - t.length - 1) 0) [h] rfl
        rw [hs, show bytesOf ks L ++ [0] ++ t ++ List.replicate (n - (bytesOf ks L).length - t.length - 1) 0 = bytesOf ks L ++ [0] ++ (t ++ List.replicate (n - (bytesOf ks L).length - t.length - 1) 0) by simp, e, hg]
        simp
      refine ⟨L ++ G, _, _, .inr rfl, hc, hv, ?_, ?_⟩
      · rw [put_length _ _ _ (by rw [hlen]; simp; omega), hlen]
      · cases n - (bytesOf ks L).length - t.length - 1 <;> simp
  · exact ⟨L, _, _, .inl rfl, hc, hold, hlen, rfl⟩
/-- What a journal that stands makes of a group that is neither too long nor full. -/
theorem append_left (ks : List Int) (n m : Nat) (L : List (List UInt8)) (l : List ByteArray) (hs : ∀ s ∈ l, s.size ≤ 65536) (hn : lenL L + lenL (bytesL l) ≤ n) :
    (∃ m', appendS ks (tapeOf ks L) (diskLeft n (bytesOf ks L) m) false l = (tapeOf ks (L ++ bytesL l), diskLeft n (bytesOf ks (L ++ bytesL l)) m', false, 0) ∧ m' ≤ m) ∨
    (∃ D', appendS ks (tapeOf ks L) (diskLeft n (bytesOf ks L) m) false l = (tapeOf ks L, D', true, 331) ∧ D'.off = true ∧ D'.sure.length = n ∧ D'.pend.length ≤ 1 ∧ Crashes ks n L (bytesL l) D' ∧ (m = 1 ∨ m = 2)) := by
  obtain ⟨h1, h2⟩ := addAll_tape ks L l
  have hl := addAll_len ks (tapeOf ks L) l
  have hLl := bytesOf_length ks L
  unfold appendS
  rw [if_neg (by rw [long_not l hs]; simp), if_neg (by
    rw [show (diskLeft n (bytesOf ks L) m).sure.length = n from diskOf_size _ _ (by omega), tapeOf_size, hl]; omega)]
  rw [← h1]
  cases hc : (addAll ks (tapeOf ks L) l).2 with
  | nil =>
    rw [hc] at hl
    have hl0 : l = [] := by
      have := lenL_count (bytesL l)
      unfold bytesL at this
      rw [List.length_map] at this
      simp only [List.length_nil] at hl
      unfold bytesL at hl
      exact List.eq_nil_of_length_eq_zero (by omega)
    subst hl0
    refine .inl ⟨m, ?_, Nat.le_refl _⟩
    rw [h2]
    simp [addAll]
  | cons b t =>
    rw [hc] at hl h2
    simp only [List.length_cons] at hl
    have hle : (bytesOf ks L).length + t.length + 1 ≤ n := by omega
    have hsz := tapeOf_size ks L
    by_cases hm : m = 0 ∨ 3 ≤ m
    · have e := append_run_ok n m (bytesOf ks L) t b hle hm
      rw [← hsz] at e
      refine .inl ⟨m - 2, ?_, by omega⟩
      simp only [e]
      rw [h2]
      simp
    · right
      by_cases hm1 : m = 1
      · subst hm1
        obtain ⟨D', e, d1, d2, d3⟩ := append_run_1 n (bytesOf ks L) t b hle
        refine ⟨D', ?_, d1, by rw [d2]; simp; omega, by rw [d3]; simp, crashes_1 ks n L (bytesL l) t D' hle d2 d3, .inl rfl⟩
        rw [← hsz] at e
        simp only [e]
        simp
      · obtain rfl : m = 2 := by omega
        obtain ⟨D', e, d1, d2, d3⟩ := append_run_2 n (bytesOf ks L) t b hle
        refine ⟨D', ?_, d1, by rw [d2]; simp; omega, by rw [d3]; simp, crashes_2 ks n L (bytesL l) t b D' hle h2 d2 d3, .inr rfl⟩
        rw [← hsz] at e
        simp only [e]
        simp
end Go.Proofs.YtafjolibfbccbaaGreatDoor
