/-
  A disk of the call's own: the crash; append from a slice that may be nil, in a drawn region; what a journal makes of a group while the power may fail.
-/
import Derived.Test.YtafjolibfbccbaaGreatDoorKStrs
import Derived.Test.YtafjolibfbccbaaGreatDoorKCrash
import Derived.Laws.Append
namespace Go.Proofs.YtafjolibfbccbaaGreatDoor
open Go.RowKit
set_option maxRecDepth 100000
set_option maxHeartbeats 1000000

theorem crash_in {B : Nat} {X : List Nat} {w0 w : World} {g : Nat} {D : DiskS} (sv : Value) (keep : List Int) (torn : Int) (h : DiskIn B X w0 w g D) (hp : D.pend.length ≤ 1000000000) (hk : keep.length * 8 ≤ 140737488351232) (hI : Ints w.heap.size w sv keep) :
    Calls Tryz.prog 30 #[.pointer (some ⟨g, 0, none⟩), sv, .int .i64 torn] w fun e w' => e = .returned (.int .i64 0) ∧ DiskIn B X w0 w' g (D.crash keep torn) ∧ SameAt X w w' := by
  obtain ⟨F, h1, h2, h3, h4, h5⟩ := h
  refine (crash_any sv keep torn w h1 hp hk hI).mono ?_
  rintro e w' ⟨rfl, hm⟩
  exact ⟨rfl, DiskIn.moved h2 h3 h4 h5 hm⟩
/-- append from a slice that may be nil, in a drawn region. -/
theorem step_append_src {P : Program} {ops : Array Oper} {w : World} {o : Oper} {a : Act} {K : Act → World → Prop} {Q : Exit → Act → World → Prop} {E : Prop} (hgd : o.guard = none) (s x : Operand) (t : TypeId)
    (ho : o.op = .call { callee := .builtin .append, args := #[s, x], argTypes := #[t, t] })
    (base : Nat) (e : TypeId) (z : Value) (size bytes : Nat) (ht : P.underlying t = some (.slice e)) (hinfo : (P.info? e).map (fun i => (i.zero, i.size, i.bytes)) = some (some z, size, bytes)) (hzs : z.cells.size = size) (hsz : 0 < size)
    (A : Option Addr) (n c : Nat) (xs : List Value) (hs : a.eval s = .slice A n c) (hown : w.ownsRow base e size (.slice A n c) n xs)
    (A2 : Option Addr) (m cc : Nat) (news : List Value) (hx : a.eval x = .slice A2 m cc) (hl : news.length = m * size) (hsrc : (A2 = none ∧ m = 0) ∨ ∃ ad, A2 = some ad ∧ ∀ j u, news[j]? = some u → w.cell? (ad.add j) = some u) (h1 : ∀ u ∈ news, u.oneCell' = true)
    (h63 : n + m ≤ maxLen) (hbytes : (n + m) * bytes ≤ 140737488355328) (hbase : base ≤ w.heap.size)
    (h : ∀ A' c' w', w'.ownsRow base e size (.slice A' (n + m) c') (n + m) (xs ++ news) → Upd (A.map (·.block)).toList w w' → K (a.put o.dst (.slice A' (n + m) c')) w') :
    if Region.wanted o (yielded ops a.tmps) = true then Oper.wp P o a w K Q else E := by
  rcases hsrc with ⟨rfl, rfl⟩ | ⟨ad, rfl, hnews⟩
  · have hw : Region.wanted o (yielded ops a.tmps) = true := by simp [Region.wanted, hgd]
    rw [if_pos hw]
    obtain ⟨i, hi, hz, hs1, hb1⟩ := info_parts hinfo
    have hn : news = [] := List.eq_nil_of_length_eq_zero (by simpa using hl)
    subst hn
    have hr := run_append_of_nil (P := P) w base t o.type e i size ht hi _ n xs hown cc
    unfold Oper.wp execOp
    simp only [ho, resolve, invoke, builtin, Sem.run_bind, Sem.run_pure, Result.andThen_ok, List.map_toArray, List.map_cons, List.map_nil, hs, hx, hr]
    exact h A c w (by simpa using hown) (Upd.refl _ _)
  · exact step_append_base hgd s x t ho base e z size bytes ht hinfo hzs hsz A n c xs hs hown ad m cc news hx hl hnews h1 h63 hbytes hbase h
/-- The first of some ints that came in. -/
theorem IntsArg.first {W : World} {a : Option Addr} {len cap : Nat} {zs : List Int} (h : IntsArg W a len cap zs) (q : Nat) (hq : q ≤ len) (c : Nat) : Ints W.heap.size W (.slice a q c) (zs.take q) := by
  by_cases h0 : q = 0
  · subst h0; exact .inl ⟨a, c, rfl, rfl⟩
  · obtain ⟨b, off, rfl, hb, hc⟩ := h.2.2.2.2 (by omega)
    have hl : (zs.take q).length = q := by rw [List.length_take, h.1]; omega
    refine .inr ⟨b, off, c, by rw [hl], hb, fun j hj => ?_⟩
    rw [hl] at hj
    rw [hc j (by omega), List.getElem?_take_of_lt hj]
theorem Ints.later {B : Nat} {w w' : World} {sv : Value} {zs : List Int} (h : Ints B w sv zs) (hb : Below B w w') (hB : B ≤ w'.heap.size) : Ints w'.heap.size w' sv zs := by
  rcases h with h | ⟨b, off, cap, e, hb1, hc⟩
  · exact .inl h
  · exact .inr ⟨b, off, cap, e, by omega, fun j hj => (hb.cell (p := ⟨b, off + j, none⟩) hb1).trans (hc j hj)⟩
theorem append_cases (ks : List Int) (n m : Nat) (L : List (List UInt8)) (l : List ByteArray) (hs : ∀ s ∈ l, s.size ≤ 65536) (hL : lenL L ≤ n) :
    (∃ m', appendS ks (tapeOf ks L) (diskLeft n (bytesOf ks L) m) false l = (tapeOf ks (L ++ bytesL l), diskLeft n (bytesOf ks (L ++ bytesL l)) m', false, 0) ∧ m' ≤ m ∧ lenL (L ++ bytesL l) ≤ n) ∨
    appendS ks (tapeOf ks L) (diskLeft n (bytesOf ks L) m) false l = (tapeOf ks L, diskLeft n (bytesOf ks L) m, false, 341) ∨
    (∃ D', appendS ks (tapeOf ks L) (diskLeft n (bytesOf ks L) m) false l = (tapeOf ks L, D', true, 331) ∧ D'.off = true ∧ D'.sure.length = n ∧ D'.pend.length ≤ 1 ∧ Crashes ks n L (bytesL l) D' ∧ (m = 1 ∨ m = 2)) := by
  by_cases hfit : lenL L + lenL (bytesL l) ≤ n
  · rcases append_left ks n m L l hs hfit with ⟨m', h, hm⟩ | h
    · exact .inl ⟨m', h, hm, by rw [lenL_append]; exact hfit⟩
    · exact .inr (.inr h)
  · exact .inr (.inl (append_full ks n L l _ (diskOf_size _ _ (by rw [bytesOf_length]; exact hL)) hs hL (by omega)))
/-- A crash, and the journal is opened. -/
theorem crashes_open {ks : List Int} {n : Nat} {L G : List (List UInt8)} {D : DiskS} (h : Crashes ks n L G D) (hr : ∀ r ∈ L ++ G, r.length ≤ 65536) (keep : List Int) (torn : Int) :
    ∃ L', (L' = L ∨ L' = L ++ G) ∧ OpenS ks (D.crash keep torn) = (some (tapeOf ks L'), diskOf n (bytesOf ks L'), 0) ∧ (D.crash keep torn).pend.length = 0 ∧ lenL L' ≤ n := by
  obtain ⟨L', v, rest, h1, h2, h3, h4, h5⟩ := h keep torn
  refine ⟨L', h1, ?_, by rw [h2]; rfl, ?_⟩
  · rw [h2]
    refine open_crashed ks n L' v rest h3 h4 h5 (fun r hm => ?_)
    rcases h1 with rfl | rfl
    · exact hr r (List.mem_append_left _ hm)
    · exact hr r hm
  · rw [← h4, h3, List.length_append, bytesOf_length]; omega
theorem left_size (n m : Nat) (s : List UInt8) (h : s.length ≤ n) : (diskLeft n s m).sure.length = n := diskOf_size n s h
theorem left_pend (n m : Nat) (s : List UInt8) : (diskLeft n s m).pend.length = 0 := rfl
theorem cut_left (n m c : Nat) (s : List UInt8) (h : c ≠ 0) : (diskLeft n s m).cut (c : Int) = (diskLeft n s c, 0) := by
  unfold diskLeft diskOf DiskS.cut
  have h1 : ¬ ((c : Int) < 0) := by omega
  have h2 : ¬ ((c : Int) = 0) := by omega
  simp [h1, h]
theorem cut_off (D : DiskS) (n : Int) (h : D.off = true) : D.cut n = (D, 331) := by unfold DiskS.cut; rw [if_pos h]
end Go.Proofs.YtafjolibfbccbaaGreatDoor
