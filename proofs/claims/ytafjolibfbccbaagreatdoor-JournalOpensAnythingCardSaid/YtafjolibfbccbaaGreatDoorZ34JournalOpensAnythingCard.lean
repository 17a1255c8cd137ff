/-
  A disk of the call's own: the crash; append from a slice that may be nil, in a drawn region; what a journal makes of a group while the power may fail.
  The reference's small functions.
  How the reference's disk lies in memory; New and Cut.
  The reference's Write.
  The reference's Visible, Sync, Read.
  The reference's Read.
  The reference's Crash.
  The program's disk and the reference's, of one state, in blocks apart.
-/
import Derived.Test.YtafjolibfbccbaaGreatDoorZ31JournalOpensAnythingCard
import Derived.Test.YtafjolibfbccbaaGreatDoorZ33JournalOpensAnythingCard
import Derived.Laws.Append
import Derived.Test.YtafjolibfbccbaaGreatDoorZ2JournalOpensAnythingCard

namespace Go.Proofs.YtafjolibfbccbaaGreatDoor
open Go.RowKit
set_option maxRecDepth 100000
set_option maxHeartbeats 1000000

theorem crash_in {B : Nat} {X : List Nat} {w0 w : World} {g : Nat} {D : DiskS} (sv : Value) (keep : List Int) (torn : Int) (h : DiskIn B X w0 w g D) (hp : D.pend.length ≤ 1000000000) (hk : keep.length * 8 ≤ 140737488351232) (hI : Ints w.heap.size w sv keep) :
    Calls Tryz.prog 30 #[.pointer (some ⟨g, 0, none⟩), sv, .int .i64 torn] w fun e w' => e = .returned (.int .i64 0) ∧ DiskIn B X w0 w' g (D.crash keep torn) ∧ SameAt X w w' := by
  obtain ⟨F, h1, h2, h3, h4, h5⟩ := h
  refine (crash_any sv keep torn w h1 hp hk hI).mono ?_
  rintro e w' ⟨rfl, hm⟩
  exact ⟨rfl, DiskIn.moved h2 h3 h4 h5 hm⟩
/-- append from a slice that may be nil, in a drawn region. -/
theorem step_append_src {P : Program} {ops : Array Oper} {w : World} {o : Oper} {a : Act} {K : Act → World → Prop} {Q : Exit → Act → World → Prop} {E : Prop} (hgd : o.guard = none) (s x : Operand) (t : TypeId)
    (ho : o.op = .call { callee := .builtin .append, args := #[s, x], argTypes := #[t, t] })
    (base : Nat) (e : TypeId) (z : Value) (size bytes : Nat) (ht : P.underlying t = some (.slice e)) (hinfo : (P.info? e).map (fun i => (i.zero, i.size, i.bytes)) = some (some z, size, bytes)) (hzs : z.cells.size = size) (hsz : 0 < size)
    (A : Option Addr) (n c : Nat) (xs : List Value) (hs : a.eval s = .slice A n c) (hown : w.ownsRow base e size (.slice A n c) n xs)
    (A2 : Option Addr) (m cc : Nat) (news : List Value) (hx : a.eval x = .slice A2 m cc) (hl : news.length = m * size) (hsrc : (A2 = none ∧ m = 0) ∨ ∃ ad, A2 = some ad ∧ ∀ j u, news[j]? = some u → w.cell? (ad.add j) = some u) (h1 : ∀ u ∈ news, u.oneCell' = true)
    (h63 : n + m ≤ maxLen) (hbytes : (n + m) * bytes ≤ 140737488355328) (hbase : base ≤ w.heap.size)
    (h : ∀ A' c' w', w'.ownsRow base e size (.slice A' (n + m) c') (n + m) (xs ++ news) → Upd (A.map (·.block)).toList w w' → K (a.put o.dst (.slice A' (n + m) c')) w') :
    if Region.wanted o (yielded ops a.tmps) = true then Oper.wp P o a w K Q else E := by
  rcases hsrc with ⟨rfl, rfl⟩ | ⟨ad, rfl, hnews⟩
  · have hw : Region.wanted o (yielded ops a.tmps) = true := by simp [Region.wanted, hgd]
    rw [if_pos hw]
    obtain ⟨i, hi, hz, hs1, hb1⟩ := info_parts hinfo
    have hn : news = [] := List.eq_nil_of_length_eq_zero (by simpa using hl)
    subst hn
    have hr := run_append_of_nil (P := P) w base t o.type e i size ht hi _ n xs hown cc
    unfold Oper.wp execOp
    simp only [ho, resolve, invoke, builtin, Sem.run_bind, Sem.run_pure, Result.andThen_ok, List.map_toArray, List.map_cons, List.map_nil, hs, hx, hr]
    exact h A c w (by simpa using hown) (Upd.refl _ _)
  · exact step_append_base hgd s x t ho base e z size bytes ht hinfo hzs hsz A n c xs hs hown ad m cc news hx hl hnews h1 h63 hbytes hbase h
/-- The first of some ints that came in. -/
theorem IntsArg.first {W : World} {a : Option Addr} {len cap : Nat} {zs : List Int} (h : IntsArg W a len cap zs) (q : Nat) (hq : q ≤ len) (c : Nat) : Ints W.heap.size W (.slice a q c) (zs.take q) := by
  by_cases h0 : q = 0
  · subst h0; exact .inl ⟨a, c, rfl, rfl⟩
  · obtain ⟨b, off, rfl, hb, hc⟩ := h.2.2.2.2 (by omega)
    have hl : (zs.take q).length = q := by rw [List.length_take, h.1]; omega
    refine .inr ⟨b, off, c, by rw [hl], hb, fun j hj => ?_⟩
    rw [hl] at hj
    rw [hc j (by omega), List.getElem?_take_of_lt hj]
theorem Ints.later {B : Nat} {w w' : World} {sv : Value} {zs : List Int} (h : Ints B w sv zs) (hb : Below B w w') (hB : B ≤ w'.heap.size) : Ints w'.heap.size w' sv zs := by
  rcases h with h | ⟨b, off, cap, e, hb1, hc⟩
  · exact .inl h
  · exact .inr ⟨b, off, cap, e, by omega, fun j hj => (hb.cell (p := ⟨b, off + j, none⟩) hb1).trans (hc j hj)⟩
theorem append_cases (ks : List Int) (n m : Nat) (L : List (List UInt8)) (l : List ByteArray) (hs : ∀ s ∈ l, s.size ≤ 65536) (hL : lenL L ≤ n) :
    (∃ m', appendS ks (tapeOf ks L) (diskLeft n (bytesOf ks L) m) false l = (tapeOf ks (L ++ bytesL l), diskLeft n (bytesOf ks (L ++ bytesL l)) m', false, 0) ∧ m' ≤ m ∧ lenL (L ++ bytesL l) ≤ n) ∨
    appendS ks (tapeOf ks L) (diskLeft n (bytesOf ks L) m) false l = (tapeOf ks L, diskLeft n (bytesOf ks L) m, false, 341) ∨
    (∃ D', appendS ks (tapeOf ks L) (diskLeft n (bytesOf ks L) m) false l = (tapeOf ks L, D', true, 331) ∧ D'.off = true ∧ D'.sure.length = n ∧ D'.pend.length ≤ 1 ∧ Crashes ks n L (bytesL l) D' ∧ (m = 1 ∨ m = 2)) := by
  by_cases hfit : lenL L + lenL (bytesL l) ≤ n
  · rcases append_left ks n m L l hs hfit with ⟨m', h, hm⟩ | h
    · exact .inl ⟨m', h, hm, by rw [lenL_append]; exact hfit⟩
    · exact .inr (.inr h)
  · exact .inr (.inl (append_full ks n L l _ (diskOf_size _ _ (by rw [bytesOf_length]; exact hL)) hs hL (by omega)))
/-- A crash, and the journal is opened. -/
theorem crashes_open {ks : List Int} {n : Nat} {L G : List (List UInt8)} {D : DiskS} (h : Crashes ks n L G D) (hr : ∀ r ∈ L ++ G, r.length ≤ 65536) (keep : List Int) (torn : Int) :
    ∃ L', (L' = L ∨ L' = L ++ G) ∧ OpenS ks (D.crash keep torn) = (some (tapeOf ks L'), diskOf n (bytesOf ks L'), 0) ∧ (D.crash keep torn).pend.length = 0 ∧ lenL L' ≤ n := by
  obtain ⟨L', v, rest, h1, h2, h3, h4, h5⟩ := h keep torn
  refine ⟨L', h1, ?_, by rw [h2]; rfl, ?_⟩
  · rw [h2]
    refine open_crashed ks n L' v rest h3 h4 h5 (fun r hm => ?_)
    rcases h1 with rfl | rfl
    · exact hr r (List.mem_append_left _ hm)
    · exact hr r hm
  · rw [← h4, h3, List.length_append, bytesOf_length]; omega
theorem left_size (n m : Nat) (s : List UInt8) (h : s.length ≤ n) : (diskLeft n s m).sure.length = n := diskOf_size n s h
theorem left_pend (n m : Nat) (s : List UInt8) : (diskLeft n s m).pend.length = 0 := rfl
theorem cut_left (n m c : Nat) (s : List UInt8) (h : c ≠ 0) : (diskLeft n s m).cut (c : Int) = (diskLeft n s c, 0) := by
  unfold diskLeft diskOf DiskS.cut
  have h1 : ¬ ((c : Int) < 0) := by omega
  have h2 : ¬ ((c : Int) = 0) := by omega
  simp [h1, h]
theorem cut_off (D : DiskS) (n : Int) (h : D.off = true) : D.cut n = (D, 331) := by unfold DiskS.cut; rw [if_pos h]
end Go.Proofs.YtafjolibfbccbaaGreatDoor

namespace Go.Proofs.YtafjolibfbccbaaGreatDoor
open Go.RowKit
set_option maxHeartbeats 1000000

theorem put_step (b : List UInt8) (off k : Nat) (s : List UInt8) (h : off + s.length ≤ b.length) (hk : k < s.length) : (put b off (s.take k)).set (off + k) s[k] = put b off (s.take (k + 1)) := by
  unfold put
  rw [List.take_succ_eq_append_getElem hk]
  have h1 : (b.take off).length = off := by simp; omega
  have h2 : (s.take k).length = k := by simp; omega
  rw [List.set_append_right _ _ (by omega), List.set_append_right _ _ (by omega), h1, h2, show off + k - off - k = 0 by omega]
  simp only [List.length_append, h2, List.length_cons, List.length_nil]
  have h3 : b.drop (off + k) = b[off + k]'(by omega) :: b.drop (off + k + 1) := List.drop_eq_getElem_cons (by omega)
  rw [h3, show off + (k + (0 + 1)) = off + k + 1 by omega]
  simp only [List.set_cons_zero, List.append_assoc, List.cons_append, List.nil_append]

/-- has -/
theorem has_any (a : Option Addr) (n c : Nat) (zs : List Int) (x : Int) (w : World) (hz : zs.length = n) (hm : n ≤ 1000000000) (hI : ∀ j v, zs[j]? = some v → ∃ b o, a = some ⟨b, o, none⟩ ∧ w.cell? ⟨b, o + j, none⟩ = some (.int .i64 v)) :
    Calls Tryz.prog 93 #[.slice a n c, .int .i64 x] w fun e w' => e = .returned (.bool (decide (x ∈ zs))) ∧ w = w' := by
  have HI := hide hI
  have HZ := hide hz
  clear hI hz
  go_enter Tryz.func93, Tryz.ntmps93
  go_wp2_with fail
  go_loopw [5] (fun i wr => ∃ k : Nat, k ≤ n ∧ i = .int .i64 k ∧ wr = w ∧ Hid (∀ j v, j < k → zs[j]? = some v → v ≠ x))
    (fun i _ => n - (intOf i).toNat)
  case atStart => exact ⟨0, Nat.zero_le _, rfl, rfl, fun j v hj => by omega⟩
  case round =>
    obtain ⟨k, hk, rfl, rfl, hno⟩ := hrel
    by_cases hlt : k < n
    · obtain ⟨v, hv⟩ : ∃ v, zs[k]? = some v := ⟨_, List.getElem?_eq_getElem (by rw [HZ.out]; exact hlt)⟩
      obtain ⟨b, o, rfl, hc⟩ := HI.out k v hv
      have HV := hide hv
      clear hv
      by_cases hx : v = x
      · have HX := hide hx
        have e : decide (x ∈ zs) = true := decide_eq_true (by rw [← HX.out]; exact List.mem_of_getElem? HV.out)
        have HE := hide e
        rw [HX.out] at hc
        clear hx e
        go_wp2_with fail
        go_ret
        exact ⟨by rw [HE.out]; rfl, rfl⟩
      · have HX := hide hx
        go_wp2_with fail
        go_roundw
        case rel => exact ⟨k + 1, by omega, by go_num, by first | rfl | trivial, fun j u hj hu => by
          rcases Nat.lt_or_ge j k with h | h
          · exact hno.out j u h hu
          · obtain rfl : j = k := by omega
            have := HV.out
            rw [hu] at this
            obtain rfl : u = v := by simpa using this
            exact HX.out⟩
        case measure => simp [intOf] <;> omega
    · obtain rfl : k = n := by omega
      have e : decide (x ∈ zs) = false := decide_eq_false (fun hm => by
        obtain ⟨j, hj⟩ := List.getElem?_of_mem hm
        have hjl := (List.getElem?_eq_some_iff.1 hj).1
        exact hno.out j x (by have := HZ.out; omega) hj rfl)
      have HE := hide e
      clear e
      go_wp2_with fail
      go_ret
      exact ⟨by rw [HE.out]; rfl, rfl⟩

/-- A row of the call's own, opened; and back. -/
theorem own_open {w : World} {base e n c : Nat} {A : Option Addr} {xs : List Value} (h : w.ownsRow base e 1 (.slice A n c) n xs) (hn : 0 < n) : ∃ g r, A = some ⟨g, 0, none⟩ ∧ base ≤ g ∧ Blk w g e (xs ++ r) ∧ xs.length = n ∧ n + r.length = c ∧ c ≤ maxLen := by
  rcases h.2 with ⟨hv, h0⟩ | ⟨g, cap, cur, hv, hb, hg, h1, h2, h3, h4⟩
  · omega
  · obtain ⟨rfl, rfl⟩ : A = some ⟨g, 0, none⟩ ∧ c = cap := by simpa using hv
    have hl := h.1
    rw [Nat.mul_one] at h4 hl
    refine ⟨g, cur.toList.drop n, rfl, hb, ?_, hl, ?_, h2⟩
    · show w.heap[g]? = _
      rw [hg, ← h4, List.take_append_drop]
    · simp
      omega
theorem own_close {w : World} {base e n c g : Nat} {xs r : List Value} (hb : base ≤ g) (hg : Blk w g e (xs ++ r)) (hl : xs.length = n) (hr : n + r.length = c) (hc : c ≤ maxLen) : w.ownsRow base e 1 (.slice (some ⟨g, 0, none⟩) n c) n xs :=
  ⟨by omega, .inr ⟨g, c, (xs ++ r).toArray, rfl, hb, hg, by omega, hc, by simp; omega, by subst hl; simp⟩⟩

/-- apply -/
theorem apply_any {g off n c : Nat} (s : ByteArray) (b : List UInt8) (r : List Value) (w : World) (hb : Blk w g 5 (bCells b ++ r)) (hn : b.length = n) (hf : off + s.size ≤ n) (hx : n ≤ 4194304) :
    Calls Tryz.prog 53 #[.slice (some ⟨g, 0, none⟩) n c, .int .i64 (off : Int), .string s] w fun e w' => e = .returned (.tuple #[]) ∧ Blk w' g 5 (bCells (put b off s.data.toList) ++ r) ∧ Upd [g] w w' := by
  have Hb := hide hb
  have Hn := hide hn
  have hsl : s.data.toList.length = s.size := by rw [← Lib.size_eq]
  have Hsl := hide hsl
  clear hb hn hsl
  go_enter Tryz.func53, Tryz.ntmps53
  go_wp2_with fail
  go_loopw [6] (fun i wr => ∃ k : Nat, k ≤ s.size ∧ i = .int .i64 k ∧ Upd [g] w wr ∧ Blk wr g 5 (bCells (put b off (s.data.toList.take k)) ++ r))
    (fun i _ => s.size - (intOf i).toNat)
  case atStart => exact ⟨0, Nat.zero_le _, rfl, Upd.refl _ _, by
    have := Hb.out
    have e : put b off (s.data.toList.take 0) = b := by simp [put]
    rw [e]; exact this⟩
  case round =>
    obtain ⟨k, hk, rfl, uk, bk⟩ := hrel
    have UK := hide uk
    have BK := hide bk
    clear uk bk
    by_cases hlt : k < s.size
    · have hl : (put b off (s.data.toList.take k)).length = n := by
        rw [put_length _ _ _ (by rw [Hn.out]; have := List.length_take_le k s.data.toList; have := Hsl.out; simp; omega), Hn.out]
      obtain ⟨u, hu⟩ : ∃ u, wr.cell? ⟨g, off + k, none⟩ = some u := by
        rw [BK.out.cell, List.getElem?_eq_getElem (by simp [bCells]; omega)]
        exact ⟨_, rfl⟩
      have HLn := hide hl
      clear hl
      have hfr : wr.frozen? ⟨g, off + k, none⟩ = false := BK.out.frozen _
      go_wp2_with fail
      go_roundw
      case rel =>
        refine ⟨k + 1, by omega, by go_num, UK.out.setCell (.inl (by simp)) _, ?_⟩
        have h := BK.out.set_ (off + k) (.int .u8 (s[k].toNat : Int))
        have e : (bCells (put b off (s.data.toList.take k)) ++ r).set (off + k) (.int .u8 (s[k].toNat : Int)) = bCells (put b off (s.data.toList.take (k + 1))) ++ r := by
          rw [List.set_append_left _ _ (by rw [bCells_length, HLn.out]; omega), ← put_step b off k s.data.toList (by rw [Hn.out, Hsl.out]; exact hf) (by rw [Hsl.out]; exact hlt), bCells, bCells, List.map_set]
          rfl
        rw [e] at h
        exact h
      case measure => simp [intOf]; omega
    · obtain rfl : k = s.size := by omega
      go_wp2_with fail
      go_end0
      refine ⟨rfl, ?_, UK.out⟩
      have h := BK.out
      rwa [List.take_of_length_le (by rw [Hsl.out]; exact Nat.le_refl _)] at h
end Go.Proofs.YtafjolibfbccbaaGreatDoor

namespace Go.Proofs.YtafjolibfbccbaaGreatDoor
open Go.RowKit
set_option maxHeartbeats 1000000

/-- The reference's disk: the struct in block g, the durable content in gd (r: spare cells), the pending writes. -/
structure IsRefAt (w : World) (F : List Nat) (g gd cs : Nat) (r : List Value) (A : Option Addr) (c : Nat) (D : DiskS) : Prop where
  head : Blk w g 67 [.slice (some ⟨gd, 0, none⟩) D.sure.length cs, .slice A D.pend.length c, .bool D.off, .int .i64 (D.left : Int)]
  sure : Blk w gd 5 (bCells D.sure ++ r)
  cap : D.sure.length + r.length = cs ∧ cs ≤ maxLen
  pend : w.ownsRow 0 100 2 (.slice A D.pend.length c) D.pend.length (pCells D.pend)
  fp : F = g :: gd :: (A.map (·.block)).toList
  ok : D.Ok
def IsRef (w : World) (F : List Nat) (g : Nat) (D : DiskS) : Prop := ∃ gd cs r A c, IsRefAt w F g gd cs r A c D
def MovedR (F : List Nat) (w w' : World) (g : Nat) (D : DiskS) : Prop := ∃ F', IsRef w' F' g D ∧ Upd F w w' ∧ ∀ k ∈ F', k ∈ F ∨ w.heap.size ≤ k

section
variable {w w' : World} {F l : List Nat} {g gd cs c : Nat} {r : List Value} {A : Option Addr} {D : DiskS}
theorem IsRefAt.upd (h : IsRefAt w F g gd cs r A c D) (hu : Upd l w w') (hd : ∀ k ∈ F, k ∉ l) : IsRefAt w' F g gd cs r A c D := by
  have hF := h.fp
  exact ⟨h.head.upd hu (hd _ (by simp [hF])), h.sure.upd hu (hd _ (by simp [hF])), h.cap, own_kept h.pend hu (fun k hk => hd _ (by rw [ownBlock_slice] at hk; simp [hF, hk])), h.fp, h.ok⟩
theorem IsRef.upd (h : IsRef w F g D) (hu : Upd l w w') (hd : ∀ k ∈ F, k ∉ l) : IsRef w' F g D := by
  obtain ⟨gd, cs, r, A, c, h⟩ := h
  exact ⟨gd, cs, r, A, c, h.upd hu hd⟩
theorem IsRefAt.lt (h : IsRefAt w F g gd cs r A c D) : ∀ k ∈ F, k < w.heap.size := by
  intro k hk
  rw [h.fp] at hk
  simp only [List.mem_cons] at hk
  rcases hk with rfl | rfl | hk
  · exact h.head.lt
  · exact h.sure.lt
  · exact (h.pend.lt k (by rw [ownBlock_slice]; simpa using hk)).2
theorem IsRef.lt (h : IsRef w F g D) : ∀ k ∈ F, k < w.heap.size := by
  obtain ⟨gd, cs, r, A, c, h⟩ := h
  exact h.lt
theorem IsRefAt.g_far (h : IsRefAt w F g gd cs r A c D) : g ∉ gd :: (A.map (·.block)).toList := by
  intro hm
  simp only [List.mem_cons] at hm
  rcases hm with hm | hm
  · exact h.head.ne_ h.sure (by decide) hm
  · exact own_blk_ne h.pend h.head (by decide) g (by rw [ownBlock_slice]; simpa using hm) rfl
theorem IsRefAt.d_far (h : IsRefAt w F g gd cs r A c D) : gd ∉ g :: (A.map (·.block)).toList := by
  intro hm
  simp only [List.mem_cons] at hm
  rcases hm with hm | hm
  · exact h.sure.ne_ h.head (by decide) hm
  · exact own_blk_ne h.pend h.sure (by decide) gd (by rw [ownBlock_slice]; simpa using hm) rfl
theorem IsRefAt.moved {w0 : World} {gd' cs' c' : Nat} {r' : List Value} {A' : Option Addr} {D' : DiskS} (h' : IsRefAt w' F g gd' cs' r' A' c' D') (hu : Upd F w0 w') : MovedR F w0 w' g D' := ⟨F, ⟨gd', cs', r', A', c', h'⟩, hu, fun _ hk => .inl hk⟩
end

/-- New -/
theorem refNew (n : Nat) (w : World) (h1 : 1 ≤ n) (h2 : n ≤ 4194304) : Calls Tryz.prog 33 #[.int .i64 (n : Int)] w fun e w' => ∃ g F, e = .returned (.tuple #[.pointer (some ⟨g, 0, none⟩), .int .i64 0]) ∧ IsRef w' F g (DiskS.fresh n) ∧ (∀ k ∈ F, w.heap.size ≤ k) ∧ Below w.heap.size w w' := by
  have hmk := fun W => make_bytes n h2 W
  have hn1 : ¬ (n : Int) < 1 := by omega
  have hn2 : ¬ 4194304 < (n : Int) := by omega
  go_enter Tryz.func33, Tryz.ntmps33
  go_wp2_with fail
  go_ret2
  refine ⟨w.heap.size + 1, rfl, [w.heap.size + 1, w.heap.size], ⟨w.heap.size, n, [], none, 0, ?_⟩, by simp, (((Upd.refl [] w).alloc _).alloc _).toBelow (Nat.le_refl _) (by simp)⟩
  have k1 := (Blk.new w 5 (bCells (List.replicate n 0))).alloc (.cells #[.slice (some ⟨w.heap.size, 0, none⟩) n n, .slice none 0 0, .bool false, .int .i64 0] 67)
  have k2 := Blk.new (w.alloc (.cells (bCells (List.replicate n 0)).toArray 5)) 67 [.slice (some ⟨w.heap.size, 0, none⟩) n n, .slice none 0 0, .bool false, .int .i64 0]
  rw [World.size_alloc] at k2
  refine ⟨?_, by rw [List.append_nil]; exact k1, ⟨by simp [DiskS.fresh], by unfold maxLen; omega⟩, World.ownsRow_nil _ _ _ _, rfl, fresh_ok n h1 h2⟩
  show Blk _ _ _ [.slice (some ⟨w.heap.size, 0, none⟩) (List.replicate n (0 : UInt8)).length n, .slice none 0 0, .bool false, .int .i64 0]
  rw [List.length_replicate]
  exact k2

/-- Cut -/
theorem refCut {F : List Nat} {g : Nat} {D : DiskS} (n : Int) (w : World) (h : IsRef w F g D) (hn : n ≤ 9223372036854775807) :
    Calls Tryz.prog 66 #[.pointer (some ⟨g, 0, none⟩), .int .i64 n] w fun e w' => e = .returned (.int .i64 (D.cut n).2) ∧ MovedR F w w' g (D.cut n).1 := by
  obtain ⟨gd, cs, r, A, c, h⟩ := h
  cases ho : D.off with
  | true =>
    have hc : w.cell? ⟨g, 2, none⟩ = some (.bool true) := by rw [← ho]; exact h.head.cell 2
    have e2 : D.cut n = (D, 331) := by simp [DiskS.cut, ho]
    rw [e2]
    have H := hide h
    clear h ho e2
    go_enter Tryz.func66, Tryz.ntmps66
    go_wp2_with fail
    go_ret
    exact ⟨rfl, H.out.moved (Upd.refl _ _)⟩
  | false =>
    have hc : w.cell? ⟨g, 2, none⟩ = some (.bool false) := by rw [← ho]; exact h.head.cell 2
    by_cases h0 : n < 0
    · have e2 : D.cut n = (D, 2) := by simp [DiskS.cut, ho, h0]
      rw [e2]
      have H := hide h
      clear h ho e2
      go_enter Tryz.func66, Tryz.ntmps66
      go_wp2_with fail
      go_ret
      exact ⟨rfl, H.out.moved (Upd.refl _ _)⟩
    · have e2 : D.cut n = ({ D with off := decide (n = 0), left := n.toNat }, 0) := by simp [DiskS.cut, ho, h0]
      rw [e2]
      have c1 : w.cell? ⟨g, 3, none⟩ = some (.int .i64 (D.left : Int)) := h.head.cell 3
      have f0 := h.head.frozen 2
      have f1 := h.head.frozen 3
      have H := hide h
      have E := hide e2
      clear h ho e2
      have Hn := hide hn
      clear hn
      go_enter Tryz.func66, Tryz.ntmps66
      go_wp2_with fail
      go_ret
      have hd := H.out
      have e0 : (n == 0) = decide (n = 0) := rfl
      have e1 : n = ((n.toNat : Nat) : Int) := by omega
      have hu : Upd F w ((w.setCell ⟨g, 3, none⟩ (.int .i64 n)).setCell ⟨g, 2, none⟩ (.bool (n == 0))) := ((Upd.refl F w).setCell (.inl (by simp [hd.fp])) _).setCell (.inl (by simp [hd.fp])) _
      have h1 : Upd [g] w ((w.setCell ⟨g, 3, none⟩ (.int .i64 n)).setCell ⟨g, 2, none⟩ (.bool (n == 0))) := ((Upd.refl [g] w).setCell (.inl (by simp)) _).setCell (.inl (by simp)) _
      have hb := (hd.head.set_ 3 (.int .i64 n)).set_ 2 (.bool (n == 0))
      refine ⟨rfl, IsRefAt.moved ⟨?_, hd.sure.upd h1 (fun hm => hd.d_far (by simp at hm; simp [hm])), hd.cap,
        own_kept hd.pend h1 (fun k hk hm => own_blk_ne hd.pend hd.head (by decide) k hk (by simpa using hm)), hd.fp, ⟨hd.ok.len, hd.ok.pos, hd.ok.max, hd.ok.fits, ?_⟩⟩ hu⟩
      · rw [e0] at hb
        show Blk _ g _ [_, _, .bool (decide (n = 0)), .int .i64 ((n.toNat : Nat) : Int)]
        rw [← e1]
        exact hb
      · have := Hn.out
        show n.toNat ≤ _
        omega
end Go.Proofs.YtafjolibfbccbaaGreatDoor

namespace Go.Proofs.YtafjolibfbccbaaGreatDoor
open Go.RowKit
set_option maxHeartbeats 1000000

theorem info_change : (Tryz.prog.info? 100).map (fun i => (i.zero, i.size, i.bytes)) = some (some (.agg #[.int .i64 0, .string ⟨#[]⟩]), 2, 24) := by kernel_rfl

theorem refWritten_at {w w1 w3 : World} {F : List Nat} {g gd cs c c' : Nat} {r : List Value} {A A' : Option Addr} {D : DiskS} {o1 : Obj} {off : Nat} {s : ByteArray} (h : IsRefAt w F g gd cs r A c D) (hf : off + s.size ≤ D.sure.length)
    (H1 : w1.ownsRow 0 100 2 (.slice A' (D.pend.length + 1) c') (D.pend.length + 1) (pCells D.pend ++ [.int .i64 (off : Int), .string s]))
    (U1 : Upd (A.map (·.block)).toList (w.alloc o1) w1) (A1 : A'.map (·.block) = A.map (·.block) ∨ A'.map (·.block) = some (w.alloc o1).heap.size)
    (u3 : Upd [g] w1 w3) {o : Bool} {l : Nat} (hl : l ≤ 9223372036854775807)
    (h3 : Blk w3 g 67 [.slice (some ⟨gd, 0, none⟩) D.sure.length cs, .slice A' (D.pend.length + 1) c', .bool o, .int .i64 (l : Int)])
    (hw : D.written off s.data.toList = { D with off := o, left := l, pend := D.pend ++ [(off, s.data.toList)], vis := put D.vis off s.data.toList }) : MovedR F w w3 g (D.written off s.data.toList) := by
  have hF := h.fp
  have e0 : Upd F w (w.alloc o1) := (Upd.refl F w).alloc _
  have e1 : Upd F w w1 := e0.trans U1 (fun x hx => .inl (by rw [hF]; simp at hx; simp [hx]))
  have e4 : Upd F w w3 := e1.trans u3 (by simp [hF])
  have s0 : (w.alloc o1).heap.size = w.heap.size + 1 := by simp
  have hA : ∀ x, A'.map (·.block) = some x → x ≠ g ∧ x ≠ gd := by
    intro x hx
    rcases A1 with e | e
    · rw [e] at hx
      exact ⟨fun e => h.g_far (by subst e; simp [hx]), fun e => h.d_far (by subst e; simp [hx])⟩
    · rw [e, s0] at hx
      injection hx with hx
      have a := h.head.lt
      have b := h.sure.lt
      omega
  have c1 : Upd (g :: (A.map (·.block)).toList) w w3 := (((Upd.refl _ w).alloc o1).trans U1 (fun x hx => .inl (by simp at hx; simp [hx]))).trans u3 (by simp)
  have p3 := own_kept H1 u3 (fun k hk => by rw [ownBlock_slice] at hk; simp [(hA k hk).1])
  refine ⟨g :: gd :: (A'.map (·.block)).toList, ⟨gd, cs, r, A', c', ?_⟩, e4, ?_⟩
  · rw [hw]
    have lv : (put D.vis off s.data.toList).length = D.vis.length := put_length _ _ _ (by rw [h.ok.len, ← Lib.size_eq]; exact hf)
    refine ⟨?_, h.sure.upd c1 h.d_far, h.cap, ?_, rfl, ⟨lv.trans h.ok.len, h.ok.pos, h.ok.max, ?_, hl⟩⟩
    · simpa using h3
    · have e : pCells (D.pend ++ [(off, s.data.toList)]) = pCells D.pend ++ [.int .i64 (off : Int), .string s] := by simp [pCells]
      simp only [List.length_append, List.length_cons, List.length_nil, e]
      exact p3
    · intro p hp
      simp only [List.mem_append, List.mem_singleton] at hp
      rcases hp with hp | rfl
      · exact h.ok.fits p hp
      · simp only [← Lib.size_eq]; exact hf
  · intro k hk
    simp only [List.mem_cons] at hk
    rcases hk with rfl | rfl | hk
    · exact .inl (by simp [hF])
    · exact .inl (by simp [hF])
    · rcases A1 with e | e
      · rw [e] at hk; exact .inl (by rw [hF]; simp at hk; simp [hk])
      · rw [e, s0] at hk
        simp at hk
        exact .inr (by omega)

theorem refWrite_good {F : List Nat} {g : Nat} {D : DiskS} (off : Nat) (s : ByteArray) (w : World) (h : IsRef w F g D) (ho : D.off = false) (hb : off ≤ D.sure.length ∧ s.size ≤ D.sure.length - off) (hp : D.pend.length ≤ 1000000000) :
    Calls Tryz.prog 16 #[.pointer (some ⟨g, 0, none⟩), .int .i64 (off : Int), .string s] w fun e w' => e = .returned (.int .i64 0) ∧ MovedR F w w' g (D.written off s.data.toList) := by
  obtain ⟨gd, cs, r, A, c, h⟩ := h
  have hm := h.ok.max
  have c0 : w.cell? ⟨g, 0, none⟩ = some (.slice (some ⟨gd, 0, none⟩) D.sure.length cs) := h.head.cell 0
  have c1 : w.cell? ⟨g, 1, none⟩ = some (.slice A D.pend.length c) := h.head.cell 1
  have c2 : w.cell? ⟨g, 2, none⟩ = some (.bool false) := by rw [← ho]; exact h.head.cell 2
  have f1 := h.head.frozen 1
  have Ho := hide ho
  have H := hide h
  have Hb := hide hb
  have Hp := hide hp
  have B0 := hide (h.head.alloc (Obj.cells #[Value.int IntKind.i64 (off : Int), Value.string s] 100))
  have O1 := hide (show World.ownsRow (w.alloc (Obj.cells #[Value.int IntKind.i64 (off : Int), Value.string s] 100)) 0 100 2 (.slice A D.pend.length c) D.pend.length (pCells D.pend) from h.pend.alloc _)
  have HC := hide (cell_two_new w (.int .i64 (off : Int)) (.string s) 100)
  have O2 := hide (show ∀ u ∈ [Value.int .i64 (off : Int), .string s], u.oneCell' = true by simp [Value.oneCell'])
  have O3 := hide (show D.pend.length + 1 ≤ maxLen by unfold maxLen; omega)
  have O4 := hide (show (D.pend.length + 1) * 24 ≤ 140737488355328 by omega)
  have O5 := hide (show g ∉ (A.map (·.block)).toList from fun hm => h.g_far (by simp at hm; simp [hm]))
  have hl := h.ok.left
  obtain ⟨n, En⟩ : ∃ n, Hid (D.sure.length = n) := ⟨_, rfl⟩
  rw [En.out] at hb hm c0
  cases hleft : D.left with
  | zero =>
    have Z := hide hleft
    have HL := hide hl
    clear h ho hp hl hleft
    go_enter Tryz.func16, Tryz.ntmps16
    go_wp2_with (at_builtin; (refine wpList_append_base rfl (.tmp 38) (.tmp 42) _ rfl 0 100 _ 2 24 Tryz.underlying65 info_change rfl (by decide) A D.pend.length c (pCells D.pend) rfl O1.out ⟨w.heap.size, 0, none⟩ 1 1 [.int .i64 (off : Int), .string s] rfl rfl HC.out O2.out O3.out O4.out (Nat.zero_le _) ?_; intro A' c' w1 h1 u1 a1; have H1 := hide h1; have U1 := hide u1; have A1 := hide a1; have b1 := B0.out.upd u1 O5.out; have B1 := hide b1; have k3 : w1.cell? ⟨g, 3, none⟩ = some (.int .i64 0) := (by have := b1.cell 3; rw [Z.out] at this; exact this); have k1 := b1.cell 1; have k5 := b1.frozen 1; clear h1 u1 a1 b1))
    go_ret
    have hb := Hb.out
    refine ⟨rfl, refWritten_at (o := false) (l := 0) H.out (by omega) H1.out U1.out A1.out ((Upd.refl [g] w1).setCell (p := ⟨g, 1, none⟩) (.inl (by simp)) (.slice A' (D.pend.length + 1) c')) (by omega) ?_ ?_⟩
    · have k := B1.out.set_ 1 (.slice A' (D.pend.length + 1) c')
      rw [Ho.out, Z.out] at k
      exact k
    · have z := Z.out
      have o := Ho.out
      cases D
      simp only at z o
      subst z o
      simp [DiskS.written, DiskS.used]
  | succ m =>
    have Z := hide hleft
    have HL := hide hl
    by_cases hm0 : m = 0
    · subst hm0
      clear h ho hp hl hleft
      go_enter Tryz.func16, Tryz.ntmps16
      go_wp2_with (at_builtin; (refine wpList_append_base rfl (.tmp 38) (.tmp 42) _ rfl 0 100 _ 2 24 Tryz.underlying65 info_change rfl (by decide) A D.pend.length c (pCells D.pend) rfl O1.out ⟨w.heap.size, 0, none⟩ 1 1 [.int .i64 (off : Int), .string s] rfl rfl HC.out O2.out O3.out O4.out (Nat.zero_le _) ?_; intro A' c' w1 h1 u1 a1; have H1 := hide h1; have U1 := hide u1; have A1 := hide a1; have b1 := B0.out.upd u1 O5.out; have B1 := hide b1; have k3 : w1.cell? ⟨g, 3, none⟩ = some (.int .i64 1) := (by have := b1.cell 3; rw [Z.out] at this; exact this); have k1 := b1.cell 1; have k5 := b1.frozen 1; have k6 := b1.frozen 3; have k7 := b1.frozen 2; have k8 := b1.cell 2; clear h1 u1 a1 b1))
      go_ret
      have hb := Hb.out
      refine ⟨rfl, refWritten_at (o := true) (l := 0) H.out (by omega) H1.out U1.out A1.out ((((Upd.refl [g] w1).setCell (p := ⟨g, 1, none⟩) (.inl (by simp)) (.slice A' (D.pend.length + 1) c')).setCell (p := ⟨g, 3, none⟩) (.inl (by simp)) (.int .i64 ((0 : Nat) : Int))).setCell (p := ⟨g, 2, none⟩) (.inl (by simp)) (.bool true)) (by have a := HL.out; have b := Z.out; omega) ?_ ?_⟩
      · have k := ((B1.out.set_ 1 (.slice A' (D.pend.length + 1) c')).set_ 3 (.int .i64 ((0 : Nat) : Int))).set_ 2 (.bool true)
        rw [Ho.out] at k
        exact k
      · have z := Z.out
        have o := Ho.out
        cases D
        simp only at z o
        subst z o
        simp [DiskS.written, DiskS.used]
    · have hm1 : ¬ (m : Int) = 0 := by omega
      have hmb : m + 1 ≤ 9223372036854775807 := by have a := HL.out; have b := Z.out; omega
      clear h ho hp hl hleft
      go_enter Tryz.func16, Tryz.ntmps16
      go_wp2_with (at_builtin; (refine wpList_append_base rfl (.tmp 38) (.tmp 42) _ rfl 0 100 _ 2 24 Tryz.underlying65 info_change rfl (by decide) A D.pend.length c (pCells D.pend) rfl O1.out ⟨w.heap.size, 0, none⟩ 1 1 [.int .i64 (off : Int), .string s] rfl rfl HC.out O2.out O3.out O4.out (Nat.zero_le _) ?_; intro A' c' w1 h1 u1 a1; have H1 := hide h1; have U1 := hide u1; have A1 := hide a1; have b1 := B0.out.upd u1 O5.out; have B1 := hide b1; have k3 : w1.cell? ⟨g, 3, none⟩ = some (.int .i64 ((m : Int) + 1)) := (by have := b1.cell 3; rw [Z.out] at this; exact this); have k1 := b1.cell 1; have k5 := b1.frozen 1; have k6 := b1.frozen 3; have k7 := b1.frozen 2; have k8 := b1.cell 2; clear h1 u1 a1 b1))
      go_ret
      have hb := Hb.out
      refine ⟨rfl, refWritten_at (o := false) (l := m) H.out (by omega) H1.out U1.out A1.out (((Upd.refl [g] w1).setCell (p := ⟨g, 1, none⟩) (.inl (by simp)) (.slice A' (D.pend.length + 1) c')).setCell (p := ⟨g, 3, none⟩) (.inl (by simp)) (.int .i64 (m : Int))) (by have a := HL.out; have b := Z.out; omega) ?_ ?_⟩
      · have k := (B1.out.set_ 1 (.slice A' (D.pend.length + 1) c')).set_ 3 (.int .i64 (m : Int))
        rw [Ho.out] at k
        exact k
      · have z := Z.out
        have o := Ho.out
        cases D
        simp only at z o
        subst z o
        simp [DiskS.written, DiskS.used, hm0]

theorem refWrite {F : List Nat} {g : Nat} {D : DiskS} (off : Int) (s : ByteArray) (w : World) (h : IsRef w F g D) (hp : D.pend.length ≤ 1000000000) :
    Calls Tryz.prog 16 #[.pointer (some ⟨g, 0, none⟩), .int .i64 off, .string s] w fun e w' => e = .returned (.int .i64 (D.write off s.data.toList).2) ∧ MovedR F w w' g (D.write off s.data.toList).1 := by
  have hs : s.data.toList.length = s.size := by rw [← Lib.size_eq]
  cases ho : D.off with
  | true =>
    obtain ⟨gd, cs, r, A, c, h⟩ := h
    have hc : w.cell? ⟨g, 2, none⟩ = some (.bool true) := by rw [← ho]; exact h.head.cell 2
    have e2 : D.write off s.data.toList = (D, 331) := by simp [DiskS.write, ho]
    rw [e2]
    have H := hide h
    clear h ho e2 hs hp
    go_enter Tryz.func16, Tryz.ntmps16
    go_wp2_with fail
    go_ret
    exact ⟨rfl, H.out.moved (Upd.refl _ _)⟩
  | false =>
    cases hi : inB D.sure.length off s.size with
    | false =>
      obtain ⟨gd, cs, r, A, c, h⟩ := h
      have hc : w.cell? ⟨g, 2, none⟩ = some (.bool false) := by rw [← ho]; exact h.head.cell 2
      have c0 : w.cell? ⟨g, 0, none⟩ = some (.slice (some ⟨gd, 0, none⟩) D.sure.length cs) := h.head.cell 0
      have hm := h.ok.max
      have e2 : D.write off s.data.toList = (D, 330) := by simp [DiskS.write, ho, hi]
      rw [e2]
      have H := hide h
      have hn : ¬ (0 ≤ off ∧ 0 ≤ (s.size : Int) ∧ off ≤ D.sure.length ∧ (s.size : Int) ≤ D.sure.length - off) := by simpa [inB] using hi
      obtain ⟨n, En⟩ : ∃ n, D.sure.length = n := ⟨_, rfl⟩
      rw [En] at c0 hm hn
      clear h ho e2 hs hp hi En
      by_cases h1 : off < 0
      · clear hn
        go_enter Tryz.func16, Tryz.ntmps16
        go_wp2_with fail
        go_ret
        exact ⟨rfl, H.out.moved (Upd.refl _ _)⟩
      · by_cases h2 : (n : Int) < off
        · clear hn
          go_enter Tryz.func16, Tryz.ntmps16
          go_wp2_with fail
          go_ret
          exact ⟨rfl, H.out.moved (Upd.refl _ _)⟩
        · have h3 : (n : Int) - off < s.size := by omega
          clear hn
          go_enter Tryz.func16, Tryz.ntmps16
          go_wp2_with fail
          go_ret
          exact ⟨rfl, H.out.moved (Upd.refl _ _)⟩
    | true =>
      have h0 : 0 ≤ off ∧ 0 ≤ (s.size : Int) ∧ off ≤ D.sure.length ∧ (s.size : Int) ≤ D.sure.length - off := by simpa [inB] using hi
      obtain ⟨o, rfl⟩ : ∃ m : Nat, off = m := ⟨off.toNat, by omega⟩
      have e2 : D.write o s.data.toList = (D.written o s.data.toList, 0) := by simp [DiskS.write, ho, hi]
      rw [e2]
      exact refWrite_good o s w h ho (by omega) hp
end Go.Proofs.YtafjolibfbccbaaGreatDoor

namespace Go.Proofs.YtafjolibfbccbaaGreatDoor
open Go.RowKit
set_option maxRecDepth 100000
set_option maxHeartbeats 1000000

theorem chg_cell {w : World} {gp n c : Nat} {s : Option Nat} {o : Nat} {l : List (Nat × List UInt8)} {j : Nat} {u : Value} (h : w.ownsRow 0 100 2 (.slice (some ⟨gp, o, s⟩) n c) n (pCells l)) (hu : (pCells l)[j]? = some u) : w.cell? ⟨gp, j, none⟩ = some u ∧ o = 0 ∧ s = none := by
  rcases h.2 with ⟨hv, h0⟩ | ⟨g, cap, cur, hv, _⟩
  · simp at hv
  · obtain ⟨⟨rfl, rfl, rfl⟩, rfl⟩ : (gp = g ∧ o = 0 ∧ s = none) ∧ c = cap := by simpa using hv
    refine ⟨?_, rfl, rfl⟩
    have := World.ownsRow.cells h (g := gp) rfl j u (by simpa using hu)
    have e : (⟨gp, 0, none⟩ : Addr).add j = ⟨gp, j, none⟩ := by unfold Addr.add; split <;> simp_all
    first | exact this | (rw [e] at this; exact this)
theorem chg_form {w : World} {n c : Nat} {A : Option Addr} {l : List (Nat × List UInt8)} (h : w.ownsRow 0 100 2 (.slice A n c) n (pCells l)) (hn : 0 < n) : ∃ gp, A = some ⟨gp, 0, none⟩ := by
  rcases h.2 with ⟨hv, h0⟩ | ⟨g, cap, cur, hv, _⟩
  · omega
  · obtain ⟨rfl, rfl⟩ : A = some ⟨g, 0, none⟩ ∧ c = cap := by simpa using hv
    exact ⟨g, rfl⟩

theorem refVisible {F : List Nat} {g gd cs c : Nat} {r : List Value} {A : Option Addr} {D : DiskS} (w : World) (h : IsRefAt w F g gd cs r A c D) (hp : D.pend.length ≤ 1000000000) :
    Calls Tryz.prog 23 #[.pointer (some ⟨g, 0, none⟩)] w fun e w' => ∃ gb cb rb, e = .returned (.slice (some ⟨gb, 0, none⟩) D.sure.length cb) ∧ w.heap.size ≤ gb ∧ Blk w' gb 5 (bCells (puts D.sure D.pend) ++ rb) ∧ D.sure.length + rb.length = cb ∧ cb ≤ maxLen ∧ Upd [] w w' := by
  have c0 : w.cell? ⟨g, 0, none⟩ = some (.slice (some ⟨gd, 0, none⟩) D.sure.length cs) := h.head.cell 0
  have c1 : w.cell? ⟨g, 1, none⟩ = some (.slice A D.pend.length c) := h.head.cell 1
  have H := hide h
  have hgl := h.head.lt
  have O1 := hide (show World.ownsRow (w.alloc (.cells #[] 5)) w.heap.size 5 1 (.slice (some ⟨w.heap.size, 0, none⟩) 0 0) 0 [] from ⟨rfl, .inr ⟨w.heap.size, 0, #[], rfl, Nat.le_refl _, heap_alloc_new w _, Nat.le_refl _, Nat.zero_le _, rfl, rfl⟩⟩)
  have HC := hide (show ∀ j u, (bCells D.sure)[j]? = some u → (w.alloc (.cells #[] 5)).cell? ((⟨gd, 0, none⟩ : Addr).add j) = some u by
    intro j u hj
    have e : (⟨gd, 0, none⟩ : Addr).add j = ⟨gd, j, none⟩ := by unfold Addr.add; split <;> simp_all
    rw [e, (h.sure.alloc _).cell, List.getElem?_append_left (List.getElem?_eq_some_iff.1 hj).1]
    exact hj)
  have O2 := hide (bCells_one D.sure)
  have hmx := h.ok.max
  obtain ⟨n, En⟩ : ∃ n, Hid (D.sure.length = n) := ⟨_, rfl⟩
  obtain ⟨m, Em⟩ : ∃ m, Hid (D.pend.length = m) := ⟨_, rfl⟩
  rw [En.out] at c0
  rw [Em.out] at c1
  rw [En.out]
  rw [En.out] at hmx
  rw [Em.out] at hp
  have O3 := hide (show 0 + n ≤ maxLen by unfold maxLen; omega)
  have O4 := hide (show (0 + n) * 1 ≤ 140737488355328 by omega)
  have O5 := hide (show (bCells D.sure).length = n * 1 by rw [bCells_length, En.out]; omega)
  clear h
  go_enter Tryz.func23, Tryz.ntmps23
  go_wp2_with (at_builtin; refine wpList_append_base rfl (.tmp 5) (.tmp 9) _ rfl w.heap.size 5 _ 1 1 Tryz.underlying39 info_byte rfl (by decide) (some ⟨w.heap.size, 0, none⟩) 0 0 [] rfl O1.out ⟨gd, 0, none⟩ n cs (bCells D.sure) rfl O5.out HC.out O2.out O3.out O4.out (by simp) ?_; intro A' c' w1 h1 u1 a1; have H1 := hide h1; have U1 := hide u1; clear h1 u1 a1)
  have h1 := H1.out
  simp only [Nat.zero_add, List.nil_append] at h1 ⊢
  obtain ⟨gb, rb, rfl, hgb, hbl, _, hrb, hcb⟩ := own_open h1 (by have := H.out.ok.pos; have := En.out; omega)
  have U01 := hide (((Upd.refl [] w).alloc (.cells #[] 5)).trans U1.out (by simp))
  have HB := hide hbl
  have HR := hide (show n + rb.length = c' ∧ c' ≤ maxLen from ⟨hrb, hcb⟩)
  clear h1 hbl hrb hcb H1 U1
  go_loopw [4] (fun i wr => ∃ k : Nat, k ≤ m ∧ i = .int .i64 k ∧ Upd [] w wr ∧ Blk wr gb 5 (bCells (puts D.sure (D.pend.take k)) ++ rb))
    (fun i _ => m - (intOf i).toNat)
  case atStart => exact ⟨0, Nat.zero_le _, rfl, U01.out, HB.out⟩
  case round =>
    obtain ⟨k, hk, rfl, hu, hg⟩ := hrel
    have HU := hide hu
    have HG := hide hg
    have j1 : wr.cell? ⟨g, 1, none⟩ = some (.slice A m c) := by rw [(H.out.head.upd hu (by simp)).cell 1, ← Em.out]; rfl
    clear hu hg
    by_cases hlt : k < m
    · obtain ⟨gp, rfl⟩ := chg_form H.out.pend (by rw [Em.out]; omega)
      obtain ⟨p, hpk⟩ : ∃ p, D.pend[k]? = some p := ⟨_, List.getElem?_eq_getElem (by rw [Em.out]; exact hlt)⟩
      obtain ⟨po, ps⟩ := p
      have hpe := own_kept H.out.pend HU.out (by simp)
      have q0 := (chg_cell hpe (pCells_get D.pend hpk).1).1
      have q1 := (chg_cell hpe (pCells_get D.pend hpk).2).1
      simp only at q0 q1
      have hpf := H.out.ok.fits (po, ps) (List.mem_of_getElem? hpk)
      have HPK := hide hpk
      have hln : (puts D.sure (D.pend.take k)).length = n := by
        rw [puts_length _ _ (fun x hx => H.out.ok.fits x (List.mem_of_mem_take hx)), En.out]
      have AP := hide (apply_any (off := po) (c := c') ⟨ps.toArray⟩ _ rb wr.drew HG.out hln (by simp only at hpf; show po + ps.toArray.size ≤ n; rw [← En.out]; simpa using hpf) hmx)
      clear hpk hpe hpf hln
      go_wp2_with fail
      go_still_tail 17, (by kernel_rfl)
      change wpList _ _ _ _ _ wr.drew
      go_wp2_with fail
      refine AP.out.mono ?_
      rintro e w5 ⟨rfl, g5, u5⟩
      have U5 := hide (HU.out.drew.trans u5 (by intro x hx; simp at hx; subst hx; exact .inr hgb))
      have G5 := hide (show Blk w5 gb 5 (bCells (puts D.sure (D.pend.take (k + 1))) ++ rb) by rw [puts_snoc _ _ HPK.out]; exact g5)
      clear g5 u5 AP
      go_wp2_with fail
      go_roundw
      case rel => exact ⟨k + 1, by omega, by go_num, U5.out, G5.out⟩
      case measure => simp [intOf] <;> omega
    · obtain rfl : k = m := by omega
      go_wp2_with fail
      go_ret
      refine ⟨gb, _, rb, rfl, hgb, ?_, HR.out.1, HR.out.2, HU.out⟩
      have := HG.out
      rwa [List.take_of_length_le (by rw [Em.out]; exact Nat.le_refl _)] at this

theorem refSync {F : List Nat} {g : Nat} {D : DiskS} (w : World) (h : IsRef w F g D) (hp : D.pend.length ≤ 1000000000) (hs : D.vis = puts D.sure D.pend) :
    Calls Tryz.prog 45 #[.pointer (some ⟨g, 0, none⟩)] w fun e w' => e = .returned (.int .i64 D.sync.2) ∧ MovedR F w w' g D.sync.1 := by
  obtain ⟨gd, cs, r, A, c, h⟩ := h
  cases ho : D.off with
  | true =>
    have hc : w.cell? ⟨g, 2, none⟩ = some (.bool true) := by rw [← ho]; exact h.head.cell 2
    have e2 : D.sync = (D, 331) := by simp [DiskS.sync, ho]
    rw [e2]
    have H := hide h
    clear h ho e2 hs hp
    go_enter Tryz.func45, Tryz.ntmps45
    go_wp2_with fail
    go_ret
    exact ⟨rfl, H.out.moved (Upd.refl _ _)⟩
  | false =>
    have hc : w.cell? ⟨g, 2, none⟩ = some (.bool false) := by rw [← ho]; exact h.head.cell 2
    have e2 : D.sync = (D.settled D.vis, 0) := by simp [DiskS.sync, ho]
    rw [e2]
    have VI := hide (refVisible w h hp)
    have H := hide h
    have HO := hide ho
    have HS := hide hs
    clear h ho e2 hs hp
    go_enter Tryz.func45, Tryz.ntmps45
    go_wp2_with fail
    refine VI.out.mono ?_
    rintro e w1 ⟨gb, cb, rb, rfl, hgb, hbl, hrb, hcb, hu⟩
    have b1 := H.out.head.upd hu (by simp)
    have k0 := b1.cell 0
    have k1 := b1.cell 1
    have f0 := b1.frozen 0
    have f1 := b1.frozen 1
    have HU := hide hu
    have B1 := hide b1
    have G1 := hide hbl
    have HR := hide (show D.sure.length + rb.length = cb ∧ cb ≤ maxLen from ⟨hrb, hcb⟩)
    have HGB := hide hgb
    clear hu b1 hbl hrb hcb hgb VI
    go_wp2_with fail
    go_ret
    have hh := (B1.out.set_ 0 (.slice (some ⟨gb, 0, none⟩) D.sure.length cb)).set_ 1 (.slice none 0 0)
    have ug : Upd [g] w1 ((w1.setCell ⟨g, 0, none⟩ (.slice (some ⟨gb, 0, none⟩) D.sure.length cb)).setCell ⟨g, 1, none⟩ (.slice none 0 0)) := ((Upd.refl [g] w1).setCell (.inl (by simp)) _).setCell (.inl (by simp)) _
    have hlen : D.vis.length = D.sure.length := H.out.ok.len
    have hne : gb ∉ [g] := by
      have := H.out.head.lt
      have := HGB.out
      simp
      omega
    refine ⟨rfl, [g, gb], ⟨gb, cb, rb, none, 0, ⟨?_, ?_, ?_, World.ownsRow_nil _ _ _ _, rfl, ?_⟩⟩, ?_, ?_⟩
    · show Blk _ g _ [.slice (some ⟨gb, 0, none⟩) D.vis.length cb, .slice none 0 0, .bool D.off, .int .i64 (D.left : Int)]
      rw [hlen]
      exact hh
    · show Blk _ gb _ (bCells D.vis ++ rb)
      rw [HS.out]
      exact G1.out.upd ug hne
    · show D.vis.length + rb.length = cb ∧ cb ≤ maxLen
      rw [hlen]
      exact HR.out
    · exact ⟨rfl, by show 1 ≤ D.vis.length; rw [hlen]; exact H.out.ok.pos, by show D.vis.length ≤ _; rw [hlen]; exact H.out.ok.max, by simp [DiskS.settled], H.out.ok.left⟩
    · exact ((HU.out.mono (by simp)).trans ug (by simp [H.out.fp]))
    · intro k hk
      simp at hk
      rcases hk with rfl | rfl
      · exact .inl (by simp [H.out.fp])
      · exact .inr HGB.out
end Go.Proofs.YtafjolibfbccbaaGreatDoor

namespace Go.Proofs.YtafjolibfbccbaaGreatDoor
open Go.RowKit
set_option maxRecDepth 100000
set_option maxHeartbeats 1000000

/-- 'string(b[o:o+k])' of a row with spare cells. -/
theorem run_conv_row {P : Program} {w : World} {g t : Nat} {b : List UInt8} {r : List Value} (hb : Blk w g t (bCells b ++ r)) (src e dst : TypeId) (hs : P.underlying src = some (.slice e)) (he : P.underlying e = some (.int .u8)) (hd : P.underlying dst = some .string) (o k cap : Nat) (h : o + k ≤ b.length) :
    (convert src dst (.slice (some ⟨g, o, none⟩) k cap)).run P w = .ok (.string ⟨((b.drop o).take k).toArray⟩) w := by
  have hx := run_convert_bytes_arg (P := P) w src e hs he g o k cap (((b.drop o).take k).map fun x => (x.toNat : Int)) (by simp; omega) (fun i hi => by
    rw [hb.cell]
    have e1 : ((b.drop o).take k)[i]? = b[o + i]? := by rw [List.getElem?_take_of_lt hi, List.getElem?_drop]
    have e2 : b[o + i]? = some (b[o + i]'(by omega)) := List.getElem?_eq_getElem (by omega)
    have e3 : (((b.drop o).take k).map fun x : UInt8 => (x.toNat : Int))[i]? = some ((b[o + i]'(by omega)).toNat : Int) := by rw [List.getElem?_map, e1, e2]; rfl
    rw [List.getD, e3, List.getElem?_append_left (by rw [bCells_length]; omega), bCells, List.getElem?_map, e2]
    rfl) dst hd
  rw [hx]
  congr 2
  apply ByteArray.ext
  apply Array.toList_inj.1
  rw [strOfNums_data, List.map_map]
  show _ = (b.drop o).take k
  conv => rhs; rw [← List.map_id ((b.drop o).take k)]
  apply List.map_congr_left
  intro x _
  simp
theorem run_conv_row_if {P : Program} {w : World} {g t : Nat} {b : List UInt8} {r : List Value} (hb : Blk w g t (bCells b ++ r)) (src e dst : TypeId) (hs : P.underlying src = some (.slice e)) (he : P.underlying e = some (.int .u8)) (hd : P.underlying dst = some .string) (n o k cap c' : Nat) (hn : b.length = n) (hc : n ≤ cap) (ho : o ≤ n) (h : k ≤ n - o) :
    (convert src dst (.slice (if cap = o then some ⟨g, 0, none⟩ else some ⟨g, o, none⟩) k c')).run P w = .ok (.string ⟨((b.drop o).take k).toArray⟩) w := by
  subst hn
  split
  · rename_i q
    have hk : k = 0 := by omega
    subst hk
    have := run_conv_row hb src e dst hs he hd 0 0 c' (by omega)
    simpa using this
  · exact run_conv_row hb src e dst hs he hd o k c' (by omega)

theorem refRead {F : List Nat} {g : Nat} {D : DiskS} (off n : Int) (w : World) (h : IsRef w F g D) (hp : D.pend.length ≤ 1000000000) (hs : D.vis = puts D.sure D.pend) :
    Calls Tryz.prog 74 #[.pointer (some ⟨g, 0, none⟩), .int .i64 off, .int .i64 n] w fun e w' => e = .returned (.tuple #[.string ⟨(D.read off n).1.toArray⟩, .int .i64 (D.read off n).2]) ∧ Upd [] w w' := by
  obtain ⟨gd, cs, r, A, c, h⟩ := h
  have c0 : w.cell? ⟨g, 0, none⟩ = some (.slice (some ⟨gd, 0, none⟩) D.sure.length cs) := h.head.cell 0
  have hm := h.ok.max
  cases ho : D.off with
  | true =>
    have hc : w.cell? ⟨g, 2, none⟩ = some (.bool true) := by rw [← ho]; exact h.head.cell 2
    have e2 : D.read off n = ([], 331) := by simp [DiskS.read, ho]
    rw [e2]
    clear h ho e2 hs hp
    go_enter Tryz.func74, Tryz.ntmps74
    go_wp2_with fail
    go_ret2
    exact ⟨rfl, Upd.refl _ _⟩
  | false =>
    have hc : w.cell? ⟨g, 2, none⟩ = some (.bool false) := by rw [← ho]; exact h.head.cell 2
    cases hi : inB D.sure.length off n with
    | false =>
      have e2 : D.read off n = ([], 330) := by simp [DiskS.read, ho, hi]
      rw [e2]
      have hn : ¬ (0 ≤ off ∧ 0 ≤ n ∧ off ≤ D.sure.length ∧ n ≤ D.sure.length - off) := by simpa [inB] using hi
      obtain ⟨l, El⟩ : ∃ l, D.sure.length = l := ⟨_, rfl⟩
      rw [El] at c0 hm hn
      clear h ho e2 hs hp hi El
      by_cases h1 : off < 0
      · clear hn
        go_enter Tryz.func74, Tryz.ntmps74
        go_wp2_with fail
        go_ret2
        exact ⟨rfl, Upd.refl _ _⟩
      · by_cases h2 : n < 0
        · clear hn
          go_enter Tryz.func74, Tryz.ntmps74
          go_wp2_with fail
          go_ret2
          exact ⟨rfl, Upd.refl _ _⟩
        · by_cases h3 : (l : Int) < off
          · clear hn
            go_enter Tryz.func74, Tryz.ntmps74
            go_wp2_with fail
            go_ret2
            exact ⟨rfl, Upd.refl _ _⟩
          · have h4 : (l : Int) - off < n := by omega
            clear hn
            go_enter Tryz.func74, Tryz.ntmps74
            go_wp2_with fail
            go_ret2
            exact ⟨rfl, Upd.refl _ _⟩
    | true =>
      have hb : 0 ≤ off ∧ 0 ≤ n ∧ off ≤ D.sure.length ∧ n ≤ D.sure.length - off := by simpa [inB] using hi
      obtain ⟨h0, h1, h2, h3⟩ := hb
      obtain ⟨o, rfl⟩ : ∃ m : Nat, off = m := ⟨off.toNat, by omega⟩
      obtain ⟨k, rfl⟩ : ∃ m : Nat, n = m := ⟨n.toNat, by omega⟩
      have h4 : o ≤ D.sure.length := by omega
      have h5 : k ≤ D.sure.length - o := by omega
      have e2 : D.read o k = (((puts D.sure D.pend).drop o).take k, 0) := by simp [DiskS.read, ho, hi, hs]
      rw [e2]
      have VI := hide (refVisible w h hp)
      have HL := hide (show (puts D.sure D.pend).length = D.sure.length by rw [← hs]; exact h.ok.len)
      have H := hide h
      obtain ⟨l, El⟩ : ∃ l, Hid (D.sure.length = l) := ⟨_, rfl⟩
      rw [El.out] at c0 hm h4 h5 VI HL
      clear h ho e2 hi h0 h1 h2 h3 hs hp
      go_enter Tryz.func74, Tryz.ntmps74
      go_wp2_with fail
      refine VI.out.mono ?_
      rintro e w1 ⟨gb, cb, rb, rfl, hgb, hbl, hrb, hcb, hu⟩
      have hv := run_conv_row_if (P := Tryz.prog) hbl 39 5 9 Tryz.underlying39 Tryz.underlying5 Tryz.underlying9 l o k cb (cb - o) HL.out (by omega) h4 h5
      have HU := hide hu
      have hcb2 : l ≤ cb := by omega
      clear hu hbl hgb VI hrb
      clear hcb
      go_wp2_with fail
      all_goals
        go_ret2
        exact ⟨rfl, HU.out⟩
end Go.Proofs.YtafjolibfbccbaaGreatDoor

namespace Go.Proofs.YtafjolibfbccbaaGreatDoor
open Go.RowKit
set_option maxRecDepth 100000
set_option maxHeartbeats 1000000

/-- The kept ones of the first k writes. -/
def keptTo (D : DiskS) (keep : List Int) (k : Nat) : List (Nat × List UInt8) := ((List.range k).filter fun i : Nat => decide ((i : Int) ∈ keep)).map fun i : Nat => D.pend[i]?.getD (0, [])
theorem keptTo_all (D : DiskS) (keep : List Int) : keptTo D keep D.pend.length = D.kept keep := rfl
theorem keptTo_yes {D : DiskS} {keep : List Int} {k : Nat} {p : Nat × List UInt8} (h : (k : Int) ∈ keep) (hp : D.pend[k]? = some p) : keptTo D keep (k + 1) = keptTo D keep k ++ [p] := by
  unfold keptTo
  rw [List.range_succ, List.filter_append, List.map_append]
  simp [h, hp]
theorem keptTo_no {D : DiskS} {keep : List Int} {k : Nat} (h : ¬ (k : Int) ∈ keep) : keptTo D keep (k + 1) = keptTo D keep k := by
  unfold keptTo
  rw [List.range_succ, List.filter_append, List.map_append]
  simp [h]
theorem keptTo_length (D : DiskS) (keep : List Int) (k : Nat) : (keptTo D keep k).length ≤ k := by
  unfold keptTo
  rw [List.length_map]
  have := List.length_filter_le (fun i : Nat => decide ((i : Int) ∈ keep)) (List.range k)
  simpa using this

theorem refCrash {F : List Nat} {g : Nat} {D : DiskS} (a : Option Addr) (kn kc : Nat) (keep : List Int) (torn : Int) (w : World) (h : IsRef w F g D) (hp : D.pend.length ≤ 1000000000) (ht : torn ≤ 9223372036854775807) (hk : keep.length = kn) (hk2 : kn ≤ 1000000000)
    (hI : ∀ j v, keep[j]? = some v → ∃ b o, a = some ⟨b, o, none⟩ ∧ b < w.heap.size ∧ b ∉ F ∧ w.cell? ⟨b, o + j, none⟩ = some (.int .i64 v)) :
    Calls Tryz.prog 67 #[.pointer (some ⟨g, 0, none⟩), .slice a kn kc, .int .i64 torn] w fun e w' => e = .returned (.tuple #[]) ∧ MovedR F w w' g (D.crash keep torn) := by
  obtain ⟨gd, cs, r, A, c, h⟩ := h
  have c1 : w.cell? ⟨g, 1, none⟩ = some (.slice A D.pend.length c) := h.head.cell 1
  have H := hide h
  have HI := hide hI
  have HK := hide hk
  have HT := hide ht
  have hgl := h.head.lt
  obtain ⟨m, Em⟩ : ∃ m, Hid (D.pend.length = m) := ⟨_, rfl⟩
  rw [Em.out] at c1 hp
  clear h hI hk ht
  go_enter Tryz.func67, Tryz.ntmps67
  go_wp2_with fail
  go_loopw [6, 7] (fun v i wr => ∃ (k j : Nat) (A2 : Option Addr) (c2 : Nat), k ≤ m ∧ Hid (j = (keptTo D keep k).length) ∧ i = .int .i64 k ∧ v = .slice A2 j c2 ∧ Upd [] w wr ∧ wr.ownsRow w.heap.size 100 2 (.slice A2 j c2) j (pCells (keptTo D keep k)))
    (fun _ i _ => m - (intOf i).toNat)
  case atStart => exact ⟨0, 0, none, 0, Nat.zero_le _, show 0 = _ from rfl, rfl, rfl, Upd.refl _ _, World.ownsRow_nil _ _ _ _⟩
  case round =>
    obtain ⟨k, j, A2, c2, hkm, Ej, rfl, rfl, hu, hrow⟩ := hrel
    have HU := hide hu
    have HR := hide hrow
    have j1 : wr.cell? ⟨g, 1, none⟩ = some (.slice A m c) := by rw [(H.out.head.upd hu (by simp)).cell 1, ← Em.out]; rfl
    clear hu hrow
    by_cases hlt : k < m
    · obtain ⟨gp, rfl⟩ := chg_form H.out.pend (by rw [Em.out]; omega)
      obtain ⟨p, hpk⟩ : ∃ p, D.pend[k]? = some p := ⟨_, List.getElem?_eq_getElem (by rw [Em.out]; exact hlt)⟩
      obtain ⟨po, ps⟩ := p
      have hpe := own_kept H.out.pend HU.out (by simp)
      have q0 := (chg_cell hpe (pCells_get D.pend hpk).1).1
      have q1 := (chg_cell hpe (pCells_get D.pend hpk).2).1
      simp only at q0 q1
      have HPK := hide hpk
      have HA := hide (has_any a kn kc keep (k : Int) wr HK.out hk2 (fun i v hv => by
        obtain ⟨b, o, ha, hb, _, hc⟩ := HI.out i v hv
        exact ⟨b, o, ha, (HU.out.cell (p := ⟨b, o + i, none⟩) hb (by simp)).trans hc⟩))
      clear hpk hpe
      go_wp2_with fail
      refine HA.out.mono ?_
      rintro e w' ⟨rfl, rfl⟩
      by_cases hin : (k : Int) ∈ keep
      · have e : decide ((k : Int) ∈ keep) = true := decide_eq_true hin
        rw [e]
        have HY := hide hin
        clear e hin
        have hjk : j ≤ k := by rw [Ej.out]; exact keptTo_length D keep k
        have O1 := hide (HR.out.alloc (.cells #[.int .i64 (po : Int), .string ⟨ps.toArray⟩] 100))
        have HC := hide (cell_two_new wr (.int .i64 (po : Int)) (.string ⟨ps.toArray⟩) 100)
        have O2 := hide (show ∀ u ∈ [Value.int .i64 (po : Int), .string ⟨ps.toArray⟩], u.oneCell' = true by simp [Value.oneCell'])
        have O3 := hide (show j + 1 ≤ maxLen by unfold maxLen; omega)
        have O4 := hide (show (j + 1) * 24 ≤ 140737488355328 by omega)
        have O5 := hide (show w.heap.size ≤ (wr.alloc (.cells #[.int .i64 (po : Int), .string ⟨ps.toArray⟩] 100)).heap.size by have := HU.out.size; simp; omega)
        have O6 := hide (show ∀ x ∈ (A2.map (·.block)).toList, x ∈ [] ∨ w.heap.size ≤ x from fun x hx => .inr (HR.out.lt x (by rw [ownBlock_slice]; simpa using hx)).1)
        go_wp2_with (at_builtin; refine wpList_append_base rfl (.tmp 22) (.tmp 30) _ rfl w.heap.size 100 _ 2 24 Tryz.underlying65 info_change rfl (by decide) A2 j c2 (pCells (keptTo D keep k)) rfl O1.out ⟨wr.heap.size, 0, none⟩ 1 1 [.int .i64 (po : Int), .string ⟨ps.toArray⟩] rfl rfl HC.out O2.out O3.out O4.out O5.out ?_; intro A' c' w1 h1 u1 a1; have H1 := hide h1; have U1 := hide u1; clear h1 u1 a1)
        go_roundw
        case rel => exact ⟨k + 1, j + 1, A', c', by omega, show j + 1 = _ by rw [keptTo_yes HY.out HPK.out, List.length_append, ← Ej.out]; rfl, by go_num, rfl, (HU.out.alloc _).trans U1.out O6.out, by
          have e : pCells (keptTo D keep (k + 1)) = pCells (keptTo D keep k) ++ [.int .i64 (po : Int), .string ⟨ps.toArray⟩] := by rw [keptTo_yes HY.out HPK.out]; simp [pCells]
          rw [e]; exact H1.out⟩
        case measure => simp [intOf] <;> omega
      · have e : decide ((k : Int) ∈ keep) = false := decide_eq_false hin
        have HN := hide hin
        rw [e]
        clear e hin
        go_wp2_with fail
        go_roundw
        case rel => exact ⟨k + 1, j, A2, c2, by omega, show j = _ by rw [keptTo_no HN.out]; exact Ej.out, by go_num, rfl, HU.out, by rw [keptTo_no HN.out]; exact HR.out⟩
        case measure => simp [intOf] <;> omega
    · obtain rfl : k = m := by omega
      obtain ⟨wo, rfl⟩ : ∃ wo : World, wo = wr := ⟨_, rfl⟩
      obtain ⟨L, EL⟩ : ∃ L, Hid (keptTo D keep k = L) := ⟨_, rfl⟩
      rw [EL.out] at Ej HR
      have HLk := hide (show D.kept keep = L by rw [← keptTo_all, Em.out]; exact EL.out)
      have hjk : j ≤ k := by rw [Ej.out, ← EL.out]; exact keptTo_length D keep k
      have hlen0 : ∀ q, (puts D.sure ((lastTorn torn L).take q)).length = D.sure.length := fun q => by
        rw [puts_length]
        intro x hx
        rw [← HLk.out] at hx
        exact torn_fits H.out.ok keep torn x (List.mem_of_mem_take hx)
      have HLEN := hide hlen0
      have HS0 := hide (H.out.sure.upd HU.out (by simp))
      clear hlen0
      go_wp2_with fail
      go_loopw [8, 9] (fun i _ wr => ∃ q : Nat, q ≤ j ∧ i = .int .i64 q ∧ Upd [gd] wo wr ∧ Blk wr gd 5 (bCells (puts D.sure ((lastTorn torn L).take q)) ++ r))
        (fun i _ _ => j - (intOf i).toNat)
      case atStart => exact ⟨0, Nat.zero_le _, rfl, Upd.refl _ _, HS0.out⟩
      case round =>
        obtain ⟨q, hq, rfl, hu2, hg2⟩ := hrel
        have HU2 := hide hu2
        have HG2 := hide hg2
        clear hu2 hg2
        have j0 : wr.cell? ⟨g, 0, none⟩ = some (.slice (some ⟨gd, 0, none⟩) D.sure.length cs) := ((H.out.head.upd HU.out (by simp)).upd HU2.out (by simp; exact fun e => H.out.g_far (by simp [e]))).cell 0
        by_cases hqj : q < j
        · obtain ⟨ga, rfl⟩ := chg_form (own_zero HR.out) (by omega)
          have hga : w.heap.size ≤ ga := (HR.out.lt ga rfl).1
          have hrow := own_kept (own_zero HR.out) HU2.out (fun x hx hm => by
            have h1 := H.out.sure.lt
            simp [Value.ownBlock] at hx hm
            omega)
          obtain ⟨p, hpk⟩ : ∃ p, L[q]? = some p := ⟨_, List.getElem?_eq_getElem (by rw [← Ej.out]; exact hqj)⟩
          obtain ⟨po, ps⟩ := p
          have q0 := (chg_cell hrow (pCells_get L hpk).1).1
          have q1 := (chg_cell hrow (pCells_get L hpk).2).1
          simp only at q0 q1
          have hpf := kept_fits H.out.ok keep (po, ps) (by rw [HLk.out]; exact List.mem_of_getElem? hpk)
          simp only at hpf
          have HPF := hide hpf
          have HPK := hide hpk
          have hmx := H.out.ok.max
          have hszp : (⟨ps.toArray⟩ : ByteArray).size = ps.length := rfl
          clear hrow hpk hpf
          by_cases hc1 : q + 1 = j
          · subst hc1
            by_cases hc2 : 0 ≤ torn
            · by_cases hc3 : torn < ps.length
              · obtain ⟨x, Ex⟩ : ∃ x, Hid ((⟨ps.toArray⟩ : ByteArray).extract 0 torn.toNat = x) := ⟨_, rfl⟩
                have hxl : x.data.toList = ps.take torn.toNat := by rw [← Ex.out, Lib.extract_data]; simp
                have HX := hide hxl
                have hxs : x.size = (ps.take torn.toNat).length := by rw [← hxl, ← Lib.size_eq]
                have GET := hide (torn_get torn L HPK.out (p' := (po, x.data.toList)) (by rw [if_pos ⟨Ej.out, hc2⟩, hxl]))
                have AP := hide (apply_any (off := po) (c := cs) x _ r wr.drew HG2.out (HLEN.out q) (by have := HPF.out; rw [hxs]; simp; omega) hmx)
                have HT2 := HT.out
                clear hxl hxs
                go_wp2_with fail
                rw [Ex.out]
                go_still_tail 10, (by kernel_rfl)
                change wpList _ _ _ _ _ wr.drew
                go_wp2_with fail
                refine AP.out.mono ?_
                rintro e w5 ⟨rfl, g5, u5⟩
                have U5 := hide (HU2.out.drew.trans u5 (by simp))
                have G5 := hide (show Blk w5 gd 5 (bCells (puts D.sure ((lastTorn torn L).take (q + 1))) ++ r) by rw [puts_snoc _ _ GET.out]; exact g5)
                clear g5 u5 AP
                go_wp2_with fail
                go_roundw
                case rel => first | exact ⟨q + 1, by omega, by go_num, U5.out, G5.out⟩ | ((repeat apply Exists.intro); exact ⟨⟨q + 1, by omega, by go_num, U5.out, G5.out⟩, rfl⟩)
                case measure => simp [intOf] <;> omega
              · have GET := hide (torn_get torn L HPK.out (p' := (po, ps)) (by rw [if_pos ⟨by exact Ej.out, hc2⟩, List.take_of_length_le (show ps.length ≤ torn.toNat by omega)]))
                have AP := hide (apply_any (off := po) (c := cs) ⟨ps.toArray⟩ _ r wr.drew HG2.out (HLEN.out q) (by show po + ps.toArray.size ≤ _; have := HPF.out; simpa using this) hmx)
                go_wp2_with fail
                go_still_tail 10, (by kernel_rfl)
                change wpList _ _ _ _ _ wr.drew
                go_wp2_with fail
                refine AP.out.mono ?_
                rintro e w5 ⟨rfl, g5, u5⟩
                have U5 := hide (HU2.out.drew.trans u5 (by simp))
                have G5 := hide (show Blk w5 gd 5 (bCells (puts D.sure ((lastTorn torn L).take (q + 1))) ++ r) by rw [puts_snoc _ _ GET.out]; exact g5)
                clear g5 u5 AP
                go_wp2_with fail
                go_roundw
                case rel => first | exact ⟨q + 1, by omega, by go_num, U5.out, G5.out⟩ | ((repeat apply Exists.intro); exact ⟨⟨q + 1, by omega, by go_num, U5.out, G5.out⟩, rfl⟩)
                case measure => simp [intOf] <;> omega
            · have GET := hide (torn_get torn L HPK.out (p' := (po, ps)) (if_neg (fun h => by have := h.2; omega)))
              have AP := hide (apply_any (off := po) (c := cs) ⟨ps.toArray⟩ _ r wr.drew HG2.out (HLEN.out q) (by show po + ps.toArray.size ≤ _; have := HPF.out; simpa using this) hmx)
              go_wp2_with fail
              go_still_tail 10, (by kernel_rfl)
              change wpList _ _ _ _ _ wr.drew
              go_wp2_with fail
              refine AP.out.mono ?_
              rintro e w5 ⟨rfl, g5, u5⟩
              have U5 := hide (HU2.out.drew.trans u5 (by simp))
              have G5 := hide (show Blk w5 gd 5 (bCells (puts D.sure ((lastTorn torn L).take (q + 1))) ++ r) by rw [puts_snoc _ _ GET.out]; exact g5)
              clear g5 u5 AP
              go_wp2_with fail
              go_roundw
              case rel => first | exact ⟨q + 1, by omega, by go_num, U5.out, G5.out⟩ | ((repeat apply Exists.intro); exact ⟨⟨q + 1, by omega, by go_num, U5.out, G5.out⟩, rfl⟩)
              case measure => simp [intOf] <;> omega
          · have GET := hide (torn_get torn L HPK.out (p' := (po, ps)) (if_neg (fun h => hc1 (by rw [Ej.out]; exact h.1))))
            have AP := hide (apply_any (off := po) (c := cs) ⟨ps.toArray⟩ _ r wr.drew HG2.out (HLEN.out q) (by show po + ps.toArray.size ≤ _; have := HPF.out; simpa using this) hmx)
            go_wp2_with fail
            go_still_tail 10, (by kernel_rfl)
            change wpList _ _ _ _ _ wr.drew
            go_wp2_with fail
            refine AP.out.mono ?_
            rintro e w5 ⟨rfl, g5, u5⟩
            have U5 := hide (HU2.out.drew.trans u5 (by simp))
            have G5 := hide (show Blk w5 gd 5 (bCells (puts D.sure ((lastTorn torn L).take (q + 1))) ++ r) by rw [puts_snoc _ _ GET.out]; exact g5)
            clear g5 u5 AP
            go_wp2_with fail
            go_roundw
            case rel => first | exact ⟨q + 1, by omega, by go_num, U5.out, G5.out⟩ | ((repeat apply Exists.intro); exact ⟨⟨q + 1, by omega, by go_num, U5.out, G5.out⟩, rfl⟩)
            case measure => simp [intOf] <;> omega
        · obtain rfl : q = j := by omega
          have b1 := (H.out.head.upd HU.out (by simp)).upd HU2.out (by simp; exact fun e => H.out.g_far (by simp [e]))
          have k1 := b1.cell 1
          have k2 := b1.cell 2
          have k3 := b1.cell 3
          have f1 := b1.frozen 1
          have f2 := b1.frozen 2
          have f3 := b1.frozen 3
          have B1 := hide b1
          clear b1
          go_wp2_with fail
          go_end0
          have hh := ((B1.out.set_ 1 (.slice none 0 0)).set_ 2 (.bool false)).set_ 3 (.int .i64 0)
          have ug : Upd [g] wr (((wr.setCell ⟨g, 1, none⟩ (.slice none 0 0)).setCell ⟨g, 2, none⟩ (.bool false)).setCell ⟨g, 3, none⟩ (.int .i64 0)) := (((Upd.refl [g] wr).setCell (.inl (by simp)) _).setCell (.inl (by simp)) _).setCell (.inl (by simp)) _
          have hall : (lastTorn torn L).take q = lastTorn torn L := List.take_of_length_le (by simp [lastTorn]; rw [← Ej.out]; exact Nat.le_refl _)
          have hlen := HLEN.out q
          rw [hall] at hlen
          have hD : D.crash keep torn = { D.settled (puts D.sure (lastTorn torn L)) with off := false, left := 0 } := by unfold DiskS.crash; rw [HLk.out]
          rw [hD]
          have hF := H.out.fp
          refine ⟨rfl, [g, gd], ⟨gd, cs, r, none, 0, ⟨?_, ?_, ?_, World.ownsRow_nil _ _ _ _, rfl, ?_⟩⟩, ?_, ?_⟩
          · show Blk _ g _ [.slice (some ⟨gd, 0, none⟩) (puts D.sure (lastTorn torn L)).length cs, .slice none 0 0, .bool false, .int .i64 0]
            rw [hlen]
            exact hh
          · show Blk _ gd _ (bCells (puts D.sure (lastTorn torn L)) ++ r)
            rw [← hall]
            exact HG2.out.upd ug (by simp; exact fun e => H.out.g_far (by simp [e]))
          · show (puts D.sure (lastTorn torn L)).length + r.length = cs ∧ cs ≤ maxLen
            rw [hlen]
            exact H.out.cap
          · exact ⟨rfl, by show 1 ≤ (puts D.sure (lastTorn torn L)).length; rw [hlen]; exact H.out.ok.pos, by show (puts D.sure (lastTorn torn L)).length ≤ _; rw [hlen]; exact H.out.ok.max, by simp [DiskS.settled], Nat.zero_le _⟩
          · exact ((HU.out.mono (by simp)).trans HU2.out (by simp [hF])).trans ug (by simp [hF])
          · intro x hx
            simp at hx
            rcases hx with rfl | rfl
            · exact .inl (by simp [hF])
            · exact .inl (by simp [hF])
end Go.Proofs.YtafjolibfbccbaaGreatDoor

namespace Go.Proofs.YtafjolibfbccbaaGreatDoor
open Go.RowKit
set_option maxHeartbeats 1000000

theorem IsDisk.same {w w' : World} {F : List Nat} {g : Nat} {D : DiskS} (h : IsDisk w F g D) (hs : SameAt F w w') : IsDisk w' F g D := by
  obtain ⟨gd, gv, A, c, h⟩ := h
  have hF := h.fp
  exact ⟨gd, gv, A, c, ⟨hs.blk (by simp [hF]) h.head, hs.blk (by simp [hF]) h.sure, hs.blk (by simp [hF]) h.vis, own_same h.pend (hs.mono (by intro x hx; simp [hF]; simp at hx; simp [hx])), h.ne, h.fp, h.ok⟩⟩
theorem IsDisk.lt {w : World} {F : List Nat} {g : Nat} {D : DiskS} (h : IsDisk w F g D) : ∀ k ∈ F, k < w.heap.size := by
  obtain ⟨gd, gv, A, c, h⟩ := h
  exact h.lt
theorem IsRef.same {w w' : World} {F : List Nat} {g : Nat} {D : DiskS} (h : IsRef w F g D) (hs : SameAt F w w') : IsRef w' F g D := by
  obtain ⟨gd, cs, r, A, c, h⟩ := h
  have hF := h.fp
  exact ⟨gd, cs, r, A, c, ⟨hs.blk (by simp [hF]) h.head, hs.blk (by simp [hF]) h.sure, h.cap, own_same h.pend (hs.mono (by intro x hx; simp [hF]; simp at hx; simp [hx])), h.fp, h.ok⟩⟩

/-- Both disks: the program's at g with state D, the reference's at x with state R; the blocks X are none of theirs. -/
def Both (B : Nat) (X : List Nat) (w0 w : World) (g : Nat) (D : DiskS) (x : Nat) (R : DiskS) : Prop := ∃ F G, IsDisk w F g D ∧ IsRef w G x R ∧
  (∀ k ∈ F, B ≤ k ∧ k ∉ X ∧ k ∉ G) ∧ (∀ k ∈ G, B ≤ k ∧ k ∉ X) ∧ Below B w0 w ∧ B ≤ w.heap.size ∧ ∀ y ∈ X, y < w.heap.size

section
variable {B : Nat} {X : List Nat} {w0 w w' : World} {g x : Nat} {D D' R R' : DiskS}
theorem Both.one (h : Both B X w0 w g D x R) : DiskIn B X w0 w g D := by
  obtain ⟨F, G, h1, h2, d1, d2, h4, h5, h6⟩ := h
  exact ⟨F, h1, fun k hk => ⟨(d1 k hk).1, (d1 k hk).2.1⟩, h4, h5, h6⟩
theorem Both.step (h : Both B X w0 w g D x R) {l : List Nat} (hu : Upd l w w') (hl : ∀ y ∈ l, y ∈ X) (hlB : ∀ y ∈ l, B ≤ y) : Both B X w0 w' g D x R := by
  obtain ⟨F, G, h1, h2, d1, d2, h4, h5, h6⟩ := h
  exact ⟨F, G, h1.upd hu (fun k hk hm => (d1 k hk).2.1 (hl k hm)), h2.upd hu (fun k hk hm => (d2 k hk).2 (hl k hm)), d1, d2, h4.trans (hu.toBelow h5 hlB), Nat.le_trans h5 hu.size, fun y hy => Nat.lt_of_lt_of_le (h6 y hy) hu.size⟩
theorem Both.act {P : Program} {f : FuncId} {args : Array Value} {E : Ending} (h : Both B X w0 w g D x R)
    (hc : ∀ Y, DiskIn B Y w0 w g D → Calls P f args w fun e w' => e = E ∧ DiskIn B Y w0 w' g D' ∧ SameAt Y w w') :
    Calls P f args w fun e w' => e = E ∧ Both B X w0 w' g D' x R ∧ SameAt X w w' := by
  obtain ⟨F, G, h1, h2, d1, d2, h4, h5, h6⟩ := h
  refine (hc (X ++ G) ⟨F, h1, fun k hk => ⟨(d1 k hk).1, fun hm => ?_⟩, h4, h5, fun y hy => ?_⟩).mono ?_
  · simp only [List.mem_append] at hm
    rcases hm with hm | hm
    · exact (d1 k hk).2.1 hm
    · exact (d1 k hk).2.2 hm
  · simp only [List.mem_append] at hy
    rcases hy with hm | hm
    · exact h6 y hm
    · exact h2.lt y hm
  · rintro e w' ⟨he, ⟨F', k1, k2, k3, k4, k5⟩, hs⟩
    refine ⟨he, ⟨F', G, k1, h2.same (hs.mono (by intro y hy; simp [hy])), fun k hk => ⟨(k2 k hk).1, ?_, ?_⟩, d2, k3, k4, fun y hy => k5 y (by simp [hy])⟩, hs.mono (by intro y hy; simp [hy])⟩
    · intro hm; exact (k2 k hk).2 (by simp [hm])
    · intro hm; exact (k2 k hk).2 (by simp [hm])
theorem Both.actR {P : Program} {f : FuncId} {args : Array Value} {E : Ending} (h : Both B X w0 w g D x R)
    (hc : ∀ G, IsRef w G x R → Calls P f args w fun e w' => e = E ∧ MovedR G w w' x R') :
    Calls P f args w fun e w' => e = E ∧ Both B X w0 w' g D x R' ∧ SameAt X w w' := by
  obtain ⟨F, G, h1, h2, d1, d2, h4, h5, h6⟩ := h
  have l1 := h1.lt
  refine (hc G h2).mono ?_
  rintro e w' ⟨he, G', k1, k2, k3⟩
  have hs := k2.size
  refine ⟨he, ⟨F, G', h1.upd k2 (fun k hk => (d1 k hk).2.2), k1, fun k hk => ⟨(d1 k hk).1, (d1 k hk).2.1, fun hm => ?_⟩, fun k hk => ?_, h4.trans (k2.toBelow h5 (fun y hy => (d2 y hy).1)), by omega, fun y hy => Nat.lt_of_lt_of_le (h6 y hy) hs⟩, fun y hy => k2.block y (h6 y hy) (fun hm => (d2 y hm).2 hy)⟩
  · rcases k3 k hm with hm | hm
    · exact (d1 k hk).2.2 hm
    · have := l1 k hk; omega
  · rcases k3 k hk with hk | hk
    · exact d2 k hk
    · exact ⟨by omega, fun hm => by have := h6 k hm; omega⟩
theorem Both.mono {X' : List Nat} (h : Both B X w0 w g D x R) (hs : ∀ y ∈ X', y ∈ X) : Both B X' w0 w g D x R := by
  obtain ⟨F, G, h1, h2, d1, d2, h4, h5, h6⟩ := h
  exact ⟨F, G, h1, h2, fun k hk => ⟨(d1 k hk).1, fun hm => (d1 k hk).2.1 (hs k hm), (d1 k hk).2.2⟩, fun k hk => ⟨(d2 k hk).1, fun hm => (d2 k hk).2 (hs k hm)⟩, h4, h5, fun y hy => h6 y (hs y hy)⟩
theorem Both.more (h : Both B X w0 w g D x R) (hu : Upd [] w w') (y : Nat) (hy : w.heap.size ≤ y) (hy' : y < w'.heap.size) : Both B (y :: X) w0 w' g D x R := by
  obtain ⟨F, G, h1, h2, d1, d2, h4, h5, h6⟩ := h
  have l1 := h1.lt
  have l2 := h2.lt
  refine ⟨F, G, h1.upd hu (by simp), h2.upd hu (by simp), fun k hk => ⟨(d1 k hk).1, ?_, (d1 k hk).2.2⟩, fun k hk => ⟨(d2 k hk).1, ?_⟩, h4.trans (hu.toBelow h5 (by simp)), Nat.le_trans h5 hu.size, ?_⟩
  · have := l1 k hk
    simp only [List.mem_cons, not_or]
    exact ⟨by omega, (d1 k hk).2.1⟩
  · have := l2 k hk
    simp only [List.mem_cons, not_or]
    exact ⟨by omega, (d2 k hk).2⟩
  · intro z hz
    simp only [List.mem_cons] at hz
    rcases hz with rfl | hz
    · exact hy'
    · exact Nat.lt_of_lt_of_le (h6 z hz) hu.size
theorem Both.refs (h : Both B X w0 w g D x R) : ∃ G, IsRef w G x R ∧ ∀ k ∈ G, B ≤ k := by
  obtain ⟨F, G, h1, h2, d1, d2, h4, h5, h6⟩ := h
  exact ⟨G, h2, fun k hk => (d2 k hk).1⟩
theorem Both.start {w1 w2 : World} {F : List Nat} (h1 : DiskIn B [] w0 w1 g D) (h2 : IsRef w2 F x R) (hF : ∀ k ∈ F, w1.heap.size ≤ k) (hb : Below w1.heap.size w1 w2) : Both B [] w0 w2 g D x R := by
  obtain ⟨G, a1, a2, a3, a4, _⟩ := h1
  have u12 : Upd [] w1 w2 := (Upd.refl [] w1).below hb
  have l1 := a1.lt
  exact ⟨G, F, a1.upd u12 (by simp), h2, fun k hk => ⟨(a2 k hk).1, by simp, fun hm => by have := l1 k hk; have := hF k hm; omega⟩, fun k hk => ⟨by have := hF k hk; omega, by simp⟩, a3.trans (u12.toBelow a4 (by simp)), Nat.le_trans a4 u12.size, by simp⟩
end
end Go.Proofs.YtafjolibfbccbaaGreatDoor
