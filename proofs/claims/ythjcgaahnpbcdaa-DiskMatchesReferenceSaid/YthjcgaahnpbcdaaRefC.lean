/-
  The reference's Write.
-/
import Derived.Test.YthjcgaahnpbcdaaRefB
namespace Go.Proofs.Ythjcgaahnpbcdaa
open Go.RowKit
set_option maxHeartbeats 1000000

theorem info_change : (Try.prog.info? 80).map (fun i => (i.zero, i.size, i.bytes)) = some (some (.agg #[.int .i64 0, .string ⟨#[]⟩]), 2, 24) := by kernel_rfl

theorem refWritten_at {w w1 w3 : World} {F : List Nat} {g gd cs c c' : Nat} {r : List Value} {A A' : Option Addr} {D : DiskS} {o1 : Obj} {off : Nat} {s : ByteArray} (h : IsRefAt w F g gd cs r A c D) (hf : off + s.size ≤ D.sure.length)
    (H1 : w1.ownsRow 0 80 2 (.slice A' (D.pend.length + 1) c') (D.pend.length + 1) (pCells D.pend ++ [.int .i64 (off : Int), .string s]))
    (U1 : Upd (A.map (·.block)).toList (w.alloc o1) w1) (A1 : A'.map (·.block) = A.map (·.block) ∨ A'.map (·.block) = some (w.alloc o1).heap.size)
    (u3 : Upd [g] w1 w3) {o : Bool} {l : Nat} (hl : l ≤ 9223372036854775807)
    (h3 : Blk w3 g 43 [.slice (some ⟨gd, 0, none⟩) D.sure.length cs, .slice A' (D.pend.length + 1) c', .bool o, .int .i64 (l : Int)])
    (hw : D.written off s.data.toList = { D with off := o, left := l, pend := D.pend ++ [(off, s.data.toList)], vis := put D.vis off s.data.toList }) : MovedR F w w3 g (D.written off s.data.toList) := by
  have hF := h.fp
  have e0 : Upd F w (w.alloc o1) := (Upd.refl F w).alloc _
  have e1 : Upd F w w1 := e0.trans U1 (fun x hx => .inl (by rw [hF]; simp at hx; simp [hx]))
  have e4 : Upd F w w3 := e1.trans u3 (by simp [hF])
  have s0 : (w.alloc o1).heap.size = w.heap.size + 1 := by simp
  have hA : ∀ x, A'.map (·.block) = some x → x ≠ g ∧ x ≠ gd := by
    intro x hx
    rcases A1 with e | e
    · rw [e] at hx
      exact ⟨fun e => h.g_far (by subst e; simp [hx]), fun e => h.d_far (by subst e; simp [hx])⟩
    · rw [e, s0] at hx
      injection hx with hx
      have a := h.head.lt
      have b := h.sure.lt
      omega
  have c1 : Upd (g :: (A.map (·.block)).toList) w w3 := (((Upd.refl _ w).alloc o1).trans U1 (fun x hx => .inl (by simp at hx; simp [hx]))).trans u3 (by simp)
  have p3 := own_kept H1 u3 (fun k hk => by rw [ownBlock_slice] at hk; simp [(hA k hk).1])
  refine ⟨g :: gd :: (A'.map (·.block)).toList, ⟨gd, cs, r, A', c', ?_⟩, e4, ?_⟩
  · rw [hw]
    have lv : (put D.vis off s.data.toList).length = D.vis.length := put_length _ _ _ (by rw [h.ok.len, ← Lib.size_eq]; exact hf)
    refine ⟨?_, h.sure.upd c1 h.d_far, h.cap, ?_, rfl, ⟨lv.trans h.ok.len, h.ok.pos, h.ok.max, ?_, hl⟩⟩
    · simpa using h3
    · have e : pCells (D.pend ++ [(off, s.data.toList)]) = pCells D.pend ++ [.int .i64 (off : Int), .string s] := by simp [pCells]
      simp only [List.length_append, List.length_cons, List.length_nil, e]
      exact p3
    · intro p hp
      simp only [List.mem_append, List.mem_singleton] at hp
      rcases hp with hp | rfl
      · exact h.ok.fits p hp
      · simp only [← Lib.size_eq]; exact hf
  · intro k hk
    simp only [List.mem_cons] at hk
    rcases hk with rfl | rfl | hk
    · exact .inl (by simp [hF])
    · exact .inl (by simp [hF])
    · rcases A1 with e | e
      · rw [e] at hk; exact .inl (by rw [hF]; simp at hk; simp [hk])
      · rw [e, s0] at hk
        simp at hk
        exact .inr (by omega)

theorem refWrite_good {F : List Nat} {g : Nat} {D : DiskS} (off : Nat) (s : ByteArray) (w : World) (h : IsRef w F g D) (ho : D.off = false) (hb : off ≤ D.sure.length ∧ s.size ≤ D.sure.length - off) (hp : D.pend.length ≤ 1000000000) :
    Calls Try.prog 30 #[.pointer (some ⟨g, 0, none⟩), .int .i64 (off : Int), .string s] w fun e w' => e = .returned (.int .i64 0) ∧ MovedR F w w' g (D.written off s.data.toList) := by
  obtain ⟨gd, cs, r, A, c, h⟩ := h
  have hm := h.ok.max
  have c0 : w.cell? ⟨g, 0, none⟩ = some (.slice (some ⟨gd, 0, none⟩) D.sure.length cs) := h.head.cell 0
  have c1 : w.cell? ⟨g, 1, none⟩ = some (.slice A D.pend.length c) := h.head.cell 1
  have c2 : w.cell? ⟨g, 2, none⟩ = some (.bool false) := by rw [← ho]; exact h.head.cell 2
  have f1 := h.head.frozen 1
  have Ho := hide ho
  have H := hide h
  have Hb := hide hb
  have Hp := hide hp
  have B0 := hide (h.head.alloc (Obj.cells #[Value.int IntKind.i64 (off : Int), Value.string s] 80))
  have O1 := hide (show World.ownsRow (w.alloc (Obj.cells #[Value.int IntKind.i64 (off : Int), Value.string s] 80)) 0 80 2 (.slice A D.pend.length c) D.pend.length (pCells D.pend) from h.pend.alloc _)
  have HC := hide (cell_two_new w (.int .i64 (off : Int)) (.string s) 80)
  have O2 := hide (show ∀ u ∈ [Value.int .i64 (off : Int), .string s], u.oneCell' = true by simp [Value.oneCell'])
  have O3 := hide (show D.pend.length + 1 ≤ maxLen by unfold maxLen; omega)
  have O4 := hide (show (D.pend.length + 1) * 24 ≤ 140737488355328 by omega)
  have O5 := hide (show g ∉ (A.map (·.block)).toList from fun hm => h.g_far (by simp at hm; simp [hm]))
  have hl := h.ok.left
  obtain ⟨n, En⟩ : ∃ n, Hid (D.sure.length = n) := ⟨_, rfl⟩
  rw [En.out] at hb hm c0
  cases hleft : D.left with
  | zero =>
    have Z := hide hleft
    have HL := hide hl
    clear h ho hp hl hleft
    go_enter Try.func30, Try.ntmps30
    go_wp2_with (at_builtin; (refine wpList_append_base rfl (.tmp 38) (.tmp 42) _ rfl 0 80 _ 2 24 Try.underlying41 info_change rfl (by decide) A D.pend.length c (pCells D.pend) rfl O1.out ⟨w.heap.size, 0, none⟩ 1 1 [.int .i64 (off : Int), .string s] rfl rfl HC.out O2.out O3.out O4.out (Nat.zero_le _) ?_; intro A' c' w1 h1 u1 a1; have H1 := hide h1; have U1 := hide u1; have A1 := hide a1; have b1 := B0.out.upd u1 O5.out; have B1 := hide b1; have k3 : w1.cell? ⟨g, 3, none⟩ = some (.int .i64 0) := (by have := b1.cell 3; rw [Z.out] at this; exact this); have k1 := b1.cell 1; have k5 := b1.frozen 1; clear h1 u1 a1 b1))
    go_ret
    have hb := Hb.out
    refine ⟨rfl, refWritten_at (o := false) (l := 0) H.out (by omega) H1.out U1.out A1.out ((Upd.refl [g] w1).setCell (p := ⟨g, 1, none⟩) (.inl (by simp)) (.slice A' (D.pend.length + 1) c')) (by omega) ?_ ?_⟩
    · have k := B1.out.set_ 1 (.slice A' (D.pend.length + 1) c')
      rw [Ho.out, Z.out] at k
      exact k
    · have z := Z.out
      have o := Ho.out
      cases D
      simp only at z o
      subst z o
      simp [DiskS.written, DiskS.used]
  | succ m =>
    have Z := hide hleft
    have HL := hide hl
    by_cases hm0 : m = 0
    · subst hm0
      clear h ho hp hl hleft
      go_enter Try.func30, Try.ntmps30
      go_wp2_with (at_builtin; (refine wpList_append_base rfl (.tmp 38) (.tmp 42) _ rfl 0 80 _ 2 24 Try.underlying41 info_change rfl (by decide) A D.pend.length c (pCells D.pend) rfl O1.out ⟨w.heap.size, 0, none⟩ 1 1 [.int .i64 (off : Int), .string s] rfl rfl HC.out O2.out O3.out O4.out (Nat.zero_le _) ?_; intro A' c' w1 h1 u1 a1; have H1 := hide h1; have U1 := hide u1; have A1 := hide a1; have b1 := B0.out.upd u1 O5.out; have B1 := hide b1; have k3 : w1.cell? ⟨g, 3, none⟩ = some (.int .i64 1) := (by have := b1.cell 3; rw [Z.out] at this; exact this); have k1 := b1.cell 1; have k5 := b1.frozen 1; have k6 := b1.frozen 3; have k7 := b1.frozen 2; have k8 := b1.cell 2; clear h1 u1 a1 b1))
      go_ret
      have hb := Hb.out
      refine ⟨rfl, refWritten_at (o := true) (l := 0) H.out (by omega) H1.out U1.out A1.out ((((Upd.refl [g] w1).setCell (p := ⟨g, 1, none⟩) (.inl (by simp)) (.slice A' (D.pend.length + 1) c')).setCell (p := ⟨g, 3, none⟩) (.inl (by simp)) (.int .i64 ((0 : Nat) : Int))).setCell (p := ⟨g, 2, none⟩) (.inl (by simp)) (.bool true)) (by have a := HL.out; have b := Z.out; omega) ?_ ?_⟩
      · have k := ((B1.out.set_ 1 (.slice A' (D.pend.length + 1) c')).set_ 3 (.int .i64 ((0 : Nat) : Int))).set_ 2 (.bool true)
        rw [Ho.out] at k
        exact k
      · have z := Z.out
        have o := Ho.out
        cases D
        simp only at z o
        subst z o
        simp [DiskS.written, DiskS.used]
    · have hm1 : ¬ (m : Int) = 0 := by omega
      have hmb : m + 1 ≤ 9223372036854775807 := by have a := HL.out; have b := Z.out; omega
      clear h ho hp hl hleft
      go_enter Try.func30, Try.ntmps30
      go_wp2_with (at_builtin; (refine wpList_append_base rfl (.tmp 38) (.tmp 42) _ rfl 0 80 _ 2 24 Try.underlying41 info_change rfl (by decide) A D.pend.length c (pCells D.pend) rfl O1.out ⟨w.heap.size, 0, none⟩ 1 1 [.int .i64 (off : Int), .string s] rfl rfl HC.out O2.out O3.out O4.out (Nat.zero_le _) ?_; intro A' c' w1 h1 u1 a1; have H1 := hide h1; have U1 := hide u1; have A1 := hide a1; have b1 := B0.out.upd u1 O5.out; have B1 := hide b1; have k3 : w1.cell? ⟨g, 3, none⟩ = some (.int .i64 ((m : Int) + 1)) := (by have := b1.cell 3; rw [Z.out] at this; exact this); have k1 := b1.cell 1; have k5 := b1.frozen 1; have k6 := b1.frozen 3; have k7 := b1.frozen 2; have k8 := b1.cell 2; clear h1 u1 a1 b1))
      go_ret
      have hb := Hb.out
      refine ⟨rfl, refWritten_at (o := false) (l := m) H.out (by omega) H1.out U1.out A1.out (((Upd.refl [g] w1).setCell (p := ⟨g, 1, none⟩) (.inl (by simp)) (.slice A' (D.pend.length + 1) c')).setCell (p := ⟨g, 3, none⟩) (.inl (by simp)) (.int .i64 (m : Int))) (by have a := HL.out; have b := Z.out; omega) ?_ ?_⟩
      · have k := (B1.out.set_ 1 (.slice A' (D.pend.length + 1) c')).set_ 3 (.int .i64 (m : Int))
        rw [Ho.out] at k
        exact k
      · have z := Z.out
        have o := Ho.out
        cases D
        simp only at z o
        subst z o
        simp [DiskS.written, DiskS.used, hm0]

theorem refWrite {F : List Nat} {g : Nat} {D : DiskS} (off : Int) (s : ByteArray) (w : World) (h : IsRef w F g D) (hp : D.pend.length ≤ 1000000000) :
    Calls Try.prog 30 #[.pointer (some ⟨g, 0, none⟩), .int .i64 off, .string s] w fun e w' => e = .returned (.int .i64 (D.write off s.data.toList).2) ∧ MovedR F w w' g (D.write off s.data.toList).1 := by
  have hs : s.data.toList.length = s.size := by rw [← Lib.size_eq]
  cases ho : D.off with
  | true =>
    obtain ⟨gd, cs, r, A, c, h⟩ := h
    have hc : w.cell? ⟨g, 2, none⟩ = some (.bool true) := by rw [← ho]; exact h.head.cell 2
    have e2 : D.write off s.data.toList = (D, 331) := by simp [DiskS.write, ho]
    rw [e2]
    have H := hide h
    clear h ho e2 hs hp
    go_enter Try.func30, Try.ntmps30
    go_wp2_with fail
    go_ret
    exact ⟨rfl, H.out.moved (Upd.refl _ _)⟩
  | false =>
    cases hi : inB D.sure.length off s.size with
    | false =>
      obtain ⟨gd, cs, r, A, c, h⟩ := h
      have hc : w.cell? ⟨g, 2, none⟩ = some (.bool false) := by rw [← ho]; exact h.head.cell 2
      have c0 : w.cell? ⟨g, 0, none⟩ = some (.slice (some ⟨gd, 0, none⟩) D.sure.length cs) := h.head.cell 0
      have hm := h.ok.max
      have e2 : D.write off s.data.toList = (D, 330) := by simp [DiskS.write, ho, hi]
      rw [e2]
      have H := hide h
      have hn : ¬ (0 ≤ off ∧ 0 ≤ (s.size : Int) ∧ off ≤ D.sure.length ∧ (s.size : Int) ≤ D.sure.length - off) := by simpa [inB] using hi
      obtain ⟨n, En⟩ : ∃ n, D.sure.length = n := ⟨_, rfl⟩
      rw [En] at c0 hm hn
      clear h ho e2 hs hp hi En
      by_cases h1 : off < 0
      · clear hn
        go_enter Try.func30, Try.ntmps30
        go_wp2_with fail
        go_ret
        exact ⟨rfl, H.out.moved (Upd.refl _ _)⟩
      · by_cases h2 : (n : Int) < off
        · clear hn
          go_enter Try.func30, Try.ntmps30
          go_wp2_with fail
          go_ret
          exact ⟨rfl, H.out.moved (Upd.refl _ _)⟩
        · have h3 : (n : Int) - off < s.size := by omega
          clear hn
          go_enter Try.func30, Try.ntmps30
          go_wp2_with fail
          go_ret
          exact ⟨rfl, H.out.moved (Upd.refl _ _)⟩
    | true =>
      have h0 : 0 ≤ off ∧ 0 ≤ (s.size : Int) ∧ off ≤ D.sure.length ∧ (s.size : Int) ≤ D.sure.length - off := by simpa [inB] using hi
      obtain ⟨o, rfl⟩ : ∃ m : Nat, off = m := ⟨off.toNat, by omega⟩
      have e2 : D.write o s.data.toList = (D.written o s.data.toList, 0) := by simp [DiskS.write, ho, hi]
      rw [e2]
      exact refWrite_good o s w h ho (by omega) hp
end Go.Proofs.Ythjcgaahnpbcdaa
