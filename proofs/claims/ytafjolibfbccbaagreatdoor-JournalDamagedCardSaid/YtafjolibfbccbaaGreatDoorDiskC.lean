/-
  The contract of the disk's Write.
-/
import Derived.Test.YtafjolibfbccbaaGreatDoorDiskB
namespace Go.Proofs.YtafjolibfbccbaaGreatDoor
open Go.RowKit
set_option maxRecDepth 100000
set_option maxHeartbeats 400000

theorem info_write : (Tryz.prog.info? 92).map (fun i => (i.zero, i.size, i.bytes)) = some (some (.agg #[.int .i64 0, .string ⟨#[]⟩]), 2, 24) := by kernel_rfl

theorem written_at {w w1 w2 w3 : World} {F : List Nat} {g gd gv c c' : Nat} {A A' : Option Addr} {D : DiskS} {o1 o2 : Obj} {off : Nat} {s : ByteArray} (h : IsDiskAt w F g gd gv A c D) (hf : off + s.size ≤ D.sure.length)
    (H1 : w1.ownsRow 0 92 2 (.slice A' (D.pend.length + 1) c') (D.pend.length + 1) (pCells D.pend ++ [.int .i64 (off : Int), .string s]))
    (U1 : Upd (A.map (·.block)).toList (((w.alloc o1).alloc o2).drew) w1) (A1 : A'.map (·.block) = A.map (·.block) ∨ A'.map (·.block) = some (((w.alloc o1).alloc o2).drew).heap.size)
    (v2 : Blk w2 gv 5 (bCells (put D.vis off s.data.toList))) (u2 : Upd [gv] ((w1.setCell ⟨g, 4, none⟩ (.slice A' (D.pend.length + 1) c')).drew) w2)
    (u3 : Upd [g] w2 w3) {o : Bool} {l : Nat} (hl : l ≤ 9223372036854775807)
    (h3 : Blk w3 g 97 [.bool o, .int .i64 (l : Int), .slice (some ⟨gd, 0, none⟩) D.sure.length D.sure.length, .slice (some ⟨gv, 0, none⟩) D.sure.length D.sure.length, .slice A' (D.pend.length + 1) c'])
    (hw : D.written off s.data.toList = { D with off := o, left := l, pend := D.pend ++ [(off, s.data.toList)], vis := put D.vis off s.data.toList }) : Moved F w w3 g (D.written off s.data.toList) := by
  have hF := h.fp
  have e0 : Upd F w (((w.alloc o1).alloc o2).drew) := (((Upd.refl F w).alloc _).alloc _).drew
  have e1 : Upd F w w1 := e0.trans U1 (fun x hx => .inl (by rw [hF]; simp at hx; simp [hx]))
  have e2 : Upd F w ((w1.setCell ⟨g, 4, none⟩ (.slice A' (D.pend.length + 1) c')).drew) := (e1.setCell (.inl (by simp [hF])) _).drew
  have e3 : Upd F w w2 := e2.trans u2 (by simp [hF])
  have e4 : Upd F w w3 := e3.trans u3 (by simp [hF])
  have s0 : (((w.alloc o1).alloc o2).drew).heap.size = w.heap.size + 1 + 1 := by show ((w.alloc o1).alloc o2).heap.size = _; simp
  -- the new row of pending writes lies in none of the disk's other blocks
  have hA : ∀ x, A'.map (·.block) = some x → x ≠ g ∧ x ≠ gd ∧ x ≠ gv := by
    intro x hx
    rcases A1 with e | e
    · rw [e] at hx
      exact ⟨fun e => h.g_far (by subst e; simp [hx]), fun e => h.d_far (by subst e; simp [hx]), fun e => h.v_far (by subst e; simp [hx])⟩
    · rw [e, s0] at hx
      injection hx with hx
      have a := h.head.lt
      have b := h.sure.lt
      have c := h.vis.lt
      omega
  have c1 : Upd (g :: gv :: (A.map (·.block)).toList) w w3 :=
    ((((((Upd.refl _ w).alloc o1).alloc o2).drew.trans U1 (fun x hx => .inl (by simp at hx; simp [hx]))).setCell (p := ⟨g, 4, none⟩) (.inl (by simp)) (.slice A' (D.pend.length + 1) c')).drew.trans u2 (by simp)).trans u3 (by simp)
  have p3 : w3.ownsRow 0 92 2 (.slice A' (D.pend.length + 1) c') (D.pend.length + 1) (pCells D.pend ++ [.int .i64 (off : Int), .string s]) := by
    have q1 := own_kept H1 ((Upd.refl [g] w1).setCell (p := ⟨g, 4, none⟩) (.inl (by simp)) (.slice A' (D.pend.length + 1) c')) (fun k hk => by rw [ownBlock_slice] at hk; simp [(hA k hk).1])
    have q2 := own_kept (show World.ownsRow ((w1.setCell ⟨g, 4, none⟩ (.slice A' (D.pend.length + 1) c')).drew) _ _ _ _ _ _ from q1) u2 (fun k hk => by rw [ownBlock_slice] at hk; simp [(hA k hk).2.2])
    exact own_kept q2 u3 (fun k hk => by rw [ownBlock_slice] at hk; simp [(hA k hk).1])
  refine ⟨g :: gd :: gv :: (A'.map (·.block)).toList, ⟨gd, gv, A', c', ?_⟩, e4, ?_⟩
  · rw [hw]
    have lv : (put D.vis off s.data.toList).length = D.vis.length := put_length _ _ _ (by rw [h.ok.len, ← Lib.size_eq]; exact hf)
    refine ⟨?_, h.sure.upd c1 h.d_far, v2.upd u3 (fun hm => h.v_far (by simp at hm; simp [hm])), ?_, h.ne, rfl, ⟨lv.trans h.ok.len, h.ok.pos, h.ok.max, ?_, hl⟩⟩
    · simpa using h3
    · have e : pCells (D.pend ++ [(off, s.data.toList)]) = pCells D.pend ++ [.int .i64 (off : Int), .string s] := by simp [pCells]
      simp only [List.length_append, List.length_cons, List.length_nil, e]
      exact p3
    · intro p hp
      simp only [List.mem_append, List.mem_singleton] at hp
      rcases hp with hp | rfl
      · exact h.ok.fits p hp
      · simp only [← Lib.size_eq]; exact hf
  · intro k hk
    simp only [List.mem_cons] at hk
    rcases hk with rfl | rfl | rfl | hk
    · exact .inl (by simp [hF])
    · exact .inl (by simp [hF])
    · exact .inl (by simp [hF])
    · rcases A1 with e | e
      · rw [e] at hk; exact .inl (by rw [hF]; simp at hk; simp [hk])
      · rw [e, s0] at hk
        simp at hk
        exact .inr (by omega)

/-- append and onto: what the two middle statements make of the disk. -/
theorem write_good {F : List Nat} {g : Nat} {D : DiskS} (off : Nat) (s : ByteArray) (w : World) (h : IsDisk w F g D) (ho : D.off = false) (hi : inB D.sure.length off s.size = true) (hp : D.pend.length ≤ 1000000000) :
    Calls Tryz.prog 13 #[.pointer (some ⟨g, 0, none⟩), .int .i64 (off : Int), .string s] w fun e w' => e = .returned (.int .i64 0) ∧ Moved F w w' g (D.written off s.data.toList) := by
  obtain ⟨gd, gv, A, c, h⟩ := h
  have hc : w.cell? ⟨g, 0, none⟩ = some (.bool false) := by rw [← ho]; exact h.head.cell 0
  have c2 : w.cell? ⟨g, 2, none⟩ = some (.slice (some ⟨gd, 0, none⟩) D.sure.length D.sure.length) := h.head.cell 2
  have hm := h.ok.max
  have I := inside_any off s.size w c2 hm
  rw [hi] at I
  have hb : off ≤ D.sure.length ∧ s.size ≤ D.sure.length - off := by
    have : 0 ≤ (off : Int) ∧ 0 ≤ (s.size : Int) ∧ (off : Int) ≤ D.sure.length ∧ (s.size : Int) ≤ D.sure.length - off := by simpa [inB] using hi
    omega
  have hgl := h.head.lt
  have I' := hide I
  have Ho := hide ho
  have H := hide h
  have Hb := hide hb
  have Hp := hide hp
  have Hm := hide hm
  have c4 : w.cell? ⟨g, 4, none⟩ = some (.slice A D.pend.length c) := h.head.cell 4
  have f4 := h.head.frozen 4
  have B0 := hide (((h.head.alloc (Obj.cells #[Value.int IntKind.i64 (off : Int), Value.string s] 92)).alloc (Obj.cells #[Value.int IntKind.i64 (off : Int), Value.string s] 92)).drew)
  have O1 := hide (show World.ownsRow ((w.alloc (Obj.cells #[Value.int IntKind.i64 (off : Int), Value.string s] 92)).alloc (Obj.cells #[Value.int IntKind.i64 (off : Int), Value.string s] 92)).drew 0 92 2 (.slice A D.pend.length c) D.pend.length (pCells D.pend) from (h.pend.alloc _).alloc _)
  have HC := hide (show ∀ j u, [Value.int .i64 (off : Int), .string s][j]? = some u → ((w.alloc (Obj.cells #[Value.int IntKind.i64 (off : Int), Value.string s] 92)).alloc (Obj.cells #[Value.int IntKind.i64 (off : Int), Value.string s] 92)).drew.cell? ((⟨w.heap.size + 1, 0, none⟩ : Addr).add j) = some u by
    have := cell_two_new (w.alloc (Obj.cells #[Value.int IntKind.i64 (off : Int), Value.string s] 92)) (.int .i64 (off : Int)) (.string s) 92
    rw [World.size_alloc] at this
    exact this)
  have O2 := hide (show ∀ u ∈ [Value.int .i64 (off : Int), .string s], u.oneCell' = true by simp [Value.oneCell'])
  have O3 := hide (show D.pend.length + 1 ≤ maxLen by unfold maxLen; omega)
  have O4 := hide (show (D.pend.length + 1) * 24 ≤ 140737488355328 by omega)
  have O5 := hide (show g ∉ (A.map (·.block)).toList from fun hm => h.g_far (by simp at hm; simp [hm]))
  have V0 := hide (((h.vis.alloc (Obj.cells #[Value.int IntKind.i64 (off : Int), Value.string s] 92)).alloc (Obj.cells #[Value.int IntKind.i64 (off : Int), Value.string s] 92)).drew)
  have D0 := hide (((h.sure.alloc (Obj.cells #[Value.int IntKind.i64 (off : Int), Value.string s] 92)).alloc (Obj.cells #[Value.int IntKind.i64 (off : Int), Value.string s] 92)).drew)
  have L0 := hide (((Blk.new w 92 [Value.int IntKind.i64 (off : Int), Value.string s]).alloc (Obj.cells #[Value.int IntKind.i64 (off : Int), Value.string s] 92)).drew)
  have O6 := hide (show w.heap.size ∉ (A.map (·.block)).toList from fun hm => by
    have := h.lt w.heap.size (by rw [h.fp]; simp at hm; simp [hm])
    omega)
  have O7 := hide (show gv ∉ (A.map (·.block)).toList from fun hm => h.v_far (by simp at hm; simp [hm]))
  have O8 := hide (show gd ∉ (A.map (·.block)).toList from fun hm => h.d_far (by simp at hm; simp [hm]))
  have O9 := hide (show gv ≠ g from fun e => h.v_far (by simp [e]))
  have O10 := hide (show gd ≠ g from fun e => h.d_far (by simp [e]))
  have O11 := hide (show D.vis.length = D.sure.length from h.ok.len)
  clear h ho hi I hb hp hm
  go_enter Tryz.func13, Tryz.ntmps13
  go_wp2_with (first
    | (go_at_call 46; refine (check_on _ hc).mono ?_; rintro e w' ⟨rfl, rfl⟩)
    | (go_at_call 47; refine I'.out.mono ?_; rintro e w' ⟨rfl, rfl⟩))
  go_region_law (refine step_append_row rfl (.tmp 27) (.tmp 29) _ rfl 92 _ 2 24 Tryz.underlying93 info_write rfl (by decide) A D.pend.length c (pCells D.pend) rfl O1.out ⟨w.heap.size + 1, 0, none⟩ 1 1 [.int .i64 (off : Int), .string s] rfl rfl HC.out O2.out O3.out O4.out ?_; intro A' c' w1 h1 u1 a1; have H1 := hide h1; have U1 := hide u1; have A1 := hide a1; have b1 := B0.out.upd u1 O5.out; have B1 := hide b1; have k3 := b1.cell 3; have k4 := b1.cell 4; have k5 := b1.frozen 4; have l1 := L0.out.upd u1 O6.out; have j0 := l1.cell 0; have j1 := l1.cell 1; have V1 := hide (V0.out.upd u1 O7.out); have D1 := hide (D0.out.upd u1 O8.out);  clear h1 u1 a1 b1 l1)
  all_goals
    have ON := hide (onto_any (g := gv) (off := off) (n := D.sure.length) s D.vis ((w1.setCell ⟨g, 4, none⟩ (.slice A' (D.pend.length + 1) c')).drew) ((V1.out.far (p := ⟨g, 4, none⟩) O9.out _).drew) O11.out (by have := Hb.out; omega) Hm.out)
    go_wp2
    go_region_with ((go_at_call 48; refine ON.out.mono ?_; rintro e w2 ⟨rfl, v2, u2⟩))
  all_goals
    have k2 := ((B1.out.set_ 4 (.slice A' (D.pend.length + 1) c')).drew).upd u2 (by simp; exact Ne.symm O9.out)
    have V2 := hide v2
    have U2 := hide u2
    have K2 := hide k2
    clear k2 v2 u2 ON
    have hl := H.out.ok.left
    cases hleft : D.left with
    | zero =>
      have z1 : w2.cell? ⟨g, 1, none⟩ = some (.int .i64 0) := by have := K2.out.cell 1; rw [hleft] at this; exact this
      have Z := hide hleft
      have HL := hide hl
      clear hleft hl
      go_wp2_with (go_at_call 49; refine (used_none _ z1).mono ?_; rintro e w' ⟨rfl, rfl⟩)
      go_ret
      have hb := Hb.out
      refine ⟨rfl, written_at (w3 := w2) (o := false) (l := 0) H.out (by omega) H1.out U1.out A1.out V2.out U2.out (Upd.refl _ _) (by omega) ?_ ?_⟩
      · have k := K2.out
        rw [Ho.out, Z.out] at k
        exact k
      · have z := Z.out
        have o := Ho.out
        cases D
        simp only at z o
        subst z o
        simp [DiskS.written, DiskS.used]
    | succ m =>
      have z0 : w2.cell? ⟨g, 0, none⟩ = some (.bool false) := by have := K2.out.cell 0; rw [Ho.out] at this; exact this
      have z1 : w2.cell? ⟨g, 1, none⟩ = some (.int .i64 ((m : Int) + 1)) := by have := K2.out.cell 1; rw [hleft] at this; exact this
      have US := hide (used_some w2 z0 z1 (K2.out.frozen 0) (K2.out.frozen 1) (by omega))
      have Z := hide hleft
      have HL := hide hl
      clear hleft hl z0 z1
      go_wp2_with (go_at_call 49; refine US.out.mono ?_; rintro e w' ⟨rfl, rfl⟩)
      go_ret
      have hb := Hb.out
      refine ⟨rfl, written_at (o := decide (m = 0)) (l := m) H.out (by omega) H1.out U1.out A1.out V2.out U2.out (((Upd.refl [g] w2).setCell (.inl (by simp)) _).setCell (.inl (by simp)) _) (by have a := HL.out; have b := Z.out; omega) ?_ ?_⟩
      · have k := (K2.out.set_ 1 (.int .i64 (m : Int))).set_ 0 (.bool (decide (m = 0)))
        exact k
      · have z := Z.out
        have o := Ho.out
        cases D
        simp only at z o
        subst z o
        simp [DiskS.written, DiskS.used]

/-- Write, whatever the state and the arguments. -/
theorem write_any {F : List Nat} {g : Nat} {D : DiskS} (off : Int) (s : ByteArray) (w : World) (h : IsDisk w F g D) (hp : D.pend.length ≤ 1000000000) :
    Calls Tryz.prog 13 #[.pointer (some ⟨g, 0, none⟩), .int .i64 off, .string s] w fun e w' => e = .returned (.int .i64 (D.write off s.data.toList).2) ∧ Moved F w w' g (D.write off s.data.toList).1 := by
  have hs : s.data.toList.length = s.size := by rw [← Lib.size_eq]
  cases ho : D.off with
  | true =>
    obtain ⟨gd, gv, A, c, h⟩ := h
    have hc : w.cell? ⟨g, 0, none⟩ = some (.bool true) := by rw [← ho]; exact h.head.cell 0
    have e2 : D.write off s.data.toList = (D, 331) := by simp [DiskS.write, ho]
    rw [e2]
    have H := hide h
    clear h ho e2 hs hp
    go_enter Tryz.func13, Tryz.ntmps13
    go_wp2_with (go_at_call 46; refine (check_off _ hc).mono ?_; rintro e w' ⟨rfl, rfl⟩)
    go_ret
    exact ⟨rfl, H.out.moved (Upd.refl _ _)⟩
  | false =>
    cases hi : inB D.sure.length off s.size with
    | false =>
      obtain ⟨gd, gv, A, c, h⟩ := h
      have hc : w.cell? ⟨g, 0, none⟩ = some (.bool false) := by rw [← ho]; exact h.head.cell 0
      have c2 : w.cell? ⟨g, 2, none⟩ = some (.slice (some ⟨gd, 0, none⟩) D.sure.length D.sure.length) := h.head.cell 2
      have hm := h.ok.max
      have I := inside_any off s.size w c2 hm
      rw [hi] at I
      have e2 : D.write off s.data.toList = (D, 330) := by simp [DiskS.write, ho, hi]
      rw [e2]
      have I' := hide I
      have H := hide h
      clear h ho e2 hs hp I hi
      go_enter Tryz.func13, Tryz.ntmps13
      go_wp2_with (first
        | (go_at_call 46; refine (check_on _ hc).mono ?_; rintro e w' ⟨rfl, rfl⟩)
        | (go_at_call 47; refine I'.out.mono ?_; rintro e w' ⟨rfl, rfl⟩))
      go_ret
      exact ⟨rfl, H.out.moved (Upd.refl _ _)⟩
    | true =>
      have h0 : 0 ≤ off ∧ 0 ≤ (s.size : Int) ∧ off ≤ D.sure.length ∧ (s.size : Int) ≤ D.sure.length - off := by simpa [inB] using hi
      obtain ⟨o, rfl⟩ : ∃ m : Nat, off = m := ⟨off.toNat, by omega⟩
      have e2 : D.write o s.data.toList = (D.written o s.data.toList, 0) := by simp [DiskS.write, ho, hi]
      rw [e2]
      exact write_good o s w h ho hi hp

theorem nil_write (off : Int) (s : ByteArray) (w : World) : Calls Tryz.prog 13 #[.pointer none, .int .i64 off, .string s] w fun e w' => e = .returned (.int .i64 1) ∧ w = w' := by
  go_enter Tryz.func13, Tryz.ntmps13
  go_wp2_with (go_at_call 46; refine (check_nil _).mono ?_; rintro e w' ⟨rfl, rfl⟩)
  go_ret
  exact ⟨rfl, rfl⟩
theorem nil_sync (w : World) : Calls Tryz.prog 42 #[.pointer none] w fun e w' => e = .returned (.int .i64 1) ∧ w = w' := by
  go_enter Tryz.func42, Tryz.ntmps42
  go_wp2_with (go_at_call 46; refine (check_nil _).mono ?_; rintro e w' ⟨rfl, rfl⟩)
  go_ret
  exact ⟨rfl, rfl⟩
theorem nil_cut (n : Int) (w : World) : Calls Tryz.prog 29 #[.pointer none, .int .i64 n] w fun e w' => e = .returned (.int .i64 1) ∧ w = w' := by
  go_enter Tryz.func29, Tryz.ntmps29
  go_wp2_with (go_at_call 46; refine (check_nil _).mono ?_; rintro e w' ⟨rfl, rfl⟩)
  go_ret
  exact ⟨rfl, rfl⟩
theorem nil_read (off n : Int) (w : World) : Calls Tryz.prog 52 #[.pointer none, .int .i64 off, .int .i64 n] w fun e w' => e = .returned (.tuple #[.string ⟨#[]⟩, .int .i64 1]) ∧ w = w' := by
  go_enter Tryz.func52, Tryz.ntmps52
  go_wp2_with (go_at_call 46; refine (check_nil _).mono ?_; rintro e w' ⟨rfl, rfl⟩)
  go_ret2
  exact ⟨rfl, rfl⟩
end Go.Proofs.YtafjolibfbccbaaGreatDoor
