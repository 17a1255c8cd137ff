/-
  The contracts of the disk's settle, New, Read, Write, Sync, Cut.
-/
import Derived.Test.YtafjolibfbccbaaGreatDoorDisk
namespace Go.Proofs.YtafjolibfbccbaaGreatDoor
open Go.RowKit
set_option maxRecDepth 100000
set_option maxHeartbeats 400000

theorem zero_write (w : World) : (zeroValue 92).run Tryz.prog w = .ok (.agg #[.int .i64 0, .string ⟨#[]⟩]) w := by kernel_rfl
theorem bCells_one (l : List UInt8) : ∀ v ∈ bCells l, v.oneCell' = true := Lib.byteCells_one l

/-- settle -/
theorem settle_any {g gf gt n c pn : Nat} {A : Option Addr} {f0 f1 f2 f3 : Value} {b : List UInt8} {cur xs : List Value} (w : World)
    (hh : Blk w g 97 [f0, f1, f2, f3, .slice A pn c]) (hf : Blk w gf 5 (bCells b)) (ht : Blk w gt 5 cur) (hb : b.length = n) (hc : cur.length = n)
    (hp : w.ownsRow 0 92 2 (.slice A pn c) pn xs) :
    Calls Tryz.prog 65 #[.pointer (some ⟨g, 0, none⟩), .slice (some ⟨gf, 0, none⟩) n n, .slice (some ⟨gt, 0, none⟩) n n] w fun e w' => e = .returned (.tuple #[]) ∧
      Blk w' g 97 [f0, f1, f2, f3, .slice A 0 c] ∧ Blk w' gt 5 (bCells b) ∧ w'.ownsRow 0 92 2 (.slice A 0 c) 0 [] ∧ Upd (g :: gt :: (A.map (·.block)).toList) w w' := by
  have hne : g ≠ gt := hh.ne_ ht (by decide)
  have Hb := hide hb
  have Hc := hide hc
  have Hh := hide hh
  have Hf := hide hf
  have Ht := hide ht
  have Hp := hide hp
  have Hq := hide (own_blk_ne hp ht (by decide))
  have Hq' := hide (own_blk_ne hp hh (by decide))
  have Hne := hide hne
  clear hb hc hh hf ht hp hne
  go_enter Tryz.func65, Tryz.ntmps65
  go_wp2_with (first
    | (refine wpList_copy_rows rfl (.tmp 6) (.tmp 7) _ _ rfl 5 Tryz.underlying39 (by kernel_rfl) gt gf n n n rfl rfl cur (bCells b) _ _ Ht.out Hf.out Hc.out (by rw [bCells_length]; exact Hb.out) (bCells_one b) ?_
       intro w1 h1 u1
       have H1 := hide h1
       have U1 := hide u1
       have B1 := hide (Hh.out.upd u1 (by simp; exact Hne.out))
       have P1 := hide (own_kept Hp.out u1 (fun k hk => by simp; exact Hq.out k hk))
       have c1 : w1.cell? ⟨g, 4, none⟩ = some (.slice A pn c) := B1.out.cell 4
       clear h1 u1)
    | (refine wpList_clear_own rfl (.tmp 12) _ rfl 92 Tryz.underlying93 _ zero_write 0 2 pn c A xs rfl (by simp [Value.cells]; decide) rfl P1.out ?_
       intro w2 h2 u2
       obtain ⟨ys, h2⟩ := h2
       have H2 := hide h2
       have U2 := hide u2
       have B2 := hide (B1.out.upd u2 (fun hm => Hq'.out g (by rw [ownBlock_slice]; simpa using hm) rfl))
       have G2 := hide (H1.out.upd u2 (fun hm => Hq.out gt (by rw [ownBlock_slice]; simpa using hm) rfl))
       have c2 : w2.cell? ⟨g, 4, none⟩ = some (.slice A pn c) := B2.out.cell 4
       have f2 : w2.frozen? ⟨g, 4, none⟩ = false := B2.out.frozen 4
       clear h2 u2))
  go_end0
  have hg := B2.out.set_ 4 (.slice A 0 c)
  have uu : Upd (g :: gt :: (A.map (·.block)).toList) w (w2.setCell ⟨g, 4, none⟩ (.slice A 0 c)) :=
    ((((Upd.refl _ w).trans U1.out (by simp)).trans U2.out (by simp; intro x hx; exact .inl (.inr (.inr ⟨x, hx, rfl⟩))))).setCell (.inl (by simp)) _
  refine ⟨rfl, hg, G2.out.far (Ne.symm Hne.out) _, ?_, uu⟩
  have hk := own_kept (own_cut0 H2.out) ((Upd.refl [g] w2).setCell (p := ⟨g, 4, none⟩) (.inl (by simp)) (.slice A 0 c)) (fun k hk => by
    have := Hq'.out k (by rw [ownBlock_slice] at hk ⊢; exact hk)
    simpa using this)
  exact hk

theorem settled_at {w w' : World} {F : List Nat} {g gd gv c : Nat} {A : Option Addr} {D : DiskS} {b : List UInt8} (h : IsDiskAt w F g gd gv A c D) (hb : b.length = D.sure.length) {o : Bool} {l : Nat} (hl : l ≤ 9223372036854775807)
    (hg : Blk w' g 97 [.bool o, .int .i64 (l : Int), .slice (some ⟨gd, 0, none⟩) D.sure.length D.sure.length, .slice (some ⟨gv, 0, none⟩) D.sure.length D.sure.length, .slice A 0 c])
    (h1 : Blk w' gd 5 (bCells b)) (h2 : Blk w' gv 5 (bCells b)) (hp : w'.ownsRow 0 92 2 (.slice A 0 c) 0 []) : IsDiskAt w' F g gd gv A c { D.settled b with off := o, left := l } := by
  refine ⟨?_, h1, h2, by simpa [DiskS.settled, pCells] using hp, h.ne, h.fp, ⟨by simp [DiskS.settled], ?_, ?_, by simp [DiskS.settled], hl⟩⟩
  · simpa [DiskS.settled, hb] using hg
  · simp only [DiskS.settled]; rw [hb]; exact h.ok.pos
  · simp only [DiskS.settled]; rw [hb]; exact h.ok.max

theorem IsDiskAt.moved {w w' : World} {F : List Nat} {g gd' gv' c' : Nat} {A' : Option Addr} {D' : DiskS} (h' : IsDiskAt w' F g gd' gv' A' c' D') (hu : Upd F w w') : Moved F w w' g D' :=
  ⟨F, ⟨_, _, _, _, h'⟩, hu, fun _ hk => .inl hk⟩

/-- Sync -/
theorem sync_any {F : List Nat} {g : Nat} {D : DiskS} (w : World) (h : IsDisk w F g D) :
    Calls Tryz.prog 42 #[.pointer (some ⟨g, 0, none⟩)] w fun e w' => e = .returned (.int .i64 D.sync.2) ∧ Moved F w w' g D.sync.1 := by
  obtain ⟨gd, gv, A, c, h⟩ := h
  cases ho : D.off with
  | true =>
    have hc : w.cell? ⟨g, 0, none⟩ = some (.bool true) := by rw [← ho]; exact h.head.cell 0
    have e2 : D.sync = (D, 331) := by simp [DiskS.sync, ho]
    rw [e2]
    have H := hide h
    clear h ho e2
    go_enter Tryz.func42, Tryz.ntmps42
    go_wp2_with (go_at_call 46; refine (check_off _ hc).mono ?_; rintro e w' ⟨rfl, rfl⟩)
    go_ret
    exact ⟨rfl, H.out.moved (Upd.refl _ _)⟩
  | false =>
    have hc : w.cell? ⟨g, 0, none⟩ = some (.bool false) := by rw [← ho]; exact h.head.cell 0
    have c2 : w.cell? ⟨g, 2, none⟩ = some (.slice (some ⟨gd, 0, none⟩) D.sure.length D.sure.length) := h.head.cell 2
    have c3 : w.cell? ⟨g, 3, none⟩ = some (.slice (some ⟨gv, 0, none⟩) D.sure.length D.sure.length) := h.head.cell 3
    have e2 : D.sync = (D.settled D.vis, 0) := by simp [DiskS.sync, ho]
    rw [e2]
    have S := settle_any (g := g) (gf := gv) (gt := gd) w.drew h.head.drew h.vis.drew h.sure.drew h.ok.len (by simp [bCells]) (show World.ownsRow w.drew _ _ _ _ _ _ from h.pend)
    have H := hide h
    have S' := hide S
    have Ho := hide ho
    clear h ho e2 S
    go_enter Tryz.func42, Tryz.ntmps42
    go_wp2_with (go_at_call 46; refine (check_on _ hc).mono ?_; rintro e w' ⟨rfl, rfl⟩)
    go_region_with ((go_at_call 65; refine S'.out.mono ?_; rintro e w' ⟨rfl, h1, h2, h3, h4⟩))
    all_goals
      go_wp2
      go_ret
      have hd := H.out
      exact ⟨rfl, (settled_at hd hd.ok.len hd.ok.left h1 h2 (hd.vis.drew.upd h4 hd.v_far) h3).moved (((Upd.refl _ w).drew).trans h4 (by rw [hd.fp]; simp; intro x hx; exact .inl (.inr (.inr (.inr ⟨x, hx, rfl⟩)))))⟩
/-- Cut -/
theorem cut_any {F : List Nat} {g : Nat} {D : DiskS} (n : Int) (w : World) (h : IsDisk w F g D) (hn : n ≤ 9223372036854775807) :
    Calls Tryz.prog 29 #[.pointer (some ⟨g, 0, none⟩), .int .i64 n] w fun e w' => e = .returned (.int .i64 (D.cut n).2) ∧ Moved F w w' g (D.cut n).1 := by
  obtain ⟨gd, gv, A, c, h⟩ := h
  cases ho : D.off with
  | true =>
    have hc : w.cell? ⟨g, 0, none⟩ = some (.bool true) := by rw [← ho]; exact h.head.cell 0
    have e2 : D.cut n = (D, 331) := by simp [DiskS.cut, ho]
    rw [e2]
    have H := hide h
    clear h ho e2
    go_enter Tryz.func29, Tryz.ntmps29
    go_wp2_with (go_at_call 46; refine (check_off _ hc).mono ?_; rintro e w' ⟨rfl, rfl⟩)
    go_ret
    exact ⟨rfl, H.out.moved (Upd.refl _ _)⟩
  | false =>
    have hc : w.cell? ⟨g, 0, none⟩ = some (.bool false) := by rw [← ho]; exact h.head.cell 0
    by_cases h0 : n < 0
    · have e2 : D.cut n = (D, 2) := by simp [DiskS.cut, ho, h0]
      rw [e2]
      have H := hide h
      clear h ho e2
      go_enter Tryz.func29, Tryz.ntmps29
      go_wp2_with (go_at_call 46; refine (check_on _ hc).mono ?_; rintro e w' ⟨rfl, rfl⟩)
      go_ret
      exact ⟨rfl, H.out.moved (Upd.refl _ _)⟩
    · have e2 : D.cut n = ({ D with off := decide (n = 0), left := n.toNat }, 0) := by simp [DiskS.cut, ho, h0]
      rw [e2]
      have c1 : w.cell? ⟨g, 1, none⟩ = some (.int .i64 (D.left : Int)) := h.head.cell 1
      have f0 := h.head.frozen 0
      have f1 := h.head.frozen 1
      have H := hide h
      have E := hide e2
      clear h ho e2
      have Hn := hide hn
      clear hn
      go_enter Tryz.func29, Tryz.ntmps29
      go_wp2_with (go_at_call 46; refine (check_on _ hc).mono ?_; rintro e w' ⟨rfl, rfl⟩)
      go_ret
      have hd := H.out
      have e0 : (n == 0) = decide (n = 0) := rfl
      have e1 : n = ((n.toNat : Nat) : Int) := by omega
      have hu : Upd F w ((w.setCell ⟨g, 0, none⟩ (.bool (n == 0))).setCell ⟨g, 1, none⟩ (.int .i64 n)) := ((Upd.refl F w).setCell (.inl (by simp [hd.fp])) _).setCell (.inl (by simp [hd.fp])) _
      have h1 : Upd [g] w ((w.setCell ⟨g, 0, none⟩ (.bool (n == 0))).setCell ⟨g, 1, none⟩ (.int .i64 n)) := ((Upd.refl [g] w).setCell (.inl (by simp)) _).setCell (.inl (by simp)) _
      have hb := (hd.head.set_ 0 (.bool (n == 0))).set_ 1 (.int .i64 n)
      refine ⟨rfl, IsDiskAt.moved ⟨?_, hd.sure.upd h1 (fun hm => hd.d_far (by simp at hm; simp [hm])), hd.vis.upd h1 (fun hm => hd.v_far (by simp at hm; simp [hm])),
        own_kept hd.pend h1 (fun k hk hm => own_blk_ne hd.pend hd.head (by decide) k hk (by simpa using hm)), hd.ne, hd.fp, ⟨hd.ok.len, hd.ok.pos, hd.ok.max, hd.ok.fits, ?_⟩⟩ hu⟩
      · rw [e0] at hb
        show Blk _ g _ [.bool (decide (n = 0)), .int .i64 ((n.toNat : Nat) : Int), _, _, _]
        rw [← e1]
        exact hb
      · have := Hn.out
        show n.toNat ≤ _
        omega

/-- Read -/
theorem read_any {F : List Nat} {g : Nat} {D : DiskS} (off n : Int) (w : World) (h : IsDisk w F g D) :
    Calls Tryz.prog 52 #[.pointer (some ⟨g, 0, none⟩), .int .i64 off, .int .i64 n] w fun e w' => e = .returned (.tuple #[.string ⟨(D.read off n).1.toArray⟩, .int .i64 (D.read off n).2]) ∧ w = w' := by
  obtain ⟨gd, gv, A, c, h⟩ := h
  have c2 : w.cell? ⟨g, 2, none⟩ = some (.slice (some ⟨gd, 0, none⟩) D.sure.length D.sure.length) := h.head.cell 2
  have c3 : w.cell? ⟨g, 3, none⟩ = some (.slice (some ⟨gv, 0, none⟩) D.sure.length D.sure.length) := h.head.cell 3
  have hm := h.ok.max
  cases ho : D.off with
  | true =>
    have hc : w.cell? ⟨g, 0, none⟩ = some (.bool true) := by rw [← ho]; exact h.head.cell 0
    have e2 : D.read off n = ([], 331) := by simp [DiskS.read, ho]
    rw [e2]
    clear h ho e2
    go_enter Tryz.func52, Tryz.ntmps52
    go_wp2_with (go_at_call 46; refine (check_off _ hc).mono ?_; rintro e w' ⟨rfl, rfl⟩)
    go_ret2
    exact ⟨rfl, rfl⟩
  | false =>
    have hc : w.cell? ⟨g, 0, none⟩ = some (.bool false) := by rw [← ho]; exact h.head.cell 0
    have I := inside_any off n w c2 hm
    cases hi : inB D.sure.length off n with
    | false =>
      rw [hi] at I
      have e2 : D.read off n = ([], 330) := by simp [DiskS.read, ho, hi]
      rw [e2]
      have I' := hide I
      clear h ho e2 hi I
      go_enter Tryz.func52, Tryz.ntmps52
      go_wp2_with (first
        | (go_at_call 46; refine (check_on _ hc).mono ?_; rintro e w' ⟨rfl, rfl⟩)
        | (go_at_call 47; refine I'.out.mono ?_; rintro e w' ⟨rfl, rfl⟩))
      go_ret2
      exact ⟨rfl, rfl⟩
    | true =>
      rw [hi] at I
      have hb : 0 ≤ off ∧ 0 ≤ n ∧ off ≤ D.sure.length ∧ n ≤ D.sure.length - off := by simpa [inB] using hi
      obtain ⟨h0, h1, h2, h3⟩ := hb
      obtain ⟨o, rfl⟩ : ∃ m : Nat, off = m := ⟨off.toNat, by omega⟩
      obtain ⟨k, rfl⟩ : ∃ m : Nat, n = m := ⟨n.toNat, by omega⟩
      have h4 : o ≤ D.sure.length := by omega
      have h5 : k ≤ D.sure.length - o := by omega
      have e2 : D.read o k = ((D.vis.drop o).take k, 0) := by simp [DiskS.read, ho, hi]
      rw [e2]
      have I' := hide I
      have hv := run_conv_bytes_if (P := Tryz.prog) h.vis 39 5 9 Tryz.underlying39 Tryz.underlying5 Tryz.underlying9 D.sure.length o k (D.sure.length - o) h.ok.len h4 h5
      clear h ho e2 hi I h0 h1 h2 h3
      go_enter Tryz.func52, Tryz.ntmps52
      go_wp2_with (first
        | (go_at_call 46; refine (check_on _ hc).mono ?_; rintro e w' ⟨rfl, rfl⟩)
        | (go_at_call 47; refine I'.out.mono ?_; rintro e w' ⟨rfl, rfl⟩))
      all_goals
        go_ret2
        exact ⟨rfl, rfl⟩
theorem info_byte : (Tryz.prog.info? 5).map (fun i => (i.zero, i.size, i.bytes)) = some (some (.int .u8 0), 1, 1) := by kernel_rfl
theorem zeros_cells (n : Nat) : (bCells (List.replicate n 0)).toArray = madeCells (Value.int .u8 0).cells n := by
  apply Array.toList_inj.1
  rw [show (Value.int .u8 0).cells = #[Value.int .u8 0] from rfl, toList_madeCells_one]
  simp [bCells, bCell]
theorem make_bytes (n : Nat) (hn : n ≤ 4194304) (w : World) : (Instr.makeSlice 39 (.int .i64 (n : Int)) (.int .i64 (n : Int))).run Tryz.prog w = .ok (.slice (some ⟨w.heap.size, 0, none⟩) n n) (w.alloc (.cells (bCells (List.replicate n 0)).toArray 5)) := by
  obtain ⟨i, hi, hz, hs, hb⟩ := info_parts info_byte
  have hr := run_make (P := Tryz.prog) w 39 5 i (.int .u8 0) Tryz.underlying39 hi hz .i64 .i64 n n (by omega) (Int.le_refl _) (by rw [hb]; omega) (by omega)
  rw [hr, zeros_cells, hs]
  simp

theorem fresh_ok (n : Nat) (h1 : 1 ≤ n) (h2 : n ≤ 4194304) : (DiskS.fresh n).Ok := ⟨by simp [DiskS.fresh], by simpa [DiskS.fresh] using h1, by simpa [DiskS.fresh] using h2, by simp [DiskS.fresh], by simp [DiskS.fresh]⟩

theorem new_bad (n : Int) (w : World) (h : n < 1 ∨ 4194304 < n) : Calls Tryz.prog 24 #[.int .i64 n] w fun e w' => e = .returned (.tuple #[.pointer none, .int .i64 2]) ∧ w = w' := by
  by_cases h1 : n < 1
  · go_enter Tryz.func24, Tryz.ntmps24
    go_wp2
    go_ret2
    exact ⟨rfl, rfl⟩
  · have h2 : 4194304 < n := by omega
    clear h
    go_enter Tryz.func24, Tryz.ntmps24
    go_wp2
    go_ret2
    exact ⟨rfl, rfl⟩

theorem fresh_at {n gd gv : Nat} (w : World) (h1 : 1 ≤ n) (h2 : n ≤ 4194304) (hg : gd = w.heap.size ∧ gv = w.heap.size + 1 ∨ gd = w.heap.size + 1 ∧ gv = w.heap.size) :
    IsDisk (((w.alloc (.cells (bCells (List.replicate n 0)).toArray 5)).alloc (.cells (bCells (List.replicate n 0)).toArray 5)).alloc
      (.cells #[.bool false, .int .i64 0, .slice (some ⟨gd, 0, none⟩) n n, .slice (some ⟨gv, 0, none⟩) n n, .slice none 0 0] 97)).drew [w.heap.size + 1 + 1, gd, gv] (w.heap.size + 1 + 1) (DiskS.fresh n) := by
  have b0 : Blk _ w.heap.size 5 (bCells (List.replicate n 0)) := Blk.new w 5 (bCells (List.replicate n 0))
  have b1 : Blk _ (w.alloc (.cells (bCells (List.replicate n 0)).toArray 5)).heap.size 5 (bCells (List.replicate n 0)) := Blk.new (w.alloc (.cells (bCells (List.replicate n 0)).toArray 5)) 5 (bCells (List.replicate n 0))
  have b2 : Blk _ _ 97 [.bool false, .int .i64 0, .slice (some ⟨gd, 0, none⟩) n n, .slice (some ⟨gv, 0, none⟩) n n, .slice none 0 0] := Blk.new ((w.alloc (.cells (bCells (List.replicate n 0)).toArray 5)).alloc (.cells (bCells (List.replicate n 0)).toArray 5)) 97 _
  simp only [World.size_alloc] at b1 b2
  have c0 := ((b0.alloc (.cells (bCells (List.replicate n 0)).toArray 5)).alloc (.cells #[.bool false, .int .i64 0, .slice (some ⟨gd, 0, none⟩) n n, .slice (some ⟨gv, 0, none⟩) n n, .slice none 0 0] 97)).drew
  have c1 := (b1.alloc (.cells #[.bool false, .int .i64 0, .slice (some ⟨gd, 0, none⟩) n n, .slice (some ⟨gv, 0, none⟩) n n, .slice none 0 0] 97)).drew
  have c2 := b2.drew
  have hl : (DiskS.fresh n).sure.length = n := by simp [DiskS.fresh]
  refine ⟨gd, gv, none, 0, ?_, ?_, ?_, World.ownsRow_nil _ _ _ _, by omega, by simp, fresh_ok n h1 h2⟩
  · rw [hl]; exact c2
  · rcases hg with ⟨rfl, rfl⟩ | ⟨rfl, rfl⟩
    · exact c0
    · exact c1
  · rcases hg with ⟨rfl, rfl⟩ | ⟨rfl, rfl⟩
    · exact c1
    · exact c0

theorem new_good (n : Nat) (w : World) (h1 : 1 ≤ n) (h2 : n ≤ 4194304) : Calls Tryz.prog 24 #[.int .i64 (n : Int)] w fun e w' => ∃ g F, e = .returned (.tuple #[.pointer (some ⟨g, 0, none⟩), .int .i64 0]) ∧ IsDisk w' F g (DiskS.fresh n) ∧ (∀ k ∈ F, w.heap.size ≤ k) ∧ Below w.heap.size w w' := by
  have hmk := fun W => make_bytes n h2 W
  have hn1 : ¬ (n : Int) < 1 := by omega
  have hn2 : ¬ 4194304 < (n : Int) := by omega
  go_enter Tryz.func24, Tryz.ntmps24
  go_wp2
  go_region
  all_goals go_wp2
  all_goals go_ret2
  · exact ⟨_, _, rfl, fresh_at w h1 h2 (.inl ⟨rfl, rfl⟩), by simp; omega, ((((Below.refl _ w).alloc (Nat.le_refl _) _).alloc (by simp) _).alloc (by simp; omega) _).drew⟩
  · exact ⟨_, _, rfl, fresh_at w h1 h2 (.inr ⟨rfl, rfl⟩), by simp; omega, ((((Below.refl _ w).alloc (Nat.le_refl _) _).alloc (by simp) _).alloc (by simp; omega) _).drew⟩
end Go.Proofs.YtafjolibfbccbaaGreatDoor
