/-
  The reference's digest: a word rotated, the constants, one block.
  The reference's digest of a string, and a chain's head.
-/
import Derived.Test.YtafjolibfbccbaaGreatDoorZ23JournalOpensAnythingCard
import Derived.Test.YtafjolibfbccbaaGreatDoorZ28JournalOpensAnythingCard
import Derived.Deep.RegionHeld3
import Derived.Deep.RegionLaw
import Derived.Deep.DeepAppendRoom

namespace Go.Proofs.YtafjolibfbccbaaGreatDoor
open Go.RowKit
set_option maxRecDepth 100000
set_option maxHeartbeats 40000000

theorem info_u32 : (Tryz.prog.info? 109).map (fun i => (i.zero, i.size, i.bytes)) = some (some (.int .u32 0), 1, 4) := by kernel_rfl
theorem cells_new (w : World) (l : List Value) (t : TypeId) : ∀ j v, l[j]? = some v → (w.alloc (.cells l.toArray t)).cell? ((⟨w.heap.size, 0, none⟩ : Addr).add j) = some v := by
  intro j v h
  rw [plain_add rfl, Nat.zero_add]
  exact ((Blk.new w t l).cell j).trans h
/-- Words in a row. -/
def WordsAt (W : World) (g : Nat) (s : List Int) : Prop := ∀ i x, s[i]? = some x → W.cell? ⟨g, i, none⟩ = some (.int .u32 x)
theorem WordsAt.upd {W W' : World} {g : Nat} {s : List Int} (h : WordsAt W g s) (u : Upd [] W W') : WordsAt W' g s := fun i x hx => keepc _ _ _ _ u (h i x hx)
theorem WordsAt.blk {W : World} {g t : Nat} {s : List Int} (h : Blk W g t (s.map (Value.int .u32))) : WordsAt W g s := fun i x hx => (h.cell i).trans (by rw [List.getElem?_map, hx]; rfl)
theorem WordsAt.own {W : World} {base g n c : Nat} {s : List Int} (h : W.ownsRow base 109 1 (.slice (some ⟨g, 0, none⟩) n c) n (s.map (Value.int .u32))) : WordsAt W g s := fun i x hx => by
  have := World.ownsRow.cells h (g := g) rfl i (.int .u32 x) (by rw [List.getElem?_map, hx]; rfl)
  rwa [plain_add rfl, Nat.zero_add] at this
theorem own_some {w : World} {base e size n c : Nat} {A : Option Addr} {xs : List Value} (h : w.ownsRow base e size (.slice A n c) n xs) (hn : 0 < n) : ∃ g, A = some ⟨g, 0, none⟩ := by
  rcases h.2 with ⟨_, h0⟩ | ⟨g, cap, cur, hv, _⟩
  · omega
  · obtain ⟨rfl, rfl⟩ : A = some ⟨g, 0, none⟩ ∧ c = cap := by simpa using hv
    exact ⟨g, rfl⟩
/-- append of elements of one cell to a row of one's own, in a drawn region: the old row's cells stay. -/
theorem step_append_keep {P : Program} {ops : Array Oper} {w : World} {o : Oper} {a : Act} {K : Act → World → Prop} {Q : Exit → Act → World → Prop} {E : Prop} (hgd : o.guard = none) (s x : Operand) (t : TypeId)
    (ho : o.op = .call { callee := .builtin .append, args := #[s, x], argTypes := #[t, t] })
    (base : Nat) (e : TypeId) (z : Value) (bytes : Nat) (ht : P.underlying t = some (.slice e)) (hinfo : (P.info? e).map (fun i => (i.zero, i.size, i.bytes)) = some (some z, 1, bytes)) (hzs : z.cells.size = 1)
    (A : Option Addr) (n c : Nat) (xs : List Value) (hs : a.eval s = .slice A n c) (hown : w.ownsRow base e 1 (.slice A n c) n xs)
    (ad : Addr) (m cc : Nat) (news : List Value) (hx : a.eval x = .slice (some ad) m cc) (hl : news.length = m) (hnews : ∀ j u, news[j]? = some u → w.cell? (ad.add j) = some u) (h1 : ∀ u ∈ news, u.oneCell' = true)
    (h63 : n + m ≤ maxLen) (hbytes : (n + m) * bytes ≤ 140737488355328) (hbase : base ≤ w.heap.size)
    (h : ∀ A' c' w', w'.ownsRow base e 1 (.slice A' (n + m) c') (n + m) (xs ++ news) → Upd (A.map (·.block)).toList w w' → (∀ g, A = some ⟨g, 0, none⟩ → ∀ j u, xs[j]? = some u → w'.cell? ⟨g, j, none⟩ = some u) → K (a.put o.dst (.slice A' (n + m) c')) w') :
    if Region.wanted o (yielded ops a.tmps) = true then Oper.wp P o a w K Q else E := by
  rcases hown.2 with ⟨hv, h0⟩ | ⟨g, cap, cur, hv, hb, hg, hnc, hcm, hcs, htk⟩
  · obtain ⟨rfl, rfl, rfl⟩ : A = none ∧ n = 0 ∧ c = 0 := by simpa using hv
    exact step_append_base hgd s x t ho base e z 1 bytes ht hinfo hzs (by decide) none 0 0 xs hs hown ad m cc news hx (by rw [hl, Nat.mul_one]) hnews h1 h63 hbytes hbase (fun A' c' w' k1 k2 => h A' c' w' k1 k2 (fun g hg => by cases hg))
  · obtain ⟨rfl, rfl⟩ : A = some ⟨g, 0, none⟩ ∧ c = cap := by simpa using hv
    have hw : Region.wanted o (yielded ops a.tmps) = true := by simp [Region.wanted, hgd]
    rw [if_pos hw]
    obtain ⟨i, hi, hz, hs1, hb1⟩ := info_parts hinfo
    have hold : ∀ j u, xs[j]? = some u → w.cell? ((⟨g, 0, none⟩ : Addr).add j) = some u := World.ownsRow.cells hown (g := g) rfl
    by_cases hroom : n + m ≤ c
    · obtain ⟨w', hr, h2, h3⟩ := run_append_own_spare (P := P) w base t o.type e i 1 ht hi hs1 g n c xs hown ad m cc news (by rw [hl, Nat.mul_one]) hnews h1 hroom
      unfold Oper.wp execOp
      simp only [ho, resolve, invoke, builtin, Sem.run_bind, Sem.run_pure, Result.andThen_ok, List.map_toArray, List.map_cons, List.map_nil, hs, hx, hr]
      refine h _ _ w' h2 ((Upd.refl _ w).grown h3 (fun k hk => .inl (by cases hk; simp))) (fun g' e' j u hj => ?_)
      cases e'
      have := World.ownsRow.cells h2 (g := g) rfl j u (by rw [List.getElem?_append_left (List.getElem?_eq_some_iff.1 hj).1]; exact hj)
      rwa [plain_add rfl, Nat.zero_add] at this
    · obtain ⟨v', w', hr, h2, h3⟩ := run_append_arg_grows (P := P) w t o.type e i z 1 bytes ht hi hz hs1 hb1 hzs (by decide) ⟨g, 0, none⟩ n c xs hown.1 hold ad m cc news (by rw [hl, Nat.mul_one]) hnews (by omega) h63 hbytes
      unfold Oper.wp execOp
      simp only [ho, resolve, invoke, builtin, Sem.run_bind, Sem.run_pure, Result.andThen_ok, List.map_toArray, List.map_cons, List.map_nil, hs, hx, hr]
      obtain ⟨A', c', rfl⟩ : ∃ A' c', v' = .slice A' (n + m) c' := by
        rcases h2.2 with ⟨hv, h0⟩ | ⟨g, cap, cur, hv, _⟩
        · exact ⟨none, 0, by rw [h0]; exact hv⟩
        · exact ⟨_, _, hv⟩
      refine h _ _ w' (it_own_less h2 hbase) ((Upd.refl _ w).grown h3 (fun k hk => by cases hk)) (fun g' e' j u hj => ?_)
      cases e'
      have h9 := hold j u hj
      rw [plain_add rfl, Nat.zero_add] at h9
      exact h3.cell h9 (by simp)
theorem rotated_any (x : Int) (n : Nat) (w : World) (h1 : 1 ≤ n) (h2 : n < 32) (hx : Word x) :
    Calls Tryz.prog 87 #[.int .u32 x, .int .i64 (n : Int)] w fun e w' => e = .returned (.int .u32 (rotS n x)) ∧ Upd [] w w' := by
  obtain ⟨q, hq⟩ : ∃ q : Nat, 32 - n = q := ⟨_, rfl⟩
  have hs : IntKind.i64.wrap (32 - (n : Int)) = (q : Int) := by rw [Go.IntWalk.i64_in _ (by omega)]; omega
  have hq32 : q < 32 := by omega
  have hqi : (q : Int) < 32 := by omega
  have hni : (n : Int) < 32 := by omega
  have HR := hide (show rotS n x = bits .or .u32 (x / 2 ^ n) (x * 2 ^ q % 4294967296) by rw [rotS_flip, hq])
  obtain ⟨hx0, hx1⟩ := hx
  clear hq
  go_enter Tryz.func87, Tryz.ntmps87
  go_wp2_with fail
  refine wp_region_held_drew (S := (fun _ => True)) (by kernel_rfl) (by exact trivial) (fun hHeld => ?_)
  refine wpAnyH_take (i := 0) (oi := ?oi0M2) (v := ?v0M2) ?oi0_0M2 (by kernel_rfl) ?ff0M2 ?rr0M2 ?hq0M2 (Or.inl ⟨?hw0M2, ?hy0M2⟩) (by assumption) ?rest0M2
  case oi0_0M2 => conv => lhs; whnf; arg 1; whnf
  case hq0M2 => exact fun _ _ _ h => h
  case ff0M2 | rr0M2 => kernel_rfl
  case hw0M2 => rfl
  case hy0M2 => intro w hSw; (try dsimp only at hSw); first | (go_simp; done) | (go_simp; with_reducible rfl)
  try simp only [Act.put, List.setIfInBounds_toArray, List.set_cons_zero, List.set_cons_succ]
  refine wpAnyH_take (i := 1) (oi := ?oi1M2) (v := ?v1M2) ?oi0_1M2 (by kernel_rfl) ?ff1M2 ?rr1M2 ?hq1M2 (Or.inl ⟨?hw1M2, ?hy1M2⟩) (by assumption) ?rest1M2
  case oi0_1M2 => conv => lhs; whnf; arg 1; whnf
  case hq1M2 => exact fun _ _ _ h => h
  case ff1M2 | rr1M2 => kernel_rfl
  case hw1M2 => rfl
  case hy1M2 => intro w hSw; (try dsimp only at hSw); first | (go_simp; done) | (go_simp; with_reducible rfl)
  try simp only [Act.put, List.setIfInBounds_toArray, List.set_cons_zero, List.set_cons_succ]
  refine wpAnyH_take (i := 2) (oi := ?oi2M2) (v := ?v2M2) ?oi0_2M2 (by kernel_rfl) ?ff2M2 ?rr2M2 ?hq2M2 (Or.inl ⟨?hw2M2, ?hy2M2⟩) (by assumption) ?rest2M2
  case oi0_2M2 => conv => lhs; whnf; arg 1; whnf
  case hq2M2 => exact fun _ _ _ h => h
  case ff2M2 | rr2M2 => kernel_rfl
  case hw2M2 => rfl
  case hy2M2 => intro w hSw; (try dsimp only at hSw); first | (go_simp; done) | (go_simp; with_reducible rfl)
  try simp only [Act.put, List.setIfInBounds_toArray, List.set_cons_zero, List.set_cons_succ]
  refine wpAnyH_take (i := 3) (oi := ?oi3M2) (v := ?v3M2) ?oi0_3M2 (by kernel_rfl) ?ff3M2 ?rr3M2 ?hq3M2 (Or.inl ⟨?hw3M2, ?hy3M2⟩) (by assumption) ?rest3M2
  case oi0_3M2 => conv => lhs; whnf; arg 1; whnf
  case hq3M2 => exact fun _ _ _ h => h
  case ff3M2 | rr3M2 => kernel_rfl
  case hw3M2 => rfl
  case hy3M2 => intro w hSw; (try dsimp only at hSw); first | (go_simp; done) | (go_simp; with_reducible rfl)
  try simp only [Act.put, List.setIfInBounds_toArray, List.set_cons_zero, List.set_cons_succ]
  refine wpAnyH_take (i := 4) (oi := ?oi4M2) (v := ?v4M2) ?oi0_4M2 (by kernel_rfl) ?ff4M2 ?rr4M2 ?hq4M2 (Or.inl ⟨?hw4M2, ?hy4M2⟩) (by assumption) ?rest4M2
  case oi0_4M2 => conv => lhs; whnf; arg 1; whnf
  case hq4M2 => exact fun _ _ _ h => h
  case ff4M2 | rr4M2 => kernel_rfl
  case hw4M2 => rfl
  case hy4M2 => intro w hSw; (try dsimp only at hSw); first | (go_simp; done) | (go_simp; with_reducible rfl)
  try simp only [Act.put, List.setIfInBounds_toArray, List.set_cons_zero, List.set_cons_succ]
  refine wpAnyH_take (i := 5) (oi := ?oi5M2) (v := ?v5M2) ?oi0_5M2 (by kernel_rfl) ?ff5M2 ?rr5M2 ?hq5M2 (Or.inl ⟨?hw5M2, ?hy5M2⟩) (by assumption) ?rest5M2
  case oi0_5M2 => conv => lhs; whnf; arg 1; whnf
  case hq5M2 => exact fun _ _ _ h => h
  case ff5M2 | rr5M2 => kernel_rfl
  case hw5M2 => rfl
  case hy5M2 => intro w hSw; (try dsimp only at hSw); first | (go_simp; done) | (go_simp; with_reducible rfl)
  try simp only [Act.put, List.setIfInBounds_toArray, List.set_cons_zero, List.set_cons_succ]
  refine wpAnyH_take (i := 6) (oi := ?oi6M2) (v := ?v6M2) ?oi0_6M2 (by kernel_rfl) ?ff6M2 ?rr6M2 ?hq6M2 (Or.inl ⟨?hw6M2, ?hy6M2⟩) (by assumption) ?rest6M2
  case oi0_6M2 => conv => lhs; whnf; arg 1; whnf
  case hq6M2 => exact fun _ _ _ h => h
  case ff6M2 | rr6M2 => kernel_rfl
  case hw6M2 => rfl
  case hy6M2 => intro w hSw; (try dsimp only at hSw); first | (go_simp; done) | (go_simp; with_reducible rfl)
  try simp only [Act.put, List.setIfInBounds_toArray, List.set_cons_zero, List.set_cons_succ]
  refine wpAnyH_take (i := 7) (oi := ?oi7M2) (v := ?v7M2) ?oi0_7M2 (by kernel_rfl) ?ff7M2 ?rr7M2 ?hq7M2 (Or.inl ⟨?hw7M2, ?hy7M2⟩) (by assumption) ?rest7M2
  case oi0_7M2 => conv => lhs; whnf; arg 1; whnf
  case hq7M2 => exact fun _ _ _ h => h
  case ff7M2 | rr7M2 => kernel_rfl
  case hw7M2 => rfl
  case hy7M2 => intro w hSw; (try dsimp only at hSw); first | (go_simp; done) | (go_simp; with_reducible rfl)
  try simp only [Act.put, List.setIfInBounds_toArray, List.set_cons_zero, List.set_cons_succ]
  refine wpAnyH_take (i := 8) (oi := ?oi8M2) (v := ?v8M2) ?oi0_8M2 (by kernel_rfl) ?ff8M2 ?rr8M2 ?hq8M2 (Or.inl ⟨?hw8M2, ?hy8M2⟩) (by assumption) ?rest8M2
  case oi0_8M2 => conv => lhs; whnf; arg 1; whnf
  case hq8M2 => exact fun _ _ _ h => h
  case ff8M2 | rr8M2 => kernel_rfl
  case hw8M2 => rfl
  case hy8M2 => intro w hSw; (try dsimp only at hSw); first | (go_simp; done) | (go_simp; with_reducible rfl)
  try simp only [Act.put, List.setIfInBounds_toArray, List.set_cons_zero, List.set_cons_succ]
  refine wpAnyH_done (by kernel_rfl) ?_ _
  go_wp2_with fail
  go_ret
  exact ⟨show Ending.returned (.int .u32 (bits .or .u32 (x / 2 ^ n) (IntKind.u32.wrap (x * 2 ^ q)))) = _ by rw [HR.out, IntKind.wrap_u32], (Upd.refl [] _).drew⟩
theorem constants_any (w : World) :
    Calls Tryz.prog 88 #[] w fun e w' => ∃ g, e = .returned (.slice (some ⟨g, 0, none⟩) 64 64) ∧ Blk w' g 109 (refK.map (Value.int .u32)) ∧ Upd [] w w' := by
  go_enter Tryz.func88, Tryz.ntmps88
  go_wp2_with fail
  go_ret
  exact ⟨_, rfl, Blk.new w _ _, (Upd.refl [] _).alloc _⟩
theorem block_any (hb hc gb go c : Nat) (s : List Int) (bs : List UInt8) (w : World) (hS : WordsAt w hb s) (hsl : s.length = 8) (hsw : ∀ x ∈ s, Word x) (hB : BytesAt w gb go bs) (hl : bs.length = 64) :
    Calls Tryz.prog 59 #[.slice (some ⟨hb, 0, none⟩) 8 hc, .slice (some ⟨gb, go, none⟩) 64 c] w fun e w' => ∃ g c', e = .returned (.slice (some ⟨g, 0, none⟩) 8 c') ∧ WordsAt w' g (addS refK bs s) ∧ Upd [] w w' := by
  have HHS := hide hS
  have HBY := hide hB
  have HL := hide hl
  have HSL := hide hsl
  have HSW := hide hsw
  clear hS hB hl hsl hsw
  go_enter Tryz.func59, Tryz.ntmps59
  go_wp2_with fail
  go_loopw [5, 6] (fun s5 s6 wr => ∃ (k : Nat) (A : Option Addr) (c5 : Nat), k ≤ 16 ∧ s5 = .slice A k c5 ∧ s6 = .int .i64 k ∧ Hid (wr.ownsRow w.heap.size 109 1 (.slice A k c5) k (((first16 bs).take k).map (Value.int .u32))) ∧ Hid (Upd [] w wr)) (fun _ s _ => 16 - (intOf s).toNat)
  case atStart => exact ⟨0, none, 0, Nat.zero_le _, rfl, rfl, hide (World.ownsRow_nil _ _ _ _), hide (Upd.refl _ _)⟩
  case round =>
    obtain ⟨k, A, c5, hk, rfl, rfl, hO, hU⟩ := hrel
    obtain ⟨wo, rfl⟩ : ∃ x : World, x = wr := ⟨_, rfl⟩
    by_cases hk16 : k < 16
    case pos =>
      have hki : (k : Int) < 16 := by omega
      have hkw : IntKind.i64.wrap ((k : Int) + 1) = (k : Int) + 1 := Go.IntWalk.i64_in _ (by omega)
      obtain ⟨q, hq⟩ : ∃ q, 4 * k = q := ⟨_, rfl⟩
      have hq0 : IntKind.i64.wrap (4 * (k : Int)) = (q : Int) := by rw [Go.IntWalk.i64_in _ (by omega)]; omega
      obtain ⟨q0, he0⟩ : ∃ x, q + 0 = x := ⟨_, rfl⟩
      obtain ⟨q1, he1⟩ : ∃ x, q + 1 = x := ⟨_, rfl⟩
      have hq1 : IntKind.i64.wrap ((q : Int) + 1) = (q1 : Int) := by rw [Go.IntWalk.i64_in _ (by omega)]; omega
      obtain ⟨q2, he2⟩ : ∃ x, q + 2 = x := ⟨_, rfl⟩
      have hq2 : IntKind.i64.wrap ((q : Int) + 2) = (q2 : Int) := by rw [Go.IntWalk.i64_in _ (by omega)]; omega
      obtain ⟨q3, he3⟩ : ∃ x, q + 3 = x := ⟨_, rfl⟩
      have hq3 : IntKind.i64.wrap ((q : Int) + 3) = (q3 : Int) := by rw [Go.IntWalk.i64_in _ (by omega)]; omega
      obtain ⟨x0, hx0⟩ : ∃ x, bs[q0]? = some x := ⟨_, List.getElem?_eq_getElem (by have := HL.out; omega)⟩
      obtain ⟨y0, hy0⟩ : ∃ y : Nat, x0.toNat = y := ⟨_, rfl⟩
      have hz0 : y0 ≤ 255 := by rw [← hy0]; have := x0.toNat_lt; omega
      have HC0 := hide (show w.cell? ⟨gb, go + q0, none⟩ = some (.int .u8 (y0 : Int)) by have h9 := HBY.out q0 x0 hx0; rw [hy0] at h9; exact h9)
      have c0 := keepc _ _ _ _ hU.out HC0.out
      obtain ⟨x1, hx1⟩ : ∃ x, bs[q1]? = some x := ⟨_, List.getElem?_eq_getElem (by have := HL.out; omega)⟩
      obtain ⟨y1, hy1⟩ : ∃ y : Nat, x1.toNat = y := ⟨_, rfl⟩
      have hz1 : y1 ≤ 255 := by rw [← hy1]; have := x1.toNat_lt; omega
      have HC1 := hide (show w.cell? ⟨gb, go + q1, none⟩ = some (.int .u8 (y1 : Int)) by have h9 := HBY.out q1 x1 hx1; rw [hy1] at h9; exact h9)
      have c1 := keepc _ _ _ _ hU.out HC1.out
      obtain ⟨x2, hx2⟩ : ∃ x, bs[q2]? = some x := ⟨_, List.getElem?_eq_getElem (by have := HL.out; omega)⟩
      obtain ⟨y2, hy2⟩ : ∃ y : Nat, x2.toNat = y := ⟨_, rfl⟩
      have hz2 : y2 ≤ 255 := by rw [← hy2]; have := x2.toNat_lt; omega
      have HC2 := hide (show w.cell? ⟨gb, go + q2, none⟩ = some (.int .u8 (y2 : Int)) by have h9 := HBY.out q2 x2 hx2; rw [hy2] at h9; exact h9)
      have c2 := keepc _ _ _ _ hU.out HC2.out
      obtain ⟨x3, hx3⟩ : ∃ x, bs[q3]? = some x := ⟨_, List.getElem?_eq_getElem (by have := HL.out; omega)⟩
      obtain ⟨y3, hy3⟩ : ∃ y : Nat, x3.toNat = y := ⟨_, rfl⟩
      have hz3 : y3 ≤ 255 := by rw [← hy3]; have := x3.toNat_lt; omega
      have HC3 := hide (show w.cell? ⟨gb, go + q3, none⟩ = some (.int .u8 (y3 : Int)) by have h9 := HBY.out q3 x3 hx3; rw [hy3] at h9; exact h9)
      have c3 := keepc _ _ _ _ hU.out HC3.out
      obtain rfl : q = q0 := he0
      have HV := hide (show (first16 bs)[k]? = some (wordS y0 y1 y2 y3) by
        unfold first16
        rw [List.getElem?_map, List.getElem?_range hk16]
        show some (wordS (bs[4 * k]?.getD 0).toNat (bs[4 * k + 1]?.getD 0).toNat (bs[4 * k + 2]?.getD 0).toNat (bs[4 * k + 3]?.getD 0).toNat) = _
        rw [hq, he1, he2, he3, hx0, hx1, hx2, hx3]
        simp only [Option.getD_some, hy0, hy1, hy2, hy3])
      have HQ := hide hq
      clear hq hx0 hx1 hx2 hx3 hy0 hy1 hy2 hy3
      have hqb0 : q < 64 := by have := HQ.out; omega
      have hqi0 : (q : Int) < 64 := by omega
      have hqb1 : q1 < 64 := by have := HQ.out; omega
      have hqi1 : (q1 : Int) < 64 := by omega
      have hqb2 : q2 < 64 := by have := HQ.out; omega
      have hqi2 : (q2 : Int) < 64 := by omega
      have hqb3 : q3 < 64 := by have := HQ.out; omega
      have hqi3 : (q3 : Int) < 64 := by omega
      clear he1 he2 he3
      have wy0 : IntKind.u32.wrap (y0 : Int) = y0 := by rw [IntKind.wrap_u32]; omega
      have wm0 : IntKind.u32.wrap ((y0 : Int) * 16777216) = (y0 : Int) * 16777216 := by rw [IntKind.wrap_u32]; omega
      have wy1 : IntKind.u32.wrap (y1 : Int) = y1 := by rw [IntKind.wrap_u32]; omega
      have wm1 : IntKind.u32.wrap ((y1 : Int) * 65536) = (y1 : Int) * 65536 := by rw [IntKind.wrap_u32]; omega
      have wy2 : IntKind.u32.wrap (y2 : Int) = y2 := by rw [IntKind.wrap_u32]; omega
      have wm2 : IntKind.u32.wrap ((y2 : Int) * 256) = (y2 : Int) * 256 := by rw [IntKind.wrap_u32]; omega
      have wy3 : IntKind.u32.wrap (y3 : Int) = y3 := by rw [IntKind.wrap_u32]; omega
      have HO := hO
      have HU := hU
      clear hO hU
      go_wp2_with fail
      refine wp_region_held_drew (S := (fun w' => w'.cell? ⟨gb, go + q, none⟩ = some (.int .u8 (y0 : Int)) ∧ w'.cell? ⟨gb, go + q1, none⟩ = some (.int .u8 (y1 : Int)) ∧ w'.cell? ⟨gb, go + q2, none⟩ = some (.int .u8 (y2 : Int)) ∧ w'.cell? ⟨gb, go + q3, none⟩ = some (.int .u8 (y3 : Int)))) (by kernel_rfl) (by exact ⟨c0, c1, c2, c3⟩) (fun hHeld => ?_)
      obtain ⟨v1, hwD⟩ : ∃ x, wo.drew = x := ⟨_, rfl⟩
      have u : Upd [] wo v1 := by rw [← hwD]; exact (Upd.refl [] _).drew
      rw [hwD] at hHeld ⊢
      clear hwD
      replace HO := hide (own_kept HO.out u (by simp))
      replace HU := hide (HU.out.trans u (by simp))
      clear u
      clear c0 c1 c2 c3
      refine wpAnyH_take (i := 0) (oi := ?oi0M5) (v := ?v0M5) ?oi0_0M5 (by kernel_rfl) ?ff0M5 ?rr0M5 ?hq0M5 (Or.inl ⟨?hw0M5, ?hy0M5⟩) (by assumption) ?rest0M5
      case oi0_0M5 => conv => lhs; whnf; arg 1; whnf
      case hq0M5 => exact fun _ _ _ h => h
      case ff0M5 | rr0M5 => kernel_rfl
      case hw0M5 => rfl
      case hy0M5 => intro w hSw; (try dsimp only at hSw); first | (go_simp; done) | (go_simp; with_reducible rfl)
      try simp only [Act.put, List.setIfInBounds_toArray, List.set_cons_zero, List.set_cons_succ]
      refine wpAnyH_take (i := 1) (oi := ?oi1M5) (v := ?v1M5) ?oi0_1M5 (by kernel_rfl) ?ff1M5 ?rr1M5 ?hq1M5 (Or.inl ⟨?hw1M5, ?hy1M5⟩) (by assumption) ?rest1M5
      case oi0_1M5 => conv => lhs; whnf; arg 1; whnf
      case hq1M5 => exact fun _ _ _ h => h
      case ff1M5 | rr1M5 => kernel_rfl
      case hw1M5 => rfl
      case hy1M5 => intro w hSw; (try dsimp only at hSw); first | (go_simp; done) | (go_simp; with_reducible rfl)
      try simp only [Act.put, List.setIfInBounds_toArray, List.set_cons_zero, List.set_cons_succ]
      refine wpAnyH_take (i := 2) (oi := ?oi2M5) (v := ?v2M5) ?oi0_2M5 (by kernel_rfl) ?ff2M5 ?rr2M5 ?hq2M5 (Or.inl ⟨?hw2M5, ?hy2M5⟩) (by assumption) ?rest2M5
      case oi0_2M5 => conv => lhs; whnf; arg 1; whnf
      case hq2M5 => exact fun _ _ _ h => h
      case ff2M5 | rr2M5 => kernel_rfl
      case hw2M5 => rfl
      case hy2M5 => intro w hSw; (try dsimp only at hSw); first | (go_simp; done) | (go_simp; with_reducible rfl)
      try simp only [Act.put, List.setIfInBounds_toArray, List.set_cons_zero, List.set_cons_succ]
      refine wpAnyH_take (i := 3) (oi := ?oi3M5) (v := ?v3M5) ?oi0_3M5 (by kernel_rfl) ?ff3M5 ?rr3M5 ?hq3M5 (Or.inl ⟨?hw3M5, ?hy3M5⟩) (by assumption) ?rest3M5
      case oi0_3M5 => conv => lhs; whnf; arg 1; whnf
      case hq3M5 => exact fun _ _ _ h => h
      case ff3M5 | rr3M5 => kernel_rfl
      case hw3M5 => rfl
      case hy3M5 => intro w hSw; (try dsimp only at hSw); first | (go_simp; done) | (go_simp; with_reducible rfl)
      try simp only [Act.put, List.setIfInBounds_toArray, List.set_cons_zero, List.set_cons_succ]
      refine wpAnyH_take (i := 4) (oi := ?oi4M5) (v := ?v4M5) ?oi0_4M5 (by kernel_rfl) ?ff4M5 ?rr4M5 ?hq4M5 (Or.inl ⟨?hw4M5, ?hy4M5⟩) (by assumption) ?rest4M5
      case oi0_4M5 => conv => lhs; whnf; arg 1; whnf
      case hq4M5 => exact fun _ _ _ h => h
      case ff4M5 | rr4M5 => kernel_rfl
      case hw4M5 => rfl
      case hy4M5 => intro w hSw; (try dsimp only at hSw); first | (go_simp; done) | (go_simp; with_reducible rfl)
      try simp only [Act.put, List.setIfInBounds_toArray, List.set_cons_zero, List.set_cons_succ]
      refine wpAnyH_take (i := 5) (oi := ?oi5M5) (v := ?v5M5) ?oi0_5M5 (by kernel_rfl) ?ff5M5 ?rr5M5 ?hq5M5 (Or.inl ⟨?hw5M5, ?hy5M5⟩) (by assumption) ?rest5M5
      case oi0_5M5 => conv => lhs; whnf; arg 1; whnf
      case hq5M5 => exact fun _ _ _ h => h
      case ff5M5 | rr5M5 => kernel_rfl
      case hw5M5 => rfl
      case hy5M5 => intro w hSw; (try dsimp only at hSw); first | (go_simp; done) | (go_simp; with_reducible rfl)
      try simp only [Act.put, List.setIfInBounds_toArray, List.set_cons_zero, List.set_cons_succ]
      refine wpAnyH_take (i := 6) (oi := ?oi6M5) (v := ?v6M5) ?oi0_6M5 (by kernel_rfl) ?ff6M5 ?rr6M5 ?hq6M5 (Or.inl ⟨?hw6M5, ?hy6M5⟩) (by assumption) ?rest6M5
      case oi0_6M5 => conv => lhs; whnf; arg 1; whnf
      case hq6M5 => exact fun _ _ _ h => h
      case ff6M5 | rr6M5 => kernel_rfl
      case hw6M5 => rfl
      case hy6M5 => intro w hSw; (try dsimp only at hSw); first | (go_simp; done) | (go_simp; with_reducible rfl)
      try simp only [Act.put, List.setIfInBounds_toArray, List.set_cons_zero, List.set_cons_succ]
      refine wpAnyH_take (i := 7) (oi := ?oi7M5) (v := ?v7M5) ?oi0_7M5 (by kernel_rfl) ?ff7M5 ?rr7M5 ?hq7M5 (Or.inl ⟨?hw7M5, ?hy7M5⟩) (by assumption) ?rest7M5
      case oi0_7M5 => conv => lhs; whnf; arg 1; whnf
      case hq7M5 => exact fun _ _ _ h => h
      case ff7M5 | rr7M5 => kernel_rfl
      case hw7M5 => rfl
      case hy7M5 => intro w hSw; (try dsimp only at hSw); first | (go_simp; done) | (go_simp; with_reducible rfl)
      try simp only [Act.put, List.setIfInBounds_toArray, List.set_cons_zero, List.set_cons_succ]
      refine wpAnyH_take (i := 8) (oi := ?oi8M5) (v := ?v8M5) ?oi0_8M5 (by kernel_rfl) ?ff8M5 ?rr8M5 ?hq8M5 (Or.inl ⟨?hw8M5, ?hy8M5⟩) (by assumption) ?rest8M5
      case oi0_8M5 => conv => lhs; whnf; arg 1; whnf
      case hq8M5 => exact fun _ _ _ h => h
      case ff8M5 | rr8M5 => kernel_rfl
      case hw8M5 => rfl
      case hy8M5 => intro w hSw; (try dsimp only at hSw); first | (go_simp; done) | (go_simp; with_reducible rfl)
      try simp only [Act.put, List.setIfInBounds_toArray, List.set_cons_zero, List.set_cons_succ]
      refine wpAnyH_take (i := 9) (oi := ?oi9M5) (v := ?v9M5) ?oi0_9M5 (by kernel_rfl) ?ff9M5 ?rr9M5 ?hq9M5 (Or.inl ⟨?hw9M5, ?hy9M5⟩) (by assumption) ?rest9M5
      case oi0_9M5 => conv => lhs; whnf; arg 1; whnf
      case hq9M5 => exact fun _ _ _ h => h
      case ff9M5 | rr9M5 => kernel_rfl
      case hw9M5 => rfl
      case hy9M5 => intro w hSw; (try dsimp only at hSw); first | (go_simp; done) | (go_simp; with_reducible rfl)
      try simp only [Act.put, List.setIfInBounds_toArray, List.set_cons_zero, List.set_cons_succ]
      refine wpAnyH_take (i := 10) (oi := ?oi10M5) (v := ?v10M5) ?oi0_10M5 (by kernel_rfl) ?ff10M5 ?rr10M5 ?hq10M5 (Or.inl ⟨?hw10M5, ?hy10M5⟩) (by assumption) ?rest10M5
      case oi0_10M5 => conv => lhs; whnf; arg 1; whnf
      case hq10M5 => exact fun _ _ _ h => h
      case ff10M5 | rr10M5 => kernel_rfl
      case hw10M5 => rfl
      case hy10M5 => intro w hSw; (try dsimp only at hSw); first | (go_simp; done) | (go_simp; with_reducible rfl)
      try simp only [Act.put, List.setIfInBounds_toArray, List.set_cons_zero, List.set_cons_succ]
      refine wpAnyH_take (i := 11) (oi := ?oi11M5) (v := ?v11M5) ?oi0_11M5 (by kernel_rfl) ?ff11M5 ?rr11M5 ?hq11M5 (Or.inl ⟨?hw11M5, ?hy11M5⟩) (by assumption) ?rest11M5
      case oi0_11M5 => conv => lhs; whnf; arg 1; whnf
      case hq11M5 => exact fun _ _ _ h => h
      case ff11M5 | rr11M5 => kernel_rfl
      case hw11M5 => rfl
      case hy11M5 => intro w hSw; (try dsimp only at hSw); first | (go_simp; done) | (go_simp; with_reducible rfl)
      try simp only [Act.put, List.setIfInBounds_toArray, List.set_cons_zero, List.set_cons_succ]
      refine wpAnyH_take (i := 12) (oi := ?oi12M5) (v := ?v12M5) ?oi0_12M5 (by kernel_rfl) ?ff12M5 ?rr12M5 ?hq12M5 (Or.inl ⟨?hw12M5, ?hy12M5⟩) (by assumption) ?rest12M5
      case oi0_12M5 => conv => lhs; whnf; arg 1; whnf
      case hq12M5 => exact fun _ _ _ h => h
      case ff12M5 | rr12M5 => kernel_rfl
      case hw12M5 => rfl
      case hy12M5 => intro w hSw; (try dsimp only at hSw); first | (go_simp; done) | (go_simp; with_reducible rfl)
      try simp only [Act.put, List.setIfInBounds_toArray, List.set_cons_zero, List.set_cons_succ]
      refine wpAnyH_take (i := 13) (oi := ?oi13M5) (v := ?v13M5) ?oi0_13M5 (by kernel_rfl) ?ff13M5 ?rr13M5 ?hq13M5 (Or.inl ⟨?hw13M5, ?hy13M5⟩) (by assumption) ?rest13M5
      case oi0_13M5 => conv => lhs; whnf; arg 1; whnf
      case hq13M5 => exact fun _ _ _ h => h
      case ff13M5 | rr13M5 => kernel_rfl
      case hw13M5 => rfl
      case hy13M5 => intro w hSw; (try dsimp only at hSw); first | (go_simp; done) | (go_simp; with_reducible rfl)
      try simp only [Act.put, List.setIfInBounds_toArray, List.set_cons_zero, List.set_cons_succ]
      refine wpAnyH_take (i := 14) (oi := ?oi14M5) (v := ?v14M5) ?oi0_14M5 (by kernel_rfl) ?ff14M5 ?rr14M5 ?hq14M5 (Or.inl ⟨?hw14M5, ?hy14M5⟩) (by assumption) ?rest14M5
      case oi0_14M5 => conv => lhs; whnf; arg 1; whnf
      case hq14M5 => exact fun _ _ _ h => h
      case ff14M5 | rr14M5 => kernel_rfl
      case hw14M5 => rfl
      case hy14M5 => intro w hSw; (try dsimp only at hSw); first | (go_simp; done) | (go_simp; with_reducible rfl)
      try simp only [Act.put, List.setIfInBounds_toArray, List.set_cons_zero, List.set_cons_succ]
      refine wpAnyH_take (i := 15) (oi := ?oi15M5) (v := ?v15M5) ?oi0_15M5 (by kernel_rfl) ?ff15M5 ?rr15M5 ?hq15M5 (Or.inl ⟨?hw15M5, ?hy15M5⟩) (by assumption) ?rest15M5
      case oi0_15M5 => conv => lhs; whnf; arg 1; whnf
      case hq15M5 => exact fun _ _ _ h => h
      case ff15M5 | rr15M5 => kernel_rfl
      case hw15M5 => rfl
      case hy15M5 => intro w hSw; (try dsimp only at hSw); first | (go_simp; done) | (go_simp; with_reducible rfl)
      try simp only [Act.put, List.setIfInBounds_toArray, List.set_cons_zero, List.set_cons_succ]
      refine wpAnyH_take (i := 16) (oi := ?oi16M5) (v := ?v16M5) ?oi0_16M5 (by kernel_rfl) ?ff16M5 ?rr16M5 ?hq16M5 (Or.inl ⟨?hw16M5, ?hy16M5⟩) (by assumption) ?rest16M5
      case oi0_16M5 => conv => lhs; whnf; arg 1; whnf
      case hq16M5 => exact fun _ _ _ h => h
      case ff16M5 | rr16M5 => kernel_rfl
      case hw16M5 => rfl
      case hy16M5 => intro w hSw; (try dsimp only at hSw); first | (go_simp; done) | (go_simp; with_reducible rfl)
      try simp only [Act.put, List.setIfInBounds_toArray, List.set_cons_zero, List.set_cons_succ]
      refine wpAnyH_take (i := 17) (oi := ?oi17M5) (v := ?v17M5) ?oi0_17M5 (by kernel_rfl) ?ff17M5 ?rr17M5 ?hq17M5 (Or.inl ⟨?hw17M5, ?hy17M5⟩) (by assumption) ?rest17M5
      case oi0_17M5 => conv => lhs; whnf; arg 1; whnf
      case hq17M5 => exact fun _ _ _ h => h
      case ff17M5 | rr17M5 => kernel_rfl
      case hw17M5 => rfl
      case hy17M5 => intro w hSw; (try dsimp only at hSw); first | (go_simp; done) | (go_simp; with_reducible rfl)
      try simp only [Act.put, List.setIfInBounds_toArray, List.set_cons_zero, List.set_cons_succ]
      refine wpAnyH_take (i := 18) (oi := ?oi18M5) (v := ?v18M5) ?oi0_18M5 (by kernel_rfl) ?ff18M5 ?rr18M5 ?hq18M5 (Or.inl ⟨?hw18M5, ?hy18M5⟩) (by assumption) ?rest18M5
      case oi0_18M5 => conv => lhs; whnf; arg 1; whnf
      case hq18M5 => exact fun _ _ _ h => h
      case ff18M5 | rr18M5 => kernel_rfl
      case hw18M5 => rfl
      case hy18M5 => intro w hSw; (try dsimp only at hSw); first | (go_simp; done) | (go_simp; with_reducible rfl)
      try simp only [Act.put, List.setIfInBounds_toArray, List.set_cons_zero, List.set_cons_succ]
      refine wpAnyH_take (i := 19) (oi := ?oi19M5) (v := ?v19M5) ?oi0_19M5 (by kernel_rfl) ?ff19M5 ?rr19M5 ?hq19M5 (Or.inl ⟨?hw19M5, ?hy19M5⟩) (by assumption) ?rest19M5
      case oi0_19M5 => conv => lhs; whnf; arg 1; whnf
      case hq19M5 => exact fun _ _ _ h => h
      case ff19M5 | rr19M5 => kernel_rfl
      case hw19M5 => rfl
      case hy19M5 => intro w hSw; (try dsimp only at hSw); first | (go_simp; done) | (go_simp; with_reducible rfl)
      try simp only [Act.put, List.setIfInBounds_toArray, List.set_cons_zero, List.set_cons_succ]
      refine wpAnyH_take (i := 20) (oi := ?oi20M5) (v := ?v20M5) ?oi0_20M5 (by kernel_rfl) ?ff20M5 ?rr20M5 ?hq20M5 (Or.inl ⟨?hw20M5, ?hy20M5⟩) (by assumption) ?rest20M5
      case oi0_20M5 => conv => lhs; whnf; arg 1; whnf
      case hq20M5 => exact fun _ _ _ h => h
      case ff20M5 | rr20M5 => kernel_rfl
      case hw20M5 => rfl
      case hy20M5 => intro w hSw; (try dsimp only at hSw); first | (go_simp; done) | (go_simp; with_reducible rfl)
      try simp only [Act.put, List.setIfInBounds_toArray, List.set_cons_zero, List.set_cons_succ]
      refine wpAnyH_take (i := 21) (oi := ?oi21M5) (v := ?v21M5) ?oi0_21M5 (by kernel_rfl) ?ff21M5 ?rr21M5 ?hq21M5 (Or.inl ⟨?hw21M5, ?hy21M5⟩) (by assumption) ?rest21M5
      case oi0_21M5 => conv => lhs; whnf; arg 1; whnf
      case hq21M5 => exact fun _ _ _ h => h
      case ff21M5 | rr21M5 => kernel_rfl
      case hw21M5 => rfl
      case hy21M5 => intro w hSw; (try dsimp only at hSw); first | (go_simp; done) | (go_simp; with_reducible rfl)
      try simp only [Act.put, List.setIfInBounds_toArray, List.set_cons_zero, List.set_cons_succ]
      refine wpAnyH_take (i := 22) (oi := ?oi22M5) (v := ?v22M5) ?oi0_22M5 (by kernel_rfl) ?ff22M5 ?rr22M5 ?hq22M5 (Or.inl ⟨?hw22M5, ?hy22M5⟩) (by assumption) ?rest22M5
      case oi0_22M5 => conv => lhs; whnf; arg 1; whnf
      case hq22M5 => exact fun _ _ _ h => h
      case ff22M5 | rr22M5 => kernel_rfl
      case hw22M5 => rfl
      case hy22M5 => intro w hSw; (try dsimp only at hSw); first | (go_simp; done) | (go_simp; with_reducible rfl)
      try simp only [Act.put, List.setIfInBounds_toArray, List.set_cons_zero, List.set_cons_succ]
      refine wpAnyH_take (i := 23) (oi := ?oi23M5) (v := ?v23M5) ?oi0_23M5 (by kernel_rfl) ?ff23M5 ?rr23M5 ?hq23M5 (Or.inl ⟨?hw23M5, ?hy23M5⟩) (by assumption) ?rest23M5
      case oi0_23M5 => conv => lhs; whnf; arg 1; whnf
      case hq23M5 => exact fun _ _ _ h => h
      case ff23M5 | rr23M5 => kernel_rfl
      case hw23M5 => rfl
      case hy23M5 => intro w hSw; (try dsimp only at hSw); first | (go_simp; done) | (go_simp; with_reducible rfl)
      try simp only [Act.put, List.setIfInBounds_toArray, List.set_cons_zero, List.set_cons_succ]
      refine wpAnyH_take (i := 24) (oi := ?oi24M5) (v := ?v24M5) ?oi0_24M5 (by kernel_rfl) ?ff24M5 ?rr24M5 ?hq24M5 (Or.inl ⟨?hw24M5, ?hy24M5⟩) (by assumption) ?rest24M5
      case oi0_24M5 => conv => lhs; whnf; arg 1; whnf
      case hq24M5 => exact fun _ _ _ h => h
      case ff24M5 | rr24M5 => kernel_rfl
      case hw24M5 => rfl
      case hy24M5 => intro w hSw; (try dsimp only at hSw); first | (go_simp; done) | (go_simp; with_reducible rfl)
      try simp only [Act.put, List.setIfInBounds_toArray, List.set_cons_zero, List.set_cons_succ]
      refine wpAnyH_take (i := 25) (oi := ?oi25M5) (v := ?v25M5) ?oi0_25M5 (by kernel_rfl) ?ff25M5 ?rr25M5 ?hq25M5 (Or.inl ⟨?hw25M5, ?hy25M5⟩) (by assumption) ?rest25M5
      case oi0_25M5 => conv => lhs; whnf; arg 1; whnf
      case hq25M5 => exact fun _ _ _ h => h
      case ff25M5 | rr25M5 => kernel_rfl
      case hw25M5 => rfl
      case hy25M5 => intro w hSw; (try dsimp only at hSw); first | (go_simp; done) | (go_simp; with_reducible rfl)
      try simp only [Act.put, List.setIfInBounds_toArray, List.set_cons_zero, List.set_cons_succ]
      refine wpAnyH_take (i := 26) (oi := ?oi26M5) (v := ?v26M5) ?oi0_26M5 (by kernel_rfl) ?ff26M5 ?rr26M5 ?hq26M5 (Or.inl ⟨?hw26M5, ?hy26M5⟩) (by assumption) ?rest26M5
      case oi0_26M5 => conv => lhs; whnf; arg 1; whnf
      case hq26M5 => exact fun _ _ _ h => h
      case ff26M5 | rr26M5 => kernel_rfl
      case hw26M5 => rfl
      case hy26M5 => intro w hSw; (try dsimp only at hSw); first | (go_simp; done) | (go_simp; with_reducible rfl)
      try simp only [Act.put, List.setIfInBounds_toArray, List.set_cons_zero, List.set_cons_succ]
      refine wpAnyH_take (i := 27) (oi := ?oi27M5) (v := ?v27M5) ?oi0_27M5 (by kernel_rfl) ?ff27M5 ?rr27M5 ?hq27M5 (Or.inl ⟨?hw27M5, ?hy27M5⟩) (by assumption) ?rest27M5
      case oi0_27M5 => conv => lhs; whnf; arg 1; whnf
      case hq27M5 => exact fun _ _ _ h => h
      case ff27M5 | rr27M5 => kernel_rfl
      case hw27M5 => rfl
      case hy27M5 => intro w hSw; (try dsimp only at hSw); first | (go_simp; done) | (go_simp; with_reducible rfl)
      try simp only [Act.put, List.setIfInBounds_toArray, List.set_cons_zero, List.set_cons_succ]
      refine wpAnyH_take (i := 28) (oi := ?oi28M5) (v := ?v28M5) ?oi0_28M5 (by kernel_rfl) ?ff28M5 ?rr28M5 ?hq28M5 (Or.inl ⟨?hw28M5, ?hy28M5⟩) (by assumption) ?rest28M5
      case oi0_28M5 => conv => lhs; whnf; arg 1; whnf
      case hq28M5 => exact fun _ _ _ h => h
      case ff28M5 | rr28M5 => kernel_rfl
      case hw28M5 => rfl
      case hy28M5 => intro w hSw; (try dsimp only at hSw); first | (go_simp; done) | (go_simp; with_reducible rfl)
      try simp only [Act.put, List.setIfInBounds_toArray, List.set_cons_zero, List.set_cons_succ]
      refine wpAnyH_take (i := 29) (oi := ?oi29M5) (v := ?v29M5) ?oi0_29M5 (by kernel_rfl) ?ff29M5 ?rr29M5 ?hq29M5 (Or.inl ⟨?hw29M5, ?hy29M5⟩) (by assumption) ?rest29M5
      case oi0_29M5 => conv => lhs; whnf; arg 1; whnf
      case hq29M5 => exact fun _ _ _ h => h
      case ff29M5 | rr29M5 => kernel_rfl
      case hw29M5 => rfl
      case hy29M5 => intro w hSw; (try dsimp only at hSw); first | (go_simp; done) | (go_simp; with_reducible rfl)
      try simp only [Act.put, List.setIfInBounds_toArray, List.set_cons_zero, List.set_cons_succ]
      refine wpAnyH_take (i := 30) (oi := ?oi30M5) (v := ?v30M5) ?oi0_30M5 (by kernel_rfl) ?ff30M5 ?rr30M5 ?hq30M5 (Or.inl ⟨?hw30M5, ?hy30M5⟩) (by assumption) ?rest30M5
      case oi0_30M5 => conv => lhs; whnf; arg 1; whnf
      case hq30M5 => exact fun _ _ _ h => h
      case ff30M5 | rr30M5 => kernel_rfl
      case hw30M5 => rfl
      case hy30M5 => intro w hSw; (try dsimp only at hSw); first | (go_simp; done) | (go_simp; with_reducible rfl)
      try simp only [Act.put, List.setIfInBounds_toArray, List.set_cons_zero, List.set_cons_succ]
      refine wpAnyH_take (i := 31) (oi := ?oi31M5) (v := ?v31M5) ?oi0_31M5 (by kernel_rfl) ?ff31M5 ?rr31M5 ?hq31M5 (Or.inl ⟨?hw31M5, ?hy31M5⟩) (by assumption) ?rest31M5
      case oi0_31M5 => conv => lhs; whnf; arg 1; whnf
      case hq31M5 => exact fun _ _ _ h => h
      case ff31M5 | rr31M5 => kernel_rfl
      case hw31M5 => rfl
      case hy31M5 => intro w hSw; (try dsimp only at hSw); first | (go_simp; done) | (go_simp; with_reducible rfl)
      try simp only [Act.put, List.setIfInBounds_toArray, List.set_cons_zero, List.set_cons_succ]
      refine wpAnyH_take (i := 32) (oi := ?oi32M5) (v := ?v32M5) ?oi0_32M5 (by kernel_rfl) ?ff32M5 ?rr32M5 ?hq32M5 (Or.inl ⟨?hw32M5, ?hy32M5⟩) (by assumption) ?rest32M5
      case oi0_32M5 => conv => lhs; whnf; arg 1; whnf
      case hq32M5 => exact fun _ _ _ h => h
      case ff32M5 | rr32M5 => kernel_rfl
      case hw32M5 => rfl
      case hy32M5 => intro w hSw; (try dsimp only at hSw); first | (go_simp; done) | (go_simp; with_reducible rfl)
      try simp only [Act.put, List.setIfInBounds_toArray, List.set_cons_zero, List.set_cons_succ]
      refine wpAnyH_take (i := 33) (oi := ?oi33M5) (v := ?v33M5) ?oi0_33M5 (by kernel_rfl) ?ff33M5 ?rr33M5 ?hq33M5 (Or.inl ⟨?hw33M5, ?hy33M5⟩) (by assumption) ?rest33M5
      case oi0_33M5 => conv => lhs; whnf; arg 1; whnf
      case hq33M5 => exact fun _ _ _ h => h
      case ff33M5 | rr33M5 => kernel_rfl
      case hw33M5 => rfl
      case hy33M5 => intro w hSw; (try dsimp only at hSw); first | (go_simp; done) | (go_simp; with_reducible rfl)
      try simp only [Act.put, List.setIfInBounds_toArray, List.set_cons_zero, List.set_cons_succ]
      refine wpAnyH_ready (rs := [34]) (by kernel_rfl) (by simp) (AllReadyH.cons (o := ?oiM6) ?oi0_M6 (fun K hK => ?_) AllReadyH.nil)
      case oi0_M6 => conv => lhs; whnf; arg 1; whnf
      go_simp
      obtain ⟨v2, hw⟩ : ∃ x, v1.alloc (.cells #[.int .u32 (bits .or .u32 (bits .or .u32 (bits .or .u32 ((y0 : Int) * 16777216) ((y1 : Int) * 65536)) ((y2 : Int) * 256)) (y3 : Int))] 109) = x := ⟨_, rfl⟩
      have u : Upd [] v1 v2 := by rw [← hw]; exact (Upd.refl [] _).alloc _
      have HNW := hide (show ∀ j v, ([.int .u32 (bits .or .u32 (bits .or .u32 (bits .or .u32 ((y0 : Int) * 16777216) ((y1 : Int) * 65536)) ((y2 : Int) * 256)) (y3 : Int))] : List Value)[j]? = some v → v2.cell? ((⟨v1.heap.size, 0, none⟩ : Addr).add j) = some v by rw [← hw]; exact cells_new v1 [.int .u32 (bits .or .u32 (bits .or .u32 (bits .or .u32 ((y0 : Int) * 16777216) ((y1 : Int) * 65536)) ((y2 : Int) * 256)) (y3 : Int))] 109)
      rw [hw]
      clear hw
      replace HO := hide (own_kept HO.out u (by simp))
      replace HU := hide (HU.out.trans u (by simp))
      have hS : v2.cell? ⟨gb, go + q, none⟩ = some (.int .u8 (y0 : Int)) ∧ v2.cell? ⟨gb, go + q1, none⟩ = some (.int .u8 (y1 : Int)) ∧ v2.cell? ⟨gb, go + q2, none⟩ = some (.int .u8 (y2 : Int)) ∧ v2.cell? ⟨gb, go + q3, none⟩ = some (.int .u8 (y3 : Int)) := ⟨keepc _ _ _ _ u hHeld.1, keepc _ _ _ _ u hHeld.2.1, keepc _ _ _ _ u hHeld.2.2.1, keepc _ _ _ _ u hHeld.2.2.2⟩
      clear u hHeld
      (try dsimp only)
      refine hK.out _ _ (by exact hS) (fun hHeld => ?_)
      clear hK K
      try simp only [Act.put, List.setIfInBounds_toArray, List.set_cons_zero, List.set_cons_succ]
      clear hS
      refine wpAnyH_ready (rs := [35]) (by kernel_rfl) (by simp) (AllReadyH.cons (o := ?oiM7) ?oi0_M7 (fun K hK => ?_) AllReadyH.nil)
      case oi0_M7 => conv => lhs; whnf; arg 1; whnf
      refine step_append_keep rfl (.tmp 23) (.tmp 57) _ rfl w.heap.size 109 (.int .u32 0) 4 Tryz.underlying110 info_u32 rfl A k c5 _ rfl HO.out ⟨v1.heap.size, 0, none⟩ 1 1 [.int .u32 (bits .or .u32 (bits .or .u32 (bits .or .u32 ((y0 : Int) * 16777216) ((y1 : Int) * 65536)) ((y2 : Int) * 256)) (y3 : Int))] rfl rfl HNW.out (by simp [Value.oneCell']) (by unfold maxLen; omega) (by omega) HU.out.size ?_
      intro A5 c5 w5 h5 u hk5
      have HO5 := hide h5
      have hU5 := HU.out.trans u (fun x hx => .inr (it_own_block HO.out x (by rw [ownBlock_slice]; first | (simpa using hx) | (simp at hx; rw [hx]; rfl))))
      clear hHeld u hk5 h5
      have hS : w5.cell? ⟨gb, go + q, none⟩ = some (.int .u8 (y0 : Int)) ∧ w5.cell? ⟨gb, go + q1, none⟩ = some (.int .u8 (y1 : Int)) ∧ w5.cell? ⟨gb, go + q2, none⟩ = some (.int .u8 (y2 : Int)) ∧ w5.cell? ⟨gb, go + q3, none⟩ = some (.int .u8 (y3 : Int)) := ⟨keepc _ _ _ _ hU5 HC0.out, keepc _ _ _ _ hU5 HC1.out, keepc _ _ _ _ hU5 HC2.out, keepc _ _ _ _ hU5 HC3.out⟩
      have HU5 := hide hU5
      clear hU5
      (try dsimp only)
      refine hK.out _ _ (by exact hS) (fun hHeld => ?_)
      clear hK K
      try simp only [Act.put, List.setIfInBounds_toArray, List.set_cons_zero, List.set_cons_succ]
      clear hS
      refine wpAnyH_take (i := 36) (oi := ?oi36M8) (v := ?v36M8) ?oi0_36M8 (by kernel_rfl) ?ff36M8 ?rr36M8 ?hq36M8 (Or.inl ⟨?hw36M8, ?hy36M8⟩) (by assumption) ?rest36M8
      case oi0_36M8 => conv => lhs; whnf; arg 1; whnf
      case hq36M8 => exact fun _ _ _ h => h
      case ff36M8 | rr36M8 => kernel_rfl
      case hw36M8 => rfl
      case hy36M8 => intro w hSw; (try dsimp only at hSw); first | (go_simp; done) | (go_simp; with_reducible rfl)
      try simp only [Act.put, List.setIfInBounds_toArray, List.set_cons_zero, List.set_cons_succ]
      refine wpAnyH_done (by kernel_rfl) ?_ _
      go_wp2_with fail
      go_roundw
      case rel => exact ⟨k + 1, A5, c5, by omega, rfl, by go_num, hide (by rw [List.take_add_one, HV.out, Option.toList_some, List.map_append]; exact HO5.out), HU5⟩
      case measure => simp [intOf] <;> omega
    obtain rfl : k = 16 := by omega
    have hki : ¬ (((16 : Nat) : Int)) < 16 := by omega
    clear hk hk16
    obtain ⟨wb, rfl⟩ := own_some hO.out (by omega)
    have HO := hide (show (wo.ownsRow w.heap.size 109 1 (.slice (some ⟨wb, 0, none⟩) 16 c5) 16 ((schedTo bs 0).map (Value.int .u32))) from by have h9 := hO.out; rw [List.take_of_length_le (by rw [first16_length]; exact Nat.le_refl _)] at h9; exact h9)
    have HU := hU
    clear hO hU
    go_wp2_with fail
    go_loopw [5, 7] (fun s5 s7 wr => ∃ (i n wb c5 : Nat), n + 16 = i ∧ n ≤ 48 ∧ s5 = .slice (some ⟨wb, 0, none⟩) i c5 ∧ s7 = .int .i64 i ∧ Hid (wr.ownsRow w.heap.size 109 1 (.slice (some ⟨wb, 0, none⟩) i c5) i ((schedTo bs n).map (Value.int .u32))) ∧ Hid (Upd [] w wr)) (fun _ s _ => 64 - (intOf s).toNat)
    case atStart => exact ⟨16, 0, wb, c5, rfl, Nat.zero_le _, rfl, rfl, HO, HU⟩
    case round =>
      clear HO HU
      obtain ⟨i, n, wb, c5, hin, hn, rfl, rfl, hO, hU⟩ := hrel
      obtain ⟨wo, rfl⟩ : ∃ x : World, x = wr := ⟨_, rfl⟩
      by_cases hn48 : n < 48
      case pos =>
        have hi64 : i < 64 := by omega
        have hii : (i : Int) < 64 := by omega
        have hiw : IntKind.i64.wrap ((i : Int) + 1) = (i : Int) + 1 := Go.IntWalk.i64_in _ (by omega)
        have hWA := WordsAt.own hO.out
        obtain ⟨i16, he16⟩ : ∃ x, x + 16 = i := ⟨i - 16, by omega⟩
        have hw16 : IntKind.i64.wrap ((i : Int) - 16) = (i16 : Int) := by rw [Go.IntWalk.i64_in _ (by omega)]; omega
        have hl16 : (i16 : Int) < i := by omega
        have hm16 : i16 < i := by omega
        obtain ⟨x16, hx16⟩ : ∃ x, (schedTo bs n)[i16]? = some x := ⟨_, List.getElem?_eq_getElem (by rw [schedTo_length]; omega)⟩
        have HX16 := hide hx16
        have hd16 := sched_word bs n x16 (List.mem_of_getElem? hx16)
        have HD16 := hide hd16
        have HC16 := hide (hWA i16 x16 hx16)
        obtain ⟨i15, he15⟩ : ∃ x, x + 15 = i := ⟨i - 15, by omega⟩
        have hw15 : IntKind.i64.wrap ((i : Int) - 15) = (i15 : Int) := by rw [Go.IntWalk.i64_in _ (by omega)]; omega
        have hl15 : (i15 : Int) < i := by omega
        have hm15 : i15 < i := by omega
        obtain ⟨x15, hx15⟩ : ∃ x, (schedTo bs n)[i15]? = some x := ⟨_, List.getElem?_eq_getElem (by rw [schedTo_length]; omega)⟩
        have HX15 := hide hx15
        have hd15 := sched_word bs n x15 (List.mem_of_getElem? hx15)
        have HD15 := hide hd15
        have HC15 := hide (hWA i15 x15 hx15)
        obtain ⟨i7, he7⟩ : ∃ x, x + 7 = i := ⟨i - 7, by omega⟩
        have hw7 : IntKind.i64.wrap ((i : Int) - 7) = (i7 : Int) := by rw [Go.IntWalk.i64_in _ (by omega)]; omega
        have hl7 : (i7 : Int) < i := by omega
        have hm7 : i7 < i := by omega
        obtain ⟨x7, hx7⟩ : ∃ x, (schedTo bs n)[i7]? = some x := ⟨_, List.getElem?_eq_getElem (by rw [schedTo_length]; omega)⟩
        have HX7 := hide hx7
        have hd7 := sched_word bs n x7 (List.mem_of_getElem? hx7)
        have HD7 := hide hd7
        have HC7 := hide (hWA i7 x7 hx7)
        obtain ⟨i2, he2⟩ : ∃ x, x + 2 = i := ⟨i - 2, by omega⟩
        have hw2 : IntKind.i64.wrap ((i : Int) - 2) = (i2 : Int) := by rw [Go.IntWalk.i64_in _ (by omega)]; omega
        have hl2 : (i2 : Int) < i := by omega
        have hm2 : i2 < i := by omega
        obtain ⟨x2, hx2⟩ : ∃ x, (schedTo bs n)[i2]? = some x := ⟨_, List.getElem?_eq_getElem (by rw [schedTo_length]; omega)⟩
        have HX2 := hide hx2
        have hd2 := sched_word bs n x2 (List.mem_of_getElem? hx2)
        have HD2 := hide hd2
        have HC2 := hide (hWA i2 x2 hx2)
        have HS := hide (show schedTo bs (n + 1) = schedTo bs n ++ [schedNext x16 x15 x7 x2] by
          show schedTo bs n ++ [schedNext ((schedTo bs n)[n]?.getD 0) ((schedTo bs n)[n + 1]?.getD 0) ((schedTo bs n)[n + 9]?.getD 0) ((schedTo bs n)[n + 14]?.getD 0)] = _
          rw [show n = i16 by omega] at *
          rw [show i16 + 1 = i15 by omega, show i16 + 9 = i7 by omega, show i16 + 14 = i2 by omega, hx16, hx15, hx7, hx2]
          rfl)
        clear hx16 hd16
        clear hx15 hd15
        clear hx7 hd7
        clear hx2 hd2
        have HO := hO
        have HU := hU
        clear hO hU hWA
        go_wp2_with fail
        refine wp_region_held_drew (S := (fun w' => w'.cell? ⟨wb, i15, none⟩ = some (.int .u32 x15))) (by kernel_rfl) (by exact HC15.out) (fun hHeld => ?_)
        obtain ⟨v3, hwD⟩ : ∃ x, wo.drew = x := ⟨_, rfl⟩
        have u : Upd [] wo v3 := by rw [← hwD]; exact (Upd.refl [] _).drew
        rw [hwD] at hHeld ⊢
        clear hwD
        replace HO := hide (own_kept HO.out u (by simp))
        replace HU := hide (HU.out.trans u (by simp))
        replace HC16 := hide (keepc _ _ _ _ u HC16.out)
        replace HC15 := hide (keepc _ _ _ _ u HC15.out)
        replace HC7 := hide (keepc _ _ _ _ u HC7.out)
        replace HC2 := hide (keepc _ _ _ _ u HC2.out)
        clear u
        refine wpAnyH_take (i := 0) (oi := ?oi0M11) (v := ?v0M11) ?oi0_0M11 (by kernel_rfl) ?ff0M11 ?rr0M11 ?hq0M11 (Or.inl ⟨?hw0M11, ?hy0M11⟩) (by assumption) ?rest0M11
        case oi0_0M11 => conv => lhs; whnf; arg 1; whnf
        case hq0M11 => exact fun _ _ _ h => h
        case ff0M11 | rr0M11 => kernel_rfl
        case hw0M11 => rfl
        case hy0M11 => intro w hSw; (try dsimp only at hSw); first | (go_simp; done) | (go_simp; with_reducible rfl)
        try simp only [Act.put, List.setIfInBounds_toArray, List.set_cons_zero, List.set_cons_succ]
        refine wpAnyH_take (i := 1) (oi := ?oi1M11) (v := ?v1M11) ?oi0_1M11 (by kernel_rfl) ?ff1M11 ?rr1M11 ?hq1M11 (Or.inl ⟨?hw1M11, ?hy1M11⟩) (by assumption) ?rest1M11
        case oi0_1M11 => conv => lhs; whnf; arg 1; whnf
        case hq1M11 => exact fun _ _ _ h => h
        case ff1M11 | rr1M11 => kernel_rfl
        case hw1M11 => rfl
        case hy1M11 => intro w hSw; (try dsimp only at hSw); first | (go_simp; done) | (go_simp; with_reducible rfl)
        try simp only [Act.put, List.setIfInBounds_toArray, List.set_cons_zero, List.set_cons_succ]
        refine wpAnyH_take (i := 2) (oi := ?oi2M11) (v := ?v2M11) ?oi0_2M11 (by kernel_rfl) ?ff2M11 ?rr2M11 ?hq2M11 (Or.inl ⟨?hw2M11, ?hy2M11⟩) (by assumption) ?rest2M11
        case oi0_2M11 => conv => lhs; whnf; arg 1; whnf
        case hq2M11 => exact fun _ _ _ h => h
        case ff2M11 | rr2M11 => kernel_rfl
        case hw2M11 => rfl
        case hy2M11 => intro w hSw; (try dsimp only at hSw); first | (go_simp; done) | (go_simp; with_reducible rfl)
        try simp only [Act.put, List.setIfInBounds_toArray, List.set_cons_zero, List.set_cons_succ]
        refine wpAnyH_take (i := 3) (oi := ?oi3M11) (v := ?v3M11) ?oi0_3M11 (by kernel_rfl) ?ff3M11 ?rr3M11 ?hq3M11 (Or.inl ⟨?hw3M11, ?hy3M11⟩) (by assumption) ?rest3M11
        case oi0_3M11 => conv => lhs; whnf; arg 1; whnf
        case hq3M11 => exact fun _ _ _ h => h
        case ff3M11 | rr3M11 => kernel_rfl
        case hw3M11 => rfl
        case hy3M11 => intro w hSw; (try dsimp only at hSw); first | (go_simp; done) | (go_simp; with_reducible rfl)
        try simp only [Act.put, List.setIfInBounds_toArray, List.set_cons_zero, List.set_cons_succ]
        refine wpAnyH_take (i := 4) (oi := ?oi4M11) (v := ?v4M11) ?oi0_4M11 (by kernel_rfl) ?ff4M11 ?rr4M11 ?hq4M11 (Or.inl ⟨?hw4M11, ?hy4M11⟩) (by assumption) ?rest4M11
        case oi0_4M11 => conv => lhs; whnf; arg 1; whnf
        case hq4M11 => exact fun _ _ _ h => h
        case ff4M11 | rr4M11 => kernel_rfl
        case hw4M11 => rfl
        case hy4M11 => intro w hSw; (try dsimp only at hSw); first | (go_simp; done) | (go_simp; with_reducible rfl)
        try simp only [Act.put, List.setIfInBounds_toArray, List.set_cons_zero, List.set_cons_succ]
        refine wpAnyH_take (i := 6) (oi := ?oi6M11) (v := ?v6M11) ?oi0_6M11 (by kernel_rfl) ?ff6M11 ?rr6M11 ?hq6M11 (Or.inl ⟨?hw6M11, ?hy6M11⟩) (by assumption) ?rest6M11
        case oi0_6M11 => conv => lhs; whnf; arg 1; whnf
        case hq6M11 => exact fun _ _ _ h => h
        case ff6M11 | rr6M11 => kernel_rfl
        case hw6M11 => rfl
        case hy6M11 => intro w hSw; (try dsimp only at hSw); first | (go_simp; done) | (go_simp; with_reducible rfl)
        try simp only [Act.put, List.setIfInBounds_toArray, List.set_cons_zero, List.set_cons_succ]
        refine wpAnyH_take (i := 7) (oi := ?oi7M11) (v := ?v7M11) ?oi0_7M11 (by kernel_rfl) ?ff7M11 ?rr7M11 ?hq7M11 (Or.inl ⟨?hw7M11, ?hy7M11⟩) (by assumption) ?rest7M11
        case oi0_7M11 => conv => lhs; whnf; arg 1; whnf
        case hq7M11 => exact fun _ _ _ h => h
        case ff7M11 | rr7M11 => kernel_rfl
        case hw7M11 => rfl
        case hy7M11 => intro w hSw; (try dsimp only at hSw); first | (go_simp; done) | (go_simp; with_reducible rfl)
        try simp only [Act.put, List.setIfInBounds_toArray, List.set_cons_zero, List.set_cons_succ]
        refine wpAnyH_take (i := 8) (oi := ?oi8M11) (v := ?v8M11) ?oi0_8M11 (by kernel_rfl) ?ff8M11 ?rr8M11 ?hq8M11 (Or.inl ⟨?hw8M11, ?hy8M11⟩) (by assumption) ?rest8M11
        case oi0_8M11 => conv => lhs; whnf; arg 1; whnf
        case hq8M11 => exact fun _ _ _ h => h
        case ff8M11 | rr8M11 => kernel_rfl
        case hw8M11 => rfl
        case hy8M11 => intro w hSw; (try dsimp only at hSw); first | (go_simp; done) | (go_simp; with_reducible rfl)
        try simp only [Act.put, List.setIfInBounds_toArray, List.set_cons_zero, List.set_cons_succ]
        refine wpAnyH_take (i := 9) (oi := ?oi9M11) (v := ?v9M11) ?oi0_9M11 (by kernel_rfl) ?ff9M11 ?rr9M11 ?hq9M11 (Or.inl ⟨?hw9M11, ?hy9M11⟩) (by assumption) ?rest9M11
        case oi0_9M11 => conv => lhs; whnf; arg 1; whnf
        case hq9M11 => exact fun _ _ _ h => h
        case ff9M11 | rr9M11 => kernel_rfl
        case hw9M11 => rfl
        case hy9M11 => intro w hSw; (try dsimp only at hSw); first | (go_simp; done) | (go_simp; with_reducible rfl)
        try simp only [Act.put, List.setIfInBounds_toArray, List.set_cons_zero, List.set_cons_succ]
        refine wpAnyH_take (i := 10) (oi := ?oi10M11) (v := ?v10M11) ?oi0_10M11 (by kernel_rfl) ?ff10M11 ?rr10M11 ?hq10M11 (Or.inl ⟨?hw10M11, ?hy10M11⟩) (by assumption) ?rest10M11
        case oi0_10M11 => conv => lhs; whnf; arg 1; whnf
        case hq10M11 => exact fun _ _ _ h => h
        case ff10M11 | rr10M11 => kernel_rfl
        case hw10M11 => rfl
        case hy10M11 => intro w hSw; (try dsimp only at hSw); first | (go_simp; done) | (go_simp; with_reducible rfl)
        try simp only [Act.put, List.setIfInBounds_toArray, List.set_cons_zero, List.set_cons_succ]
        refine wpAnyH_take (i := 13) (oi := ?oi13M11) (v := ?v13M11) ?oi0_13M11 (by kernel_rfl) ?ff13M11 ?rr13M11 ?hq13M11 (Or.inl ⟨?hw13M11, ?hy13M11⟩) (by assumption) ?rest13M11
        case oi0_13M11 => conv => lhs; whnf; arg 1; whnf
        case hq13M11 => exact fun _ _ _ h => h
        case ff13M11 | rr13M11 => kernel_rfl
        case hw13M11 => rfl
        case hy13M11 => intro w hSw; (try dsimp only at hSw); first | (go_simp; done) | (go_simp; with_reducible rfl)
        try simp only [Act.put, List.setIfInBounds_toArray, List.set_cons_zero, List.set_cons_succ]
        refine wpAnyH_take (i := 14) (oi := ?oi14M11) (v := ?v14M11) ?oi0_14M11 (by kernel_rfl) ?ff14M11 ?rr14M11 ?hq14M11 (Or.inl ⟨?hw14M11, ?hy14M11⟩) (by assumption) ?rest14M11
        case oi0_14M11 => conv => lhs; whnf; arg 1; whnf
        case hq14M11 => exact fun _ _ _ h => h
        case ff14M11 | rr14M11 => kernel_rfl
        case hw14M11 => rfl
        case hy14M11 => intro w hSw; (try dsimp only at hSw); first | (go_simp; done) | (go_simp; with_reducible rfl)
        try simp only [Act.put, List.setIfInBounds_toArray, List.set_cons_zero, List.set_cons_succ]
        refine wpAnyH_take (i := 15) (oi := ?oi15M11) (v := ?v15M11) ?oi0_15M11 (by kernel_rfl) ?ff15M11 ?rr15M11 ?hq15M11 (Or.inl ⟨?hw15M11, ?hy15M11⟩) (by assumption) ?rest15M11
        case oi0_15M11 => conv => lhs; whnf; arg 1; whnf
        case hq15M11 => exact fun _ _ _ h => h
        case ff15M11 | rr15M11 => kernel_rfl
        case hw15M11 => rfl
        case hy15M11 => intro w hSw; (try dsimp only at hSw); first | (go_simp; done) | (go_simp; with_reducible rfl)
        try simp only [Act.put, List.setIfInBounds_toArray, List.set_cons_zero, List.set_cons_succ]
        refine wpAnyH_take (i := 16) (oi := ?oi16M11) (v := ?v16M11) ?oi0_16M11 (by kernel_rfl) ?ff16M11 ?rr16M11 ?hq16M11 (Or.inl ⟨?hw16M11, ?hy16M11⟩) (by assumption) ?rest16M11
        case oi0_16M11 => conv => lhs; whnf; arg 1; whnf
        case hq16M11 => exact fun _ _ _ h => h
        case ff16M11 | rr16M11 => kernel_rfl
        case hw16M11 => rfl
        case hy16M11 => intro w hSw; (try dsimp only at hSw); first | (go_simp; done) | (go_simp; with_reducible rfl)
        try simp only [Act.put, List.setIfInBounds_toArray, List.set_cons_zero, List.set_cons_succ]
        refine wpAnyH_take (i := 17) (oi := ?oi17M11) (v := ?v17M11) ?oi0_17M11 (by kernel_rfl) ?ff17M11 ?rr17M11 ?hq17M11 (Or.inl ⟨?hw17M11, ?hy17M11⟩) (by assumption) ?rest17M11
        case oi0_17M11 => conv => lhs; whnf; arg 1; whnf
        case hq17M11 => exact fun _ _ _ h => h
        case ff17M11 | rr17M11 => kernel_rfl
        case hw17M11 => rfl
        case hy17M11 => intro w hSw; (try dsimp only at hSw); first | (go_simp; done) | (go_simp; with_reducible rfl)
        try simp only [Act.put, List.setIfInBounds_toArray, List.set_cons_zero, List.set_cons_succ]
        refine wpAnyH_take (i := 18) (oi := ?oi18M11) (v := ?v18M11) ?oi0_18M11 (by kernel_rfl) ?ff18M11 ?rr18M11 ?hq18M11 (Or.inl ⟨?hw18M11, ?hy18M11⟩) (by assumption) ?rest18M11
        case oi0_18M11 => conv => lhs; whnf; arg 1; whnf
        case hq18M11 => exact fun _ _ _ h => h
        case ff18M11 | rr18M11 => kernel_rfl
        case hw18M11 => rfl
        case hy18M11 => intro w hSw; (try dsimp only at hSw); first | (go_simp; done) | (go_simp; with_reducible rfl)
        try simp only [Act.put, List.setIfInBounds_toArray, List.set_cons_zero, List.set_cons_succ]
        refine wpAnyH_ready (rs := [5]) (by kernel_rfl) (by simp) (AllReadyH.cons (o := ?oiM12) ?oi0_M12 (fun K hK => ?_) AllReadyH.nil)
        case oi0_M12 => conv => lhs; whnf; arg 1; whnf
        go_simp
        refine (rotated_any x15 7 _ (by decide) (by decide) HD15.out).mono ?_
        rintro e v4 ⟨rfl, u⟩
        try simp only
        have hS : v4.cell? ⟨wb, i15, none⟩ = some (.int .u32 x15) := keepc _ _ _ _ u hHeld
        replace HO := hide (own_kept HO.out u (by simp))
        replace HU := hide (HU.out.trans u (by simp))
        replace HC16 := hide (keepc _ _ _ _ u HC16.out)
        replace HC15 := hide (keepc _ _ _ _ u HC15.out)
        replace HC7 := hide (keepc _ _ _ _ u HC7.out)
        replace HC2 := hide (keepc _ _ _ _ u HC2.out)
        clear u hHeld
        (try dsimp only)
        refine hK.out _ _ (by exact hS) (fun hHeld => ?_)
        clear hK K
        try simp only [Act.put, List.setIfInBounds_toArray, List.set_cons_zero, List.set_cons_succ]
        clear hS
        refine wpAnyH_ready (rs := [11]) (by kernel_rfl) (by simp) (AllReadyH.cons (o := ?oiM13) ?oi0_M13 (fun K hK => ?_) AllReadyH.nil)
        case oi0_M13 => conv => lhs; whnf; arg 1; whnf
        go_simp
        refine (rotated_any x15 18 _ (by decide) (by decide) HD15.out).mono ?_
        rintro e v5 ⟨rfl, u⟩
        try simp only
        have hS : v5.cell? ⟨wb, i15, none⟩ = some (.int .u32 x15) := keepc _ _ _ _ u hHeld
        replace HO := hide (own_kept HO.out u (by simp))
        replace HU := hide (HU.out.trans u (by simp))
        replace HC16 := hide (keepc _ _ _ _ u HC16.out)
        replace HC15 := hide (keepc _ _ _ _ u HC15.out)
        replace HC7 := hide (keepc _ _ _ _ u HC7.out)
        replace HC2 := hide (keepc _ _ _ _ u HC2.out)
        clear u hHeld
        (try dsimp only)
        refine hK.out _ _ (by exact hS) (fun hHeld => ?_)
        clear hK K
        try simp only [Act.put, List.setIfInBounds_toArray, List.set_cons_zero, List.set_cons_succ]
        clear hS
        refine wpAnyH_take (i := 12) (oi := ?oi12M14) (v := ?v12M14) ?oi0_12M14 (by kernel_rfl) ?ff12M14 ?rr12M14 ?hq12M14 (Or.inl ⟨?hw12M14, ?hy12M14⟩) (by assumption) ?rest12M14
        case oi0_12M14 => conv => lhs; whnf; arg 1; whnf
        case hq12M14 => exact fun _ _ _ h => h
        case ff12M14 | rr12M14 => kernel_rfl
        case hw12M14 => rfl
        case hy12M14 => intro w hSw; (try dsimp only at hSw); first | (go_simp; done) | (go_simp; with_reducible rfl)
        try simp only [Act.put, List.setIfInBounds_toArray, List.set_cons_zero, List.set_cons_succ]
        refine wpAnyH_take (i := 19) (oi := ?oi19M14) (v := ?v19M14) ?oi0_19M14 (by kernel_rfl) ?ff19M14 ?rr19M14 ?hq19M14 (Or.inl ⟨?hw19M14, ?hy19M14⟩) (by assumption) ?rest19M14
        case oi0_19M14 => conv => lhs; whnf; arg 1; whnf
        case hq19M14 => exact fun _ _ _ h => h
        case ff19M14 | rr19M14 => kernel_rfl
        case hw19M14 => rfl
        case hy19M14 => intro w hSw; (try dsimp only at hSw); first | (go_simp; done) | (go_simp; with_reducible rfl)
        try simp only [Act.put, List.setIfInBounds_toArray, List.set_cons_zero, List.set_cons_succ]
        refine wpAnyH_take (i := 20) (oi := ?oi20M14) (v := ?v20M14) ?oi0_20M14 (by kernel_rfl) ?ff20M14 ?rr20M14 ?hq20M14 (Or.inl ⟨?hw20M14, ?hy20M14⟩) (by assumption) ?rest20M14
        case oi0_20M14 => conv => lhs; whnf; arg 1; whnf
        case hq20M14 => exact fun _ _ _ h => h
        case ff20M14 | rr20M14 => kernel_rfl
        case hw20M14 => rfl
        case hy20M14 => intro w hSw; (try dsimp only at hSw); first | (go_simp; done) | (go_simp; with_reducible rfl)
        try simp only [Act.put, List.setIfInBounds_toArray, List.set_cons_zero, List.set_cons_succ]
        refine wpAnyH_done (by kernel_rfl) ?_ _
        clear hHeld
        obtain ⟨z8, hz8⟩ : ∃ x, bits .xor .u32 (bits .xor .u32 (rotS 7 x15) (rotS 18 x15)) (x15 / 8) = x := ⟨_, rfl⟩
        rw [hz8]
        have HZ8 := hide hz8
        clear hz8
        go_wp2_with fail
        refine wp_region_held_drew (S := (fun w' => w'.cell? ⟨wb, i2, none⟩ = some (.int .u32 x2))) (by kernel_rfl) (by exact HC2.out) (fun hHeld => ?_)
        obtain ⟨v6, hwD⟩ : ∃ x, v5.drew = x := ⟨_, rfl⟩
        have u : Upd [] v5 v6 := by rw [← hwD]; exact (Upd.refl [] _).drew
        rw [hwD] at hHeld ⊢
        clear hwD
        replace HO := hide (own_kept HO.out u (by simp))
        replace HU := hide (HU.out.trans u (by simp))
        replace HC16 := hide (keepc _ _ _ _ u HC16.out)
        replace HC15 := hide (keepc _ _ _ _ u HC15.out)
        replace HC7 := hide (keepc _ _ _ _ u HC7.out)
        replace HC2 := hide (keepc _ _ _ _ u HC2.out)
        clear u
        refine wpAnyH_take (i := 0) (oi := ?oi0M17) (v := ?v0M17) ?oi0_0M17 (by kernel_rfl) ?ff0M17 ?rr0M17 ?hq0M17 (Or.inl ⟨?hw0M17, ?hy0M17⟩) (by assumption) ?rest0M17
        case oi0_0M17 => conv => lhs; whnf; arg 1; whnf
        case hq0M17 => exact fun _ _ _ h => h
        case ff0M17 | rr0M17 => kernel_rfl
        case hw0M17 => rfl
        case hy0M17 => intro w hSw; (try dsimp only at hSw); first | (go_simp; done) | (go_simp; with_reducible rfl)
        try simp only [Act.put, List.setIfInBounds_toArray, List.set_cons_zero, List.set_cons_succ]
        refine wpAnyH_take (i := 1) (oi := ?oi1M17) (v := ?v1M17) ?oi0_1M17 (by kernel_rfl) ?ff1M17 ?rr1M17 ?hq1M17 (Or.inl ⟨?hw1M17, ?hy1M17⟩) (by assumption) ?rest1M17
        case oi0_1M17 => conv => lhs; whnf; arg 1; whnf
        case hq1M17 => exact fun _ _ _ h => h
        case ff1M17 | rr1M17 => kernel_rfl
        case hw1M17 => rfl
        case hy1M17 => intro w hSw; (try dsimp only at hSw); first | (go_simp; done) | (go_simp; with_reducible rfl)
        try simp only [Act.put, List.setIfInBounds_toArray, List.set_cons_zero, List.set_cons_succ]
        refine wpAnyH_take (i := 2) (oi := ?oi2M17) (v := ?v2M17) ?oi0_2M17 (by kernel_rfl) ?ff2M17 ?rr2M17 ?hq2M17 (Or.inl ⟨?hw2M17, ?hy2M17⟩) (by assumption) ?rest2M17
        case oi0_2M17 => conv => lhs; whnf; arg 1; whnf
        case hq2M17 => exact fun _ _ _ h => h
        case ff2M17 | rr2M17 => kernel_rfl
        case hw2M17 => rfl
        case hy2M17 => intro w hSw; (try dsimp only at hSw); first | (go_simp; done) | (go_simp; with_reducible rfl)
        try simp only [Act.put, List.setIfInBounds_toArray, List.set_cons_zero, List.set_cons_succ]
        refine wpAnyH_take (i := 3) (oi := ?oi3M17) (v := ?v3M17) ?oi0_3M17 (by kernel_rfl) ?ff3M17 ?rr3M17 ?hq3M17 (Or.inl ⟨?hw3M17, ?hy3M17⟩) (by assumption) ?rest3M17
        case oi0_3M17 => conv => lhs; whnf; arg 1; whnf
        case hq3M17 => exact fun _ _ _ h => h
        case ff3M17 | rr3M17 => kernel_rfl
        case hw3M17 => rfl
        case hy3M17 => intro w hSw; (try dsimp only at hSw); first | (go_simp; done) | (go_simp; with_reducible rfl)
        try simp only [Act.put, List.setIfInBounds_toArray, List.set_cons_zero, List.set_cons_succ]
        refine wpAnyH_take (i := 4) (oi := ?oi4M17) (v := ?v4M17) ?oi0_4M17 (by kernel_rfl) ?ff4M17 ?rr4M17 ?hq4M17 (Or.inl ⟨?hw4M17, ?hy4M17⟩) (by assumption) ?rest4M17
        case oi0_4M17 => conv => lhs; whnf; arg 1; whnf
        case hq4M17 => exact fun _ _ _ h => h
        case ff4M17 | rr4M17 => kernel_rfl
        case hw4M17 => rfl
        case hy4M17 => intro w hSw; (try dsimp only at hSw); first | (go_simp; done) | (go_simp; with_reducible rfl)
        try simp only [Act.put, List.setIfInBounds_toArray, List.set_cons_zero, List.set_cons_succ]
        refine wpAnyH_take (i := 6) (oi := ?oi6M17) (v := ?v6M17) ?oi0_6M17 (by kernel_rfl) ?ff6M17 ?rr6M17 ?hq6M17 (Or.inl ⟨?hw6M17, ?hy6M17⟩) (by assumption) ?rest6M17
        case oi0_6M17 => conv => lhs; whnf; arg 1; whnf
        case hq6M17 => exact fun _ _ _ h => h
        case ff6M17 | rr6M17 => kernel_rfl
        case hw6M17 => rfl
        case hy6M17 => intro w hSw; (try dsimp only at hSw); first | (go_simp; done) | (go_simp; with_reducible rfl)
        try simp only [Act.put, List.setIfInBounds_toArray, List.set_cons_zero, List.set_cons_succ]
        refine wpAnyH_take (i := 7) (oi := ?oi7M17) (v := ?v7M17) ?oi0_7M17 (by kernel_rfl) ?ff7M17 ?rr7M17 ?hq7M17 (Or.inl ⟨?hw7M17, ?hy7M17⟩) (by assumption) ?rest7M17
        case oi0_7M17 => conv => lhs; whnf; arg 1; whnf
        case hq7M17 => exact fun _ _ _ h => h
        case ff7M17 | rr7M17 => kernel_rfl
        case hw7M17 => rfl
        case hy7M17 => intro w hSw; (try dsimp only at hSw); first | (go_simp; done) | (go_simp; with_reducible rfl)
        try simp only [Act.put, List.setIfInBounds_toArray, List.set_cons_zero, List.set_cons_succ]
        refine wpAnyH_take (i := 8) (oi := ?oi8M17) (v := ?v8M17) ?oi0_8M17 (by kernel_rfl) ?ff8M17 ?rr8M17 ?hq8M17 (Or.inl ⟨?hw8M17, ?hy8M17⟩) (by assumption) ?rest8M17
        case oi0_8M17 => conv => lhs; whnf; arg 1; whnf
        case hq8M17 => exact fun _ _ _ h => h
        case ff8M17 | rr8M17 => kernel_rfl
        case hw8M17 => rfl
        case hy8M17 => intro w hSw; (try dsimp only at hSw); first | (go_simp; done) | (go_simp; with_reducible rfl)
        try simp only [Act.put, List.setIfInBounds_toArray, List.set_cons_zero, List.set_cons_succ]
        refine wpAnyH_take (i := 9) (oi := ?oi9M17) (v := ?v9M17) ?oi0_9M17 (by kernel_rfl) ?ff9M17 ?rr9M17 ?hq9M17 (Or.inl ⟨?hw9M17, ?hy9M17⟩) (by assumption) ?rest9M17
        case oi0_9M17 => conv => lhs; whnf; arg 1; whnf
        case hq9M17 => exact fun _ _ _ h => h
        case ff9M17 | rr9M17 => kernel_rfl
        case hw9M17 => rfl
        case hy9M17 => intro w hSw; (try dsimp only at hSw); first | (go_simp; done) | (go_simp; with_reducible rfl)
        try simp only [Act.put, List.setIfInBounds_toArray, List.set_cons_zero, List.set_cons_succ]
        refine wpAnyH_take (i := 10) (oi := ?oi10M17) (v := ?v10M17) ?oi0_10M17 (by kernel_rfl) ?ff10M17 ?rr10M17 ?hq10M17 (Or.inl ⟨?hw10M17, ?hy10M17⟩) (by assumption) ?rest10M17
        case oi0_10M17 => conv => lhs; whnf; arg 1; whnf
        case hq10M17 => exact fun _ _ _ h => h
        case ff10M17 | rr10M17 => kernel_rfl
        case hw10M17 => rfl
        case hy10M17 => intro w hSw; (try dsimp only at hSw); first | (go_simp; done) | (go_simp; with_reducible rfl)
        try simp only [Act.put, List.setIfInBounds_toArray, List.set_cons_zero, List.set_cons_succ]
        refine wpAnyH_take (i := 13) (oi := ?oi13M17) (v := ?v13M17) ?oi0_13M17 (by kernel_rfl) ?ff13M17 ?rr13M17 ?hq13M17 (Or.inl ⟨?hw13M17, ?hy13M17⟩) (by assumption) ?rest13M17
        case oi0_13M17 => conv => lhs; whnf; arg 1; whnf
        case hq13M17 => exact fun _ _ _ h => h
        case ff13M17 | rr13M17 => kernel_rfl
        case hw13M17 => rfl
        case hy13M17 => intro w hSw; (try dsimp only at hSw); first | (go_simp; done) | (go_simp; with_reducible rfl)
        try simp only [Act.put, List.setIfInBounds_toArray, List.set_cons_zero, List.set_cons_succ]
        refine wpAnyH_take (i := 14) (oi := ?oi14M17) (v := ?v14M17) ?oi0_14M17 (by kernel_rfl) ?ff14M17 ?rr14M17 ?hq14M17 (Or.inl ⟨?hw14M17, ?hy14M17⟩) (by assumption) ?rest14M17
        case oi0_14M17 => conv => lhs; whnf; arg 1; whnf
        case hq14M17 => exact fun _ _ _ h => h
        case ff14M17 | rr14M17 => kernel_rfl
        case hw14M17 => rfl
        case hy14M17 => intro w hSw; (try dsimp only at hSw); first | (go_simp; done) | (go_simp; with_reducible rfl)
        try simp only [Act.put, List.setIfInBounds_toArray, List.set_cons_zero, List.set_cons_succ]
        refine wpAnyH_take (i := 15) (oi := ?oi15M17) (v := ?v15M17) ?oi0_15M17 (by kernel_rfl) ?ff15M17 ?rr15M17 ?hq15M17 (Or.inl ⟨?hw15M17, ?hy15M17⟩) (by assumption) ?rest15M17
        case oi0_15M17 => conv => lhs; whnf; arg 1; whnf
        case hq15M17 => exact fun _ _ _ h => h
        case ff15M17 | rr15M17 => kernel_rfl
        case hw15M17 => rfl
        case hy15M17 => intro w hSw; (try dsimp only at hSw); first | (go_simp; done) | (go_simp; with_reducible rfl)
        try simp only [Act.put, List.setIfInBounds_toArray, List.set_cons_zero, List.set_cons_succ]
        refine wpAnyH_take (i := 16) (oi := ?oi16M17) (v := ?v16M17) ?oi0_16M17 (by kernel_rfl) ?ff16M17 ?rr16M17 ?hq16M17 (Or.inl ⟨?hw16M17, ?hy16M17⟩) (by assumption) ?rest16M17
        case oi0_16M17 => conv => lhs; whnf; arg 1; whnf
        case hq16M17 => exact fun _ _ _ h => h
        case ff16M17 | rr16M17 => kernel_rfl
        case hw16M17 => rfl
        case hy16M17 => intro w hSw; (try dsimp only at hSw); first | (go_simp; done) | (go_simp; with_reducible rfl)
        try simp only [Act.put, List.setIfInBounds_toArray, List.set_cons_zero, List.set_cons_succ]
        refine wpAnyH_take (i := 17) (oi := ?oi17M17) (v := ?v17M17) ?oi0_17M17 (by kernel_rfl) ?ff17M17 ?rr17M17 ?hq17M17 (Or.inl ⟨?hw17M17, ?hy17M17⟩) (by assumption) ?rest17M17
        case oi0_17M17 => conv => lhs; whnf; arg 1; whnf
        case hq17M17 => exact fun _ _ _ h => h
        case ff17M17 | rr17M17 => kernel_rfl
        case hw17M17 => rfl
        case hy17M17 => intro w hSw; (try dsimp only at hSw); first | (go_simp; done) | (go_simp; with_reducible rfl)
        try simp only [Act.put, List.setIfInBounds_toArray, List.set_cons_zero, List.set_cons_succ]
        refine wpAnyH_take (i := 18) (oi := ?oi18M17) (v := ?v18M17) ?oi0_18M17 (by kernel_rfl) ?ff18M17 ?rr18M17 ?hq18M17 (Or.inl ⟨?hw18M17, ?hy18M17⟩) (by assumption) ?rest18M17
        case oi0_18M17 => conv => lhs; whnf; arg 1; whnf
        case hq18M17 => exact fun _ _ _ h => h
        case ff18M17 | rr18M17 => kernel_rfl
        case hw18M17 => rfl
        case hy18M17 => intro w hSw; (try dsimp only at hSw); first | (go_simp; done) | (go_simp; with_reducible rfl)
        try simp only [Act.put, List.setIfInBounds_toArray, List.set_cons_zero, List.set_cons_succ]
        refine wpAnyH_ready (rs := [5]) (by kernel_rfl) (by simp) (AllReadyH.cons (o := ?oiM18) ?oi0_M18 (fun K hK => ?_) AllReadyH.nil)
        case oi0_M18 => conv => lhs; whnf; arg 1; whnf
        go_simp
        refine (rotated_any x2 17 _ (by decide) (by decide) HD2.out).mono ?_
        rintro e v7 ⟨rfl, u⟩
        try simp only
        have hS : v7.cell? ⟨wb, i2, none⟩ = some (.int .u32 x2) := keepc _ _ _ _ u hHeld
        replace HO := hide (own_kept HO.out u (by simp))
        replace HU := hide (HU.out.trans u (by simp))
        replace HC16 := hide (keepc _ _ _ _ u HC16.out)
        replace HC15 := hide (keepc _ _ _ _ u HC15.out)
        replace HC7 := hide (keepc _ _ _ _ u HC7.out)
        replace HC2 := hide (keepc _ _ _ _ u HC2.out)
        clear u hHeld
        (try dsimp only)
        refine hK.out _ _ (by exact hS) (fun hHeld => ?_)
        clear hK K
        try simp only [Act.put, List.setIfInBounds_toArray, List.set_cons_zero, List.set_cons_succ]
        clear hS
        refine wpAnyH_ready (rs := [11]) (by kernel_rfl) (by simp) (AllReadyH.cons (o := ?oiM19) ?oi0_M19 (fun K hK => ?_) AllReadyH.nil)
        case oi0_M19 => conv => lhs; whnf; arg 1; whnf
        go_simp
        refine (rotated_any x2 19 _ (by decide) (by decide) HD2.out).mono ?_
        rintro e v8 ⟨rfl, u⟩
        try simp only
        have hS : v8.cell? ⟨wb, i2, none⟩ = some (.int .u32 x2) := keepc _ _ _ _ u hHeld
        replace HO := hide (own_kept HO.out u (by simp))
        replace HU := hide (HU.out.trans u (by simp))
        replace HC16 := hide (keepc _ _ _ _ u HC16.out)
        replace HC15 := hide (keepc _ _ _ _ u HC15.out)
        replace HC7 := hide (keepc _ _ _ _ u HC7.out)
        replace HC2 := hide (keepc _ _ _ _ u HC2.out)
        clear u hHeld
        (try dsimp only)
        refine hK.out _ _ (by exact hS) (fun hHeld => ?_)
        clear hK K
        try simp only [Act.put, List.setIfInBounds_toArray, List.set_cons_zero, List.set_cons_succ]
        clear hS
        refine wpAnyH_take (i := 12) (oi := ?oi12M20) (v := ?v12M20) ?oi0_12M20 (by kernel_rfl) ?ff12M20 ?rr12M20 ?hq12M20 (Or.inl ⟨?hw12M20, ?hy12M20⟩) (by assumption) ?rest12M20
        case oi0_12M20 => conv => lhs; whnf; arg 1; whnf
        case hq12M20 => exact fun _ _ _ h => h
        case ff12M20 | rr12M20 => kernel_rfl
        case hw12M20 => rfl
        case hy12M20 => intro w hSw; (try dsimp only at hSw); first | (go_simp; done) | (go_simp; with_reducible rfl)
        try simp only [Act.put, List.setIfInBounds_toArray, List.set_cons_zero, List.set_cons_succ]
        refine wpAnyH_take (i := 19) (oi := ?oi19M20) (v := ?v19M20) ?oi0_19M20 (by kernel_rfl) ?ff19M20 ?rr19M20 ?hq19M20 (Or.inl ⟨?hw19M20, ?hy19M20⟩) (by assumption) ?rest19M20
        case oi0_19M20 => conv => lhs; whnf; arg 1; whnf
        case hq19M20 => exact fun _ _ _ h => h
        case ff19M20 | rr19M20 => kernel_rfl
        case hw19M20 => rfl
        case hy19M20 => intro w hSw; (try dsimp only at hSw); first | (go_simp; done) | (go_simp; with_reducible rfl)
        try simp only [Act.put, List.setIfInBounds_toArray, List.set_cons_zero, List.set_cons_succ]
        refine wpAnyH_take (i := 20) (oi := ?oi20M20) (v := ?v20M20) ?oi0_20M20 (by kernel_rfl) ?ff20M20 ?rr20M20 ?hq20M20 (Or.inl ⟨?hw20M20, ?hy20M20⟩) (by assumption) ?rest20M20
        case oi0_20M20 => conv => lhs; whnf; arg 1; whnf
        case hq20M20 => exact fun _ _ _ h => h
        case ff20M20 | rr20M20 => kernel_rfl
        case hw20M20 => rfl
        case hy20M20 => intro w hSw; (try dsimp only at hSw); first | (go_simp; done) | (go_simp; with_reducible rfl)
        try simp only [Act.put, List.setIfInBounds_toArray, List.set_cons_zero, List.set_cons_succ]
        refine wpAnyH_done (by kernel_rfl) ?_ _
        clear hHeld
        obtain ⟨z9, hz9⟩ : ∃ x, bits .xor .u32 (bits .xor .u32 (rotS 17 x2) (rotS 19 x2)) (x2 / 1024) = x := ⟨_, rfl⟩
        rw [hz9]
        have HZ9 := hide hz9
        clear hz9
        go_wp2_with fail
        refine wp_region_held_drew (S := (fun w' => w'.cell? ⟨wb, i16, none⟩ = some (.int .u32 x16) ∧ w'.cell? ⟨wb, i7, none⟩ = some (.int .u32 x7))) (by kernel_rfl) (by exact ⟨HC16.out, HC7.out⟩) (fun hHeld => ?_)
        obtain ⟨v9, hwD⟩ : ∃ x, v8.drew = x := ⟨_, rfl⟩
        have u : Upd [] v8 v9 := by rw [← hwD]; exact (Upd.refl [] _).drew
        rw [hwD] at hHeld ⊢
        clear hwD
        replace HO := hide (own_kept HO.out u (by simp))
        replace HU := hide (HU.out.trans u (by simp))
        replace HC16 := hide (keepc _ _ _ _ u HC16.out)
        replace HC15 := hide (keepc _ _ _ _ u HC15.out)
        replace HC7 := hide (keepc _ _ _ _ u HC7.out)
        replace HC2 := hide (keepc _ _ _ _ u HC2.out)
        clear u
        refine wpAnyH_take (i := 0) (oi := ?oi0M23) (v := ?v0M23) ?oi0_0M23 (by kernel_rfl) ?ff0M23 ?rr0M23 ?hq0M23 (Or.inl ⟨?hw0M23, ?hy0M23⟩) (by assumption) ?rest0M23
        case oi0_0M23 => conv => lhs; whnf; arg 1; whnf
        case hq0M23 => exact fun _ _ _ h => h
        case ff0M23 | rr0M23 => kernel_rfl
        case hw0M23 => rfl
        case hy0M23 => intro w hSw; (try dsimp only at hSw); first | (go_simp; done) | (go_simp; with_reducible rfl)
        try simp only [Act.put, List.setIfInBounds_toArray, List.set_cons_zero, List.set_cons_succ]
        refine wpAnyH_take (i := 1) (oi := ?oi1M23) (v := ?v1M23) ?oi0_1M23 (by kernel_rfl) ?ff1M23 ?rr1M23 ?hq1M23 (Or.inl ⟨?hw1M23, ?hy1M23⟩) (by assumption) ?rest1M23
        case oi0_1M23 => conv => lhs; whnf; arg 1; whnf
        case hq1M23 => exact fun _ _ _ h => h
        case ff1M23 | rr1M23 => kernel_rfl
        case hw1M23 => rfl
        case hy1M23 => intro w hSw; (try dsimp only at hSw); first | (go_simp; done) | (go_simp; with_reducible rfl)
        try simp only [Act.put, List.setIfInBounds_toArray, List.set_cons_zero, List.set_cons_succ]
        refine wpAnyH_take (i := 2) (oi := ?oi2M23) (v := ?v2M23) ?oi0_2M23 (by kernel_rfl) ?ff2M23 ?rr2M23 ?hq2M23 (Or.inl ⟨?hw2M23, ?hy2M23⟩) (by assumption) ?rest2M23
        case oi0_2M23 => conv => lhs; whnf; arg 1; whnf
        case hq2M23 => exact fun _ _ _ h => h
        case ff2M23 | rr2M23 => kernel_rfl
        case hw2M23 => rfl
        case hy2M23 => intro w hSw; (try dsimp only at hSw); first | (go_simp; done) | (go_simp; with_reducible rfl)
        try simp only [Act.put, List.setIfInBounds_toArray, List.set_cons_zero, List.set_cons_succ]
        refine wpAnyH_take (i := 3) (oi := ?oi3M23) (v := ?v3M23) ?oi0_3M23 (by kernel_rfl) ?ff3M23 ?rr3M23 ?hq3M23 (Or.inl ⟨?hw3M23, ?hy3M23⟩) (by assumption) ?rest3M23
        case oi0_3M23 => conv => lhs; whnf; arg 1; whnf
        case hq3M23 => exact fun _ _ _ h => h
        case ff3M23 | rr3M23 => kernel_rfl
        case hw3M23 => rfl
        case hy3M23 => intro w hSw; (try dsimp only at hSw); first | (go_simp; done) | (go_simp; with_reducible rfl)
        try simp only [Act.put, List.setIfInBounds_toArray, List.set_cons_zero, List.set_cons_succ]
        refine wpAnyH_take (i := 4) (oi := ?oi4M23) (v := ?v4M23) ?oi0_4M23 (by kernel_rfl) ?ff4M23 ?rr4M23 ?hq4M23 (Or.inl ⟨?hw4M23, ?hy4M23⟩) (by assumption) ?rest4M23
        case oi0_4M23 => conv => lhs; whnf; arg 1; whnf
        case hq4M23 => exact fun _ _ _ h => h
        case ff4M23 | rr4M23 => kernel_rfl
        case hw4M23 => rfl
        case hy4M23 => intro w hSw; (try dsimp only at hSw); first | (go_simp; done) | (go_simp; with_reducible rfl)
        try simp only [Act.put, List.setIfInBounds_toArray, List.set_cons_zero, List.set_cons_succ]
        refine wpAnyH_take (i := 5) (oi := ?oi5M23) (v := ?v5M23) ?oi0_5M23 (by kernel_rfl) ?ff5M23 ?rr5M23 ?hq5M23 (Or.inl ⟨?hw5M23, ?hy5M23⟩) (by assumption) ?rest5M23
        case oi0_5M23 => conv => lhs; whnf; arg 1; whnf
        case hq5M23 => exact fun _ _ _ h => h
        case ff5M23 | rr5M23 => kernel_rfl
        case hw5M23 => rfl
        case hy5M23 => intro w hSw; (try dsimp only at hSw); first | (go_simp; done) | (go_simp; with_reducible rfl)
        try simp only [Act.put, List.setIfInBounds_toArray, List.set_cons_zero, List.set_cons_succ]
        refine wpAnyH_take (i := 6) (oi := ?oi6M23) (v := ?v6M23) ?oi0_6M23 (by kernel_rfl) ?ff6M23 ?rr6M23 ?hq6M23 (Or.inl ⟨?hw6M23, ?hy6M23⟩) (by assumption) ?rest6M23
        case oi0_6M23 => conv => lhs; whnf; arg 1; whnf
        case hq6M23 => exact fun _ _ _ h => h
        case ff6M23 | rr6M23 => kernel_rfl
        case hw6M23 => rfl
        case hy6M23 => intro w hSw; (try dsimp only at hSw); first | (go_simp; done) | (go_simp; with_reducible rfl)
        try simp only [Act.put, List.setIfInBounds_toArray, List.set_cons_zero, List.set_cons_succ]
        refine wpAnyH_take (i := 7) (oi := ?oi7M23) (v := ?v7M23) ?oi0_7M23 (by kernel_rfl) ?ff7M23 ?rr7M23 ?hq7M23 (Or.inl ⟨?hw7M23, ?hy7M23⟩) (by assumption) ?rest7M23
        case oi0_7M23 => conv => lhs; whnf; arg 1; whnf
        case hq7M23 => exact fun _ _ _ h => h
        case ff7M23 | rr7M23 => kernel_rfl
        case hw7M23 => rfl
        case hy7M23 => intro w hSw; (try dsimp only at hSw); first | (go_simp; done) | (go_simp; with_reducible rfl)
        try simp only [Act.put, List.setIfInBounds_toArray, List.set_cons_zero, List.set_cons_succ]
        refine wpAnyH_take (i := 8) (oi := ?oi8M23) (v := ?v8M23) ?oi0_8M23 (by kernel_rfl) ?ff8M23 ?rr8M23 ?hq8M23 (Or.inl ⟨?hw8M23, ?hy8M23⟩) (by assumption) ?rest8M23
        case oi0_8M23 => conv => lhs; whnf; arg 1; whnf
        case hq8M23 => exact fun _ _ _ h => h
        case ff8M23 | rr8M23 => kernel_rfl
        case hw8M23 => rfl
        case hy8M23 => intro w hSw; (try dsimp only at hSw); first | (go_simp; done) | (go_simp; with_reducible rfl)
        try simp only [Act.put, List.setIfInBounds_toArray, List.set_cons_zero, List.set_cons_succ]
        refine wpAnyH_take (i := 9) (oi := ?oi9M23) (v := ?v9M23) ?oi0_9M23 (by kernel_rfl) ?ff9M23 ?rr9M23 ?hq9M23 (Or.inl ⟨?hw9M23, ?hy9M23⟩) (by assumption) ?rest9M23
        case oi0_9M23 => conv => lhs; whnf; arg 1; whnf
        case hq9M23 => exact fun _ _ _ h => h
        case ff9M23 | rr9M23 => kernel_rfl
        case hw9M23 => rfl
        case hy9M23 => intro w hSw; (try dsimp only at hSw); first | (go_simp; done) | (go_simp; with_reducible rfl)
        try simp only [Act.put, List.setIfInBounds_toArray, List.set_cons_zero, List.set_cons_succ]
        refine wpAnyH_take (i := 10) (oi := ?oi10M23) (v := ?v10M23) ?oi0_10M23 (by kernel_rfl) ?ff10M23 ?rr10M23 ?hq10M23 (Or.inl ⟨?hw10M23, ?hy10M23⟩) (by assumption) ?rest10M23
        case oi0_10M23 => conv => lhs; whnf; arg 1; whnf
        case hq10M23 => exact fun _ _ _ h => h
        case ff10M23 | rr10M23 => kernel_rfl
        case hw10M23 => rfl
        case hy10M23 => intro w hSw; (try dsimp only at hSw); first | (go_simp; done) | (go_simp; with_reducible rfl)
        try simp only [Act.put, List.setIfInBounds_toArray, List.set_cons_zero, List.set_cons_succ]
        refine wpAnyH_take (i := 11) (oi := ?oi11M23) (v := ?v11M23) ?oi0_11M23 (by kernel_rfl) ?ff11M23 ?rr11M23 ?hq11M23 (Or.inl ⟨?hw11M23, ?hy11M23⟩) (by assumption) ?rest11M23
        case oi0_11M23 => conv => lhs; whnf; arg 1; whnf
        case hq11M23 => exact fun _ _ _ h => h
        case ff11M23 | rr11M23 => kernel_rfl
        case hw11M23 => rfl
        case hy11M23 => intro w hSw; (try dsimp only at hSw); first | (go_simp; done) | (go_simp; with_reducible rfl)
        try simp only [Act.put, List.setIfInBounds_toArray, List.set_cons_zero, List.set_cons_succ]
        refine wpAnyH_take (i := 12) (oi := ?oi12M23) (v := ?v12M23) ?oi0_12M23 (by kernel_rfl) ?ff12M23 ?rr12M23 ?hq12M23 (Or.inl ⟨?hw12M23, ?hy12M23⟩) (by assumption) ?rest12M23
        case oi0_12M23 => conv => lhs; whnf; arg 1; whnf
        case hq12M23 => exact fun _ _ _ h => h
        case ff12M23 | rr12M23 => kernel_rfl
        case hw12M23 => rfl
        case hy12M23 => intro w hSw; (try dsimp only at hSw); first | (go_simp; done) | (go_simp; with_reducible rfl)
        try simp only [Act.put, List.setIfInBounds_toArray, List.set_cons_zero, List.set_cons_succ]
        refine wpAnyH_take (i := 13) (oi := ?oi13M23) (v := ?v13M23) ?oi0_13M23 (by kernel_rfl) ?ff13M23 ?rr13M23 ?hq13M23 (Or.inl ⟨?hw13M23, ?hy13M23⟩) (by assumption) ?rest13M23
        case oi0_13M23 => conv => lhs; whnf; arg 1; whnf
        case hq13M23 => exact fun _ _ _ h => h
        case ff13M23 | rr13M23 => kernel_rfl
        case hw13M23 => rfl
        case hy13M23 => intro w hSw; (try dsimp only at hSw); first | (go_simp; done) | (go_simp; with_reducible rfl)
        try simp only [Act.put, List.setIfInBounds_toArray, List.set_cons_zero, List.set_cons_succ]
        refine wpAnyH_take (i := 14) (oi := ?oi14M23) (v := ?v14M23) ?oi0_14M23 (by kernel_rfl) ?ff14M23 ?rr14M23 ?hq14M23 (Or.inl ⟨?hw14M23, ?hy14M23⟩) (by assumption) ?rest14M23
        case oi0_14M23 => conv => lhs; whnf; arg 1; whnf
        case hq14M23 => exact fun _ _ _ h => h
        case ff14M23 | rr14M23 => kernel_rfl
        case hw14M23 => rfl
        case hy14M23 => intro w hSw; (try dsimp only at hSw); first | (go_simp; done) | (go_simp; with_reducible rfl)
        try simp only [Act.put, List.setIfInBounds_toArray, List.set_cons_zero, List.set_cons_succ]
        refine wpAnyH_take (i := 15) (oi := ?oi15M23) (v := ?v15M23) ?oi0_15M23 (by kernel_rfl) ?ff15M23 ?rr15M23 ?hq15M23 (Or.inl ⟨?hw15M23, ?hy15M23⟩) (by assumption) ?rest15M23
        case oi0_15M23 => conv => lhs; whnf; arg 1; whnf
        case hq15M23 => exact fun _ _ _ h => h
        case ff15M23 | rr15M23 => kernel_rfl
        case hw15M23 => rfl
        case hy15M23 => intro w hSw; (try dsimp only at hSw); first | (go_simp; done) | (go_simp; with_reducible rfl)
        try simp only [Act.put, List.setIfInBounds_toArray, List.set_cons_zero, List.set_cons_succ]
        refine wpAnyH_ready (rs := [16]) (by kernel_rfl) (by simp) (AllReadyH.cons (o := ?oiM24) ?oi0_M24 (fun K hK => ?_) AllReadyH.nil)
        case oi0_M24 => conv => lhs; whnf; arg 1; whnf
        go_simp
        obtain ⟨v10, hw⟩ : ∃ x, v9.alloc (.cells #[.int .u32 (IntKind.u32.wrap (IntKind.u32.wrap (IntKind.u32.wrap (x16 + z8) + x7) + z9))] 109) = x := ⟨_, rfl⟩
        have u : Upd [] v9 v10 := by rw [← hw]; exact (Upd.refl [] _).alloc _
        have HNW := hide (show ∀ j v, ([.int .u32 (IntKind.u32.wrap (IntKind.u32.wrap (IntKind.u32.wrap (x16 + z8) + x7) + z9))] : List Value)[j]? = some v → v10.cell? ((⟨v9.heap.size, 0, none⟩ : Addr).add j) = some v by rw [← hw]; exact cells_new v9 [.int .u32 (IntKind.u32.wrap (IntKind.u32.wrap (IntKind.u32.wrap (x16 + z8) + x7) + z9))] 109)
        rw [hw]
        clear hw
        replace HO := hide (own_kept HO.out u (by simp))
        replace HU := hide (HU.out.trans u (by simp))
        replace HC16 := hide (keepc _ _ _ _ u HC16.out)
        replace HC15 := hide (keepc _ _ _ _ u HC15.out)
        replace HC7 := hide (keepc _ _ _ _ u HC7.out)
        replace HC2 := hide (keepc _ _ _ _ u HC2.out)
        have hS : v10.cell? ⟨wb, i16, none⟩ = some (.int .u32 x16) ∧ v10.cell? ⟨wb, i7, none⟩ = some (.int .u32 x7) := ⟨keepc _ _ _ _ u hHeld.1, keepc _ _ _ _ u hHeld.2⟩
        clear u hHeld
        (try dsimp only)
        refine hK.out _ _ (by exact hS) (fun hHeld => ?_)
        clear hK K
        try simp only [Act.put, List.setIfInBounds_toArray, List.set_cons_zero, List.set_cons_succ]
        clear hS
        refine wpAnyH_ready (rs := [17]) (by kernel_rfl) (by simp) (AllReadyH.cons (o := ?oiM25) ?oi0_M25 (fun K hK => ?_) AllReadyH.nil)
        case oi0_M25 => conv => lhs; whnf; arg 1; whnf
        refine step_append_keep rfl (.tmp 103) (.tmp 119) _ rfl w.heap.size 109 (.int .u32 0) 4 Tryz.underlying110 info_u32 rfl (some ⟨wb, 0, none⟩) i c5 _ rfl HO.out ⟨v9.heap.size, 0, none⟩ 1 1 [.int .u32 (IntKind.u32.wrap (IntKind.u32.wrap (IntKind.u32.wrap (x16 + z8) + x7) + z9))] rfl rfl HNW.out (by simp [Value.oneCell']) (by unfold maxLen; omega) (by omega) HU.out.size ?_
        intro A5 c5 w5 h5 u hk5
        have HO5 := hide h5
        have hU5 := HU.out.trans u (fun x hx => .inr (it_own_block HO.out x (by rw [ownBlock_slice]; first | (simpa using hx) | (simp at hx; rw [hx]; rfl))))
        have hC16 := hk5 wb rfl i16 (.int .u32 x16) (by rw [List.getElem?_map, HX16.out]; rfl)
        have hC7 := hk5 wb rfl i7 (.int .u32 x7) (by rw [List.getElem?_map, HX7.out]; rfl)
        clear hHeld u hk5
        have hS : w5.cell? ⟨wb, i16, none⟩ = some (.int .u32 x16) ∧ w5.cell? ⟨wb, i7, none⟩ = some (.int .u32 x7) := ⟨hC16, hC7⟩
        have HU5 := hide hU5
        clear hU5 hC16 hC7
        obtain ⟨wb5, rfl⟩ := own_some h5 (by omega)
        clear h5
        (try dsimp only)
        refine hK.out _ _ (by exact hS) (fun hHeld => ?_)
        clear hK K
        try simp only [Act.put, List.setIfInBounds_toArray, List.set_cons_zero, List.set_cons_succ]
        clear hS
        refine wpAnyH_take (i := 18) (oi := ?oi18M26) (v := ?v18M26) ?oi0_18M26 (by kernel_rfl) ?ff18M26 ?rr18M26 ?hq18M26 (Or.inl ⟨?hw18M26, ?hy18M26⟩) (by assumption) ?rest18M26
        case oi0_18M26 => conv => lhs; whnf; arg 1; whnf
        case hq18M26 => exact fun _ _ _ h => h
        case ff18M26 | rr18M26 => kernel_rfl
        case hw18M26 => rfl
        case hy18M26 => intro w hSw; (try dsimp only at hSw); first | (go_simp; done) | (go_simp; with_reducible rfl)
        try simp only [Act.put, List.setIfInBounds_toArray, List.set_cons_zero, List.set_cons_succ]
        refine wpAnyH_done (by kernel_rfl) ?_ _
        go_wp2_with fail
        go_roundw
        case rel => exact ⟨i + 1, n + 1, wb5, c5, by omega, by omega, rfl, by go_num, hide (by
          rw [HS.out, List.map_append]
          have h9 := HO5.out
          rw [← HZ8.out, ← HZ9.out, ← mixS_two, ← mixS_two] at h9
          exact h9), HU5⟩
        case measure => simp [intOf] <;> omega
      obtain rfl : n = 48 := by omega
      obtain rfl : i = 64 := by omega
      have hki : ¬ (((64 : Nat) : Int)) < 64 := by omega
      clear hin hn hn48
      obtain ⟨ws, hws⟩ : ∃ x, schedTo bs 48 = x := ⟨_, rfl⟩
      rw [hws] at hO
      have HWS := hide hws
      have HWL := hide (show ws.length = 64 by rw [← hws, schedTo_length])
      have HWW := hide (show ∀ x ∈ ws, Word x by rw [← hws]; exact sched_word bs 48)
      have HW := hide (WordsAt.own hO.out)
      have HU := hU
      clear hws hO hU
      go_wp2_with fail
      refine (constants_any wo).mono ?_
      rintro e w4 ⟨kb, rfl, hkb, u⟩
      have HW4 := hide (HW.out.upd u)
      have HK4 := hide (WordsAt.blk hkb)
      have HU4 := hide (HU.out.trans u (by simp))
      have HS4 := hide (HHS.out.upd HU4.out)
      clear hkb u HW HU
      have HSRC := hide (show ((some ⟨hb, 0, none⟩ : Option Addr) = none ∧ 8 = 0) ∨ ∃ ad, (some ⟨hb, 0, none⟩ : Option Addr) = some ad ∧ ∀ j u, (s.map (Value.int .u32))[j]? = some u → w4.cell? (ad.add j) = some u from .inr ⟨_, rfl, fun j u hj => by
        rw [List.getElem?_map] at hj
        obtain ⟨x, hx, rfl⟩ := Option.map_eq_some_iff.1 hj
        rw [plain_add rfl, Nat.zero_add]
        exact HS4.out j x hx⟩)
      have O1 := hide (show ∀ u ∈ s.map (Value.int .u32), u.oneCell' = true by intro u hu; obtain ⟨r, _, rfl⟩ := List.mem_map.1 hu; rfl)
      have O2 := hide (show (s.map (Value.int .u32)).length = 8 * 1 by rw [List.length_map, HSL.out])
      have O3 := hide (show 0 + 8 ≤ maxLen by unfold maxLen; omega)
      have O5 := hide (show w.heap.size ≤ w4.heap.size from HU4.out.size)
      go_wp2_with (at_builtin; refine wpList_append_src rfl (.tmp 122) (.tmp 123) _ rfl w.heap.size 109 (.int .u32 0) 1 4 Tryz.underlying110 info_u32 rfl (by decide) none 0 0 [] rfl (World.ownsRow_nil _ _ _ _) (some ⟨hb, 0, none⟩) 8 hc (s.map (Value.int .u32)) rfl O2.out HSRC.out O1.out O3.out (by decide) O5.out ?_; intro A9 c9 w9 h9 u9 a9; rw [Nat.zero_add, List.nil_append] at h9; rw [Nat.zero_add]; have H9 := hide h9; have HU9 := hide (HU4.out.trans u9 (by simp)); have HW9 := hide (HW4.out.upd u9); have HK9 := hide (HK4.out.upd u9); clear h9 u9 a9)
      obtain ⟨vb, rfl⟩ := own_some H9.out (by omega)
      have HV9 := hide (WordsAt.own H9.out)
      clear H9 HSRC O1 O2 O3 O5 HW4 HK4 HU4 HS4
      go_loopw [11, 12] (fun s11 s12 wr => ∃ (k vb vc : Nat), k ≤ 64 ∧ s11 = .slice (some ⟨vb, 0, none⟩) 8 vc ∧ s12 = .int .i64 k ∧ Hid (WordsAt wr vb (turnsTo refK ws s k)) ∧ Hid (Upd [] w9 wr)) (fun _ s _ => 64 - (intOf s).toNat)
      case atStart => exact ⟨0, vb, c9, Nat.zero_le _, rfl, rfl, HV9, hide (Upd.refl _ _)⟩
      case round =>
        clear HV9
        obtain ⟨k, vb, vc, hk, rfl, rfl, hV, hU⟩ := hrel
        obtain ⟨wo, rfl⟩ : ∃ x : World, x = wr := ⟨_, rfl⟩
        by_cases hk64 : k < 64
        case pos =>
          have hki : (k : Int) < 64 := by omega
          have hkw : IntKind.i64.wrap ((k : Int) + 1) = (k : Int) + 1 := Go.IntWalk.i64_in _ (by omega)
          obtain ⟨kk, hkk⟩ : ∃ x, refK[k]? = some x := ⟨_, List.getElem?_eq_getElem (by rw [refK_length]; exact hk64)⟩
          obtain ⟨xk, hxk⟩ : ∃ x, ws[k]? = some x := ⟨_, List.getElem?_eq_getElem (by rw [HWL.out]; exact hk64)⟩
          obtain ⟨x0, x1, x2, x3, x4, x5, x6, x7, hS⟩ := eight_of _ (turnsTo_length refK ws s HSL.out k)
          have HNX := hide (show turnsTo refK ws s (k + 1) = turnS kk xk [x0, x1, x2, x3, x4, x5, x6, x7] by show turnS (wat refK k) (wat ws k) (turnsTo refK ws s k) = _; rw [hS]; unfold wat; rw [hkk, hxk]; rfl)
          have hWd := turnsTo_word refK ws HSW.out k
          rw [hS] at hWd
          have HX0 := hide (hWd x0 (by simp))
          have HX4 := hide (hWd x4 (by simp))
          clear hWd
          have HV0 := hide (hV.out 0 x0 (by rw [hS]; rfl))
          have HV1 := hide (hV.out 1 x1 (by rw [hS]; rfl))
          have HV2 := hide (hV.out 2 x2 (by rw [hS]; rfl))
          have HV3 := hide (hV.out 3 x3 (by rw [hS]; rfl))
          have HV4 := hide (hV.out 4 x4 (by rw [hS]; rfl))
          have HV5 := hide (hV.out 5 x5 (by rw [hS]; rfl))
          have HV6 := hide (hV.out 6 x6 (by rw [hS]; rfl))
          have HV7 := hide (hV.out 7 x7 (by rw [hS]; rfl))
          have HCK := hide (keepc _ _ _ _ hU.out (HK9.out k kk hkk))
          have HCX := hide (keepc _ _ _ _ hU.out (HW9.out k xk hxk))
          have HU := hU
          clear hU hV hS hkk hxk
          have c0 := HV0.out
          have c4 := HV4.out
          go_wp2_with fail
          refine wp_region_held_drew (S := (fun w' => w'.cell? ⟨vb, 7, none⟩ = some (.int .u32 x7) ∧ w'.cell? ⟨vb, 5, none⟩ = some (.int .u32 x5) ∧ w'.cell? ⟨vb, 6, none⟩ = some (.int .u32 x6) ∧ w'.cell? ⟨kb, k, none⟩ = some (.int .u32 kk) ∧ w'.cell? ⟨wb, k, none⟩ = some (.int .u32 xk))) (by kernel_rfl) (by exact ⟨HV7.out, HV5.out, HV6.out, HCK.out, HCX.out⟩) (fun hHeld => ?_)
          obtain ⟨v11, hwD⟩ : ∃ x, wo.drew = x := ⟨_, rfl⟩
          have u : Upd [] wo v11 := by rw [← hwD]; exact (Upd.refl [] _).drew
          rw [hwD] at hHeld ⊢
          clear hwD
          replace HU := hide (HU.out.trans u (by simp))
          replace HCK := hide (keepc _ _ _ _ u HCK.out)
          replace HCX := hide (keepc _ _ _ _ u HCX.out)
          replace HV0 := hide (keepc _ _ _ _ u HV0.out)
          replace HV1 := hide (keepc _ _ _ _ u HV1.out)
          replace HV2 := hide (keepc _ _ _ _ u HV2.out)
          replace HV3 := hide (keepc _ _ _ _ u HV3.out)
          replace HV4 := hide (keepc _ _ _ _ u HV4.out)
          replace HV5 := hide (keepc _ _ _ _ u HV5.out)
          replace HV6 := hide (keepc _ _ _ _ u HV6.out)
          replace HV7 := hide (keepc _ _ _ _ u HV7.out)
          clear u
          clear c0 c4
          refine wpAnyH_take (i := 0) (oi := ?oi0M29) (v := ?v0M29) ?oi0_0M29 (by kernel_rfl) ?ff0M29 ?rr0M29 ?hq0M29 (Or.inl ⟨?hw0M29, ?hy0M29⟩) (by assumption) ?rest0M29
          case oi0_0M29 => conv => lhs; whnf; arg 1; whnf
          case hq0M29 => exact fun _ _ _ h => h
          case ff0M29 | rr0M29 => kernel_rfl
          case hw0M29 => rfl
          case hy0M29 => intro w hSw; (try dsimp only at hSw); first | (go_simp; done) | (go_simp; with_reducible rfl)
          try simp only [Act.put, List.setIfInBounds_toArray, List.set_cons_zero, List.set_cons_succ]
          refine wpAnyH_take (i := 1) (oi := ?oi1M29) (v := ?v1M29) ?oi0_1M29 (by kernel_rfl) ?ff1M29 ?rr1M29 ?hq1M29 (Or.inl ⟨?hw1M29, ?hy1M29⟩) (by assumption) ?rest1M29
          case oi0_1M29 => conv => lhs; whnf; arg 1; whnf
          case hq1M29 => exact fun _ _ _ h => h
          case ff1M29 | rr1M29 => kernel_rfl
          case hw1M29 => rfl
          case hy1M29 => intro w hSw; (try dsimp only at hSw); first | (go_simp; done) | (go_simp; with_reducible rfl)
          try simp only [Act.put, List.setIfInBounds_toArray, List.set_cons_zero, List.set_cons_succ]
          refine wpAnyH_take (i := 2) (oi := ?oi2M29) (v := ?v2M29) ?oi0_2M29 (by kernel_rfl) ?ff2M29 ?rr2M29 ?hq2M29 (Or.inl ⟨?hw2M29, ?hy2M29⟩) (by assumption) ?rest2M29
          case oi0_2M29 => conv => lhs; whnf; arg 1; whnf
          case hq2M29 => exact fun _ _ _ h => h
          case ff2M29 | rr2M29 => kernel_rfl
          case hw2M29 => rfl
          case hy2M29 => intro w hSw; (try dsimp only at hSw); first | (go_simp; done) | (go_simp; with_reducible rfl)
          try simp only [Act.put, List.setIfInBounds_toArray, List.set_cons_zero, List.set_cons_succ]
          refine wpAnyH_take (i := 3) (oi := ?oi3M29) (v := ?v3M29) ?oi0_3M29 (by kernel_rfl) ?ff3M29 ?rr3M29 ?hq3M29 (Or.inl ⟨?hw3M29, ?hy3M29⟩) (by assumption) ?rest3M29
          case oi0_3M29 => conv => lhs; whnf; arg 1; whnf
          case hq3M29 => exact fun _ _ _ h => h
          case ff3M29 | rr3M29 => kernel_rfl
          case hw3M29 => rfl
          case hy3M29 => intro w hSw; (try dsimp only at hSw); first | (go_simp; done) | (go_simp; with_reducible rfl)
          try simp only [Act.put, List.setIfInBounds_toArray, List.set_cons_zero, List.set_cons_succ]
          refine wpAnyH_take (i := 5) (oi := ?oi5M29) (v := ?v5M29) ?oi0_5M29 (by kernel_rfl) ?ff5M29 ?rr5M29 ?hq5M29 (Or.inl ⟨?hw5M29, ?hy5M29⟩) (by assumption) ?rest5M29
          case oi0_5M29 => conv => lhs; whnf; arg 1; whnf
          case hq5M29 => exact fun _ _ _ h => h
          case ff5M29 | rr5M29 => kernel_rfl
          case hw5M29 => rfl
          case hy5M29 => intro w hSw; (try dsimp only at hSw); first | (go_simp; done) | (go_simp; with_reducible rfl)
          try simp only [Act.put, List.setIfInBounds_toArray, List.set_cons_zero, List.set_cons_succ]
          refine wpAnyH_take (i := 8) (oi := ?oi8M29) (v := ?v8M29) ?oi0_8M29 (by kernel_rfl) ?ff8M29 ?rr8M29 ?hq8M29 (Or.inl ⟨?hw8M29, ?hy8M29⟩) (by assumption) ?rest8M29
          case oi0_8M29 => conv => lhs; whnf; arg 1; whnf
          case hq8M29 => exact fun _ _ _ h => h
          case ff8M29 | rr8M29 => kernel_rfl
          case hw8M29 => rfl
          case hy8M29 => intro w hSw; (try dsimp only at hSw); first | (go_simp; done) | (go_simp; with_reducible rfl)
          try simp only [Act.put, List.setIfInBounds_toArray, List.set_cons_zero, List.set_cons_succ]
          refine wpAnyH_take (i := 12) (oi := ?oi12M29) (v := ?v12M29) ?oi0_12M29 (by kernel_rfl) ?ff12M29 ?rr12M29 ?hq12M29 (Or.inl ⟨?hw12M29, ?hy12M29⟩) (by assumption) ?rest12M29
          case oi0_12M29 => conv => lhs; whnf; arg 1; whnf
          case hq12M29 => exact fun _ _ _ h => h
          case ff12M29 | rr12M29 => kernel_rfl
          case hw12M29 => rfl
          case hy12M29 => intro w hSw; (try dsimp only at hSw); first | (go_simp; done) | (go_simp; with_reducible rfl)
          try simp only [Act.put, List.setIfInBounds_toArray, List.set_cons_zero, List.set_cons_succ]
          refine wpAnyH_take (i := 13) (oi := ?oi13M29) (v := ?v13M29) ?oi0_13M29 (by kernel_rfl) ?ff13M29 ?rr13M29 ?hq13M29 (Or.inl ⟨?hw13M29, ?hy13M29⟩) (by assumption) ?rest13M29
          case oi0_13M29 => conv => lhs; whnf; arg 1; whnf
          case hq13M29 => exact fun _ _ _ h => h
          case ff13M29 | rr13M29 => kernel_rfl
          case hw13M29 => rfl
          case hy13M29 => intro w hSw; (try dsimp only at hSw); first | (go_simp; done) | (go_simp; with_reducible rfl)
          try simp only [Act.put, List.setIfInBounds_toArray, List.set_cons_zero, List.set_cons_succ]
          refine wpAnyH_take (i := 14) (oi := ?oi14M29) (v := ?v14M29) ?oi0_14M29 (by kernel_rfl) ?ff14M29 ?rr14M29 ?hq14M29 (Or.inl ⟨?hw14M29, ?hy14M29⟩) (by assumption) ?rest14M29
          case oi0_14M29 => conv => lhs; whnf; arg 1; whnf
          case hq14M29 => exact fun _ _ _ h => h
          case ff14M29 | rr14M29 => kernel_rfl
          case hw14M29 => rfl
          case hy14M29 => intro w hSw; (try dsimp only at hSw); first | (go_simp; done) | (go_simp; with_reducible rfl)
          try simp only [Act.put, List.setIfInBounds_toArray, List.set_cons_zero, List.set_cons_succ]
          refine wpAnyH_take (i := 15) (oi := ?oi15M29) (v := ?v15M29) ?oi0_15M29 (by kernel_rfl) ?ff15M29 ?rr15M29 ?hq15M29 (Or.inl ⟨?hw15M29, ?hy15M29⟩) (by assumption) ?rest15M29
          case oi0_15M29 => conv => lhs; whnf; arg 1; whnf
          case hq15M29 => exact fun _ _ _ h => h
          case ff15M29 | rr15M29 => kernel_rfl
          case hw15M29 => rfl
          case hy15M29 => intro w hSw; (try dsimp only at hSw); first | (go_simp; done) | (go_simp; with_reducible rfl)
          try simp only [Act.put, List.setIfInBounds_toArray, List.set_cons_zero, List.set_cons_succ]
          refine wpAnyH_take (i := 16) (oi := ?oi16M29) (v := ?v16M29) ?oi0_16M29 (by kernel_rfl) ?ff16M29 ?rr16M29 ?hq16M29 (Or.inl ⟨?hw16M29, ?hy16M29⟩) (by assumption) ?rest16M29
          case oi0_16M29 => conv => lhs; whnf; arg 1; whnf
          case hq16M29 => exact fun _ _ _ h => h
          case ff16M29 | rr16M29 => kernel_rfl
          case hw16M29 => rfl
          case hy16M29 => intro w hSw; (try dsimp only at hSw); first | (go_simp; done) | (go_simp; with_reducible rfl)
          try simp only [Act.put, List.setIfInBounds_toArray, List.set_cons_zero, List.set_cons_succ]
          refine wpAnyH_take (i := 17) (oi := ?oi17M29) (v := ?v17M29) ?oi0_17M29 (by kernel_rfl) ?ff17M29 ?rr17M29 ?hq17M29 (Or.inl ⟨?hw17M29, ?hy17M29⟩) (by assumption) ?rest17M29
          case oi0_17M29 => conv => lhs; whnf; arg 1; whnf
          case hq17M29 => exact fun _ _ _ h => h
          case ff17M29 | rr17M29 => kernel_rfl
          case hw17M29 => rfl
          case hy17M29 => intro w hSw; (try dsimp only at hSw); first | (go_simp; done) | (go_simp; with_reducible rfl)
          try simp only [Act.put, List.setIfInBounds_toArray, List.set_cons_zero, List.set_cons_succ]
          refine wpAnyH_take (i := 18) (oi := ?oi18M29) (v := ?v18M29) ?oi0_18M29 (by kernel_rfl) ?ff18M29 ?rr18M29 ?hq18M29 (Or.inl ⟨?hw18M29, ?hy18M29⟩) (by assumption) ?rest18M29
          case oi0_18M29 => conv => lhs; whnf; arg 1; whnf
          case hq18M29 => exact fun _ _ _ h => h
          case ff18M29 | rr18M29 => kernel_rfl
          case hw18M29 => rfl
          case hy18M29 => intro w hSw; (try dsimp only at hSw); first | (go_simp; done) | (go_simp; with_reducible rfl)
          try simp only [Act.put, List.setIfInBounds_toArray, List.set_cons_zero, List.set_cons_succ]
          refine wpAnyH_take (i := 19) (oi := ?oi19M29) (v := ?v19M29) ?oi0_19M29 (by kernel_rfl) ?ff19M29 ?rr19M29 ?hq19M29 (Or.inl ⟨?hw19M29, ?hy19M29⟩) (by assumption) ?rest19M29
          case oi0_19M29 => conv => lhs; whnf; arg 1; whnf
          case hq19M29 => exact fun _ _ _ h => h
          case ff19M29 | rr19M29 => kernel_rfl
          case hw19M29 => rfl
          case hy19M29 => intro w hSw; (try dsimp only at hSw); first | (go_simp; done) | (go_simp; with_reducible rfl)
          try simp only [Act.put, List.setIfInBounds_toArray, List.set_cons_zero, List.set_cons_succ]
          refine wpAnyH_take (i := 20) (oi := ?oi20M29) (v := ?v20M29) ?oi0_20M29 (by kernel_rfl) ?ff20M29 ?rr20M29 ?hq20M29 (Or.inl ⟨?hw20M29, ?hy20M29⟩) (by assumption) ?rest20M29
          case oi0_20M29 => conv => lhs; whnf; arg 1; whnf
          case hq20M29 => exact fun _ _ _ h => h
          case ff20M29 | rr20M29 => kernel_rfl
          case hw20M29 => rfl
          case hy20M29 => intro w hSw; (try dsimp only at hSw); first | (go_simp; done) | (go_simp; with_reducible rfl)
          try simp only [Act.put, List.setIfInBounds_toArray, List.set_cons_zero, List.set_cons_succ]
          refine wpAnyH_take (i := 21) (oi := ?oi21M29) (v := ?v21M29) ?oi0_21M29 (by kernel_rfl) ?ff21M29 ?rr21M29 ?hq21M29 (Or.inl ⟨?hw21M29, ?hy21M29⟩) (by assumption) ?rest21M29
          case oi0_21M29 => conv => lhs; whnf; arg 1; whnf
          case hq21M29 => exact fun _ _ _ h => h
          case ff21M29 | rr21M29 => kernel_rfl
          case hw21M29 => rfl
          case hy21M29 => intro w hSw; (try dsimp only at hSw); first | (go_simp; done) | (go_simp; with_reducible rfl)
          try simp only [Act.put, List.setIfInBounds_toArray, List.set_cons_zero, List.set_cons_succ]
          refine wpAnyH_take (i := 22) (oi := ?oi22M29) (v := ?v22M29) ?oi0_22M29 (by kernel_rfl) ?ff22M29 ?rr22M29 ?hq22M29 (Or.inl ⟨?hw22M29, ?hy22M29⟩) (by assumption) ?rest22M29
          case oi0_22M29 => conv => lhs; whnf; arg 1; whnf
          case hq22M29 => exact fun _ _ _ h => h
          case ff22M29 | rr22M29 => kernel_rfl
          case hw22M29 => rfl
          case hy22M29 => intro w hSw; (try dsimp only at hSw); first | (go_simp; done) | (go_simp; with_reducible rfl)
          try simp only [Act.put, List.setIfInBounds_toArray, List.set_cons_zero, List.set_cons_succ]
          refine wpAnyH_take (i := 23) (oi := ?oi23M29) (v := ?v23M29) ?oi0_23M29 (by kernel_rfl) ?ff23M29 ?rr23M29 ?hq23M29 (Or.inl ⟨?hw23M29, ?hy23M29⟩) (by assumption) ?rest23M29
          case oi0_23M29 => conv => lhs; whnf; arg 1; whnf
          case hq23M29 => exact fun _ _ _ h => h
          case ff23M29 | rr23M29 => kernel_rfl
          case hw23M29 => rfl
          case hy23M29 => intro w hSw; (try dsimp only at hSw); first | (go_simp; done) | (go_simp; with_reducible rfl)
          try simp only [Act.put, List.setIfInBounds_toArray, List.set_cons_zero, List.set_cons_succ]
          refine wpAnyH_take (i := 25) (oi := ?oi25M29) (v := ?v25M29) ?oi0_25M29 (by kernel_rfl) ?ff25M29 ?rr25M29 ?hq25M29 (Or.inl ⟨?hw25M29, ?hy25M29⟩) (by assumption) ?rest25M29
          case oi0_25M29 => conv => lhs; whnf; arg 1; whnf
          case hq25M29 => exact fun _ _ _ h => h
          case ff25M29 | rr25M29 => kernel_rfl
          case hw25M29 => rfl
          case hy25M29 => intro w hSw; (try dsimp only at hSw); first | (go_simp; done) | (go_simp; with_reducible rfl)
          try simp only [Act.put, List.setIfInBounds_toArray, List.set_cons_zero, List.set_cons_succ]
          refine wpAnyH_take (i := 26) (oi := ?oi26M29) (v := ?v26M29) ?oi0_26M29 (by kernel_rfl) ?ff26M29 ?rr26M29 ?hq26M29 (Or.inl ⟨?hw26M29, ?hy26M29⟩) (by assumption) ?rest26M29
          case oi0_26M29 => conv => lhs; whnf; arg 1; whnf
          case hq26M29 => exact fun _ _ _ h => h
          case ff26M29 | rr26M29 => kernel_rfl
          case hw26M29 => rfl
          case hy26M29 => intro w hSw; (try dsimp only at hSw); first | (go_simp; done) | (go_simp; with_reducible rfl)
          try simp only [Act.put, List.setIfInBounds_toArray, List.set_cons_zero, List.set_cons_succ]
          refine wpAnyH_take (i := 27) (oi := ?oi27M29) (v := ?v27M29) ?oi0_27M29 (by kernel_rfl) ?ff27M29 ?rr27M29 ?hq27M29 (Or.inl ⟨?hw27M29, ?hy27M29⟩) (by assumption) ?rest27M29
          case oi0_27M29 => conv => lhs; whnf; arg 1; whnf
          case hq27M29 => exact fun _ _ _ h => h
          case ff27M29 | rr27M29 => kernel_rfl
          case hw27M29 => rfl
          case hy27M29 => intro w hSw; (try dsimp only at hSw); first | (go_simp; done) | (go_simp; with_reducible rfl)
          try simp only [Act.put, List.setIfInBounds_toArray, List.set_cons_zero, List.set_cons_succ]
          refine wpAnyH_take (i := 28) (oi := ?oi28M29) (v := ?v28M29) ?oi0_28M29 (by kernel_rfl) ?ff28M29 ?rr28M29 ?hq28M29 (Or.inl ⟨?hw28M29, ?hy28M29⟩) (by assumption) ?rest28M29
          case oi0_28M29 => conv => lhs; whnf; arg 1; whnf
          case hq28M29 => exact fun _ _ _ h => h
          case ff28M29 | rr28M29 => kernel_rfl
          case hw28M29 => rfl
          case hy28M29 => intro w hSw; (try dsimp only at hSw); first | (go_simp; done) | (go_simp; with_reducible rfl)
          try simp only [Act.put, List.setIfInBounds_toArray, List.set_cons_zero, List.set_cons_succ]
          refine wpAnyH_take (i := 30) (oi := ?oi30M29) (v := ?v30M29) ?oi0_30M29 (by kernel_rfl) ?ff30M29 ?rr30M29 ?hq30M29 (Or.inl ⟨?hw30M29, ?hy30M29⟩) (by assumption) ?rest30M29
          case oi0_30M29 => conv => lhs; whnf; arg 1; whnf
          case hq30M29 => exact fun _ _ _ h => h
          case ff30M29 | rr30M29 => kernel_rfl
          case hw30M29 => rfl
          case hy30M29 => intro w hSw; (try dsimp only at hSw); first | (go_simp; done) | (go_simp; with_reducible rfl)
          try simp only [Act.put, List.setIfInBounds_toArray, List.set_cons_zero, List.set_cons_succ]
          refine wpAnyH_take (i := 31) (oi := ?oi31M29) (v := ?v31M29) ?oi0_31M29 (by kernel_rfl) ?ff31M29 ?rr31M29 ?hq31M29 (Or.inl ⟨?hw31M29, ?hy31M29⟩) (by assumption) ?rest31M29
          case oi0_31M29 => conv => lhs; whnf; arg 1; whnf
          case hq31M29 => exact fun _ _ _ h => h
          case ff31M29 | rr31M29 => kernel_rfl
          case hw31M29 => rfl
          case hy31M29 => intro w hSw; (try dsimp only at hSw); first | (go_simp; done) | (go_simp; with_reducible rfl)
          try simp only [Act.put, List.setIfInBounds_toArray, List.set_cons_zero, List.set_cons_succ]
          refine wpAnyH_take (i := 32) (oi := ?oi32M29) (v := ?v32M29) ?oi0_32M29 (by kernel_rfl) ?ff32M29 ?rr32M29 ?hq32M29 (Or.inl ⟨?hw32M29, ?hy32M29⟩) (by assumption) ?rest32M29
          case oi0_32M29 => conv => lhs; whnf; arg 1; whnf
          case hq32M29 => exact fun _ _ _ h => h
          case ff32M29 | rr32M29 => kernel_rfl
          case hw32M29 => rfl
          case hy32M29 => intro w hSw; (try dsimp only at hSw); first | (go_simp; done) | (go_simp; with_reducible rfl)
          try simp only [Act.put, List.setIfInBounds_toArray, List.set_cons_zero, List.set_cons_succ]
          refine wpAnyH_take (i := 33) (oi := ?oi33M29) (v := ?v33M29) ?oi0_33M29 (by kernel_rfl) ?ff33M29 ?rr33M29 ?hq33M29 (Or.inl ⟨?hw33M29, ?hy33M29⟩) (by assumption) ?rest33M29
          case oi0_33M29 => conv => lhs; whnf; arg 1; whnf
          case hq33M29 => exact fun _ _ _ h => h
          case ff33M29 | rr33M29 => kernel_rfl
          case hw33M29 => rfl
          case hy33M29 => intro w hSw; (try dsimp only at hSw); first | (go_simp; done) | (go_simp; with_reducible rfl)
          try simp only [Act.put, List.setIfInBounds_toArray, List.set_cons_zero, List.set_cons_succ]
          refine wpAnyH_ready (rs := [4]) (by kernel_rfl) (by simp) (AllReadyH.cons (o := ?oiM30) ?oi0_M30 (fun K hK => ?_) AllReadyH.nil)
          case oi0_M30 => conv => lhs; whnf; arg 1; whnf
          go_simp
          refine (rotated_any x4 6 _ (by decide) (by decide) HX4.out).mono ?_
          rintro e v12 ⟨rfl, u⟩
          try simp only
          have hS : v12.cell? ⟨vb, 7, none⟩ = some (.int .u32 x7) ∧ v12.cell? ⟨vb, 5, none⟩ = some (.int .u32 x5) ∧ v12.cell? ⟨vb, 6, none⟩ = some (.int .u32 x6) ∧ v12.cell? ⟨kb, k, none⟩ = some (.int .u32 kk) ∧ v12.cell? ⟨wb, k, none⟩ = some (.int .u32 xk) := ⟨keepc _ _ _ _ u hHeld.1, keepc _ _ _ _ u hHeld.2.1, keepc _ _ _ _ u hHeld.2.2.1, keepc _ _ _ _ u hHeld.2.2.2.1, keepc _ _ _ _ u hHeld.2.2.2.2⟩
          replace HU := hide (HU.out.trans u (by simp))
          replace HCK := hide (keepc _ _ _ _ u HCK.out)
          replace HCX := hide (keepc _ _ _ _ u HCX.out)
          replace HV0 := hide (keepc _ _ _ _ u HV0.out)
          replace HV1 := hide (keepc _ _ _ _ u HV1.out)
          replace HV2 := hide (keepc _ _ _ _ u HV2.out)
          replace HV3 := hide (keepc _ _ _ _ u HV3.out)
          replace HV4 := hide (keepc _ _ _ _ u HV4.out)
          replace HV5 := hide (keepc _ _ _ _ u HV5.out)
          replace HV6 := hide (keepc _ _ _ _ u HV6.out)
          replace HV7 := hide (keepc _ _ _ _ u HV7.out)
          clear u hHeld
          (try dsimp only)
          refine hK.out _ _ (by exact hS) (fun hHeld => ?_)
          clear hK K
          try simp only [Act.put, List.setIfInBounds_toArray, List.set_cons_zero, List.set_cons_succ]
          clear hS
          refine wpAnyH_ready (rs := [6]) (by kernel_rfl) (by simp) (AllReadyH.cons (o := ?oiM31) ?oi0_M31 (fun K hK => ?_) AllReadyH.nil)
          case oi0_M31 => conv => lhs; whnf; arg 1; whnf
          go_simp
          refine (rotated_any x4 11 _ (by decide) (by decide) HX4.out).mono ?_
          rintro e v13 ⟨rfl, u⟩
          try simp only
          have hS : v13.cell? ⟨vb, 7, none⟩ = some (.int .u32 x7) ∧ v13.cell? ⟨vb, 5, none⟩ = some (.int .u32 x5) ∧ v13.cell? ⟨vb, 6, none⟩ = some (.int .u32 x6) ∧ v13.cell? ⟨kb, k, none⟩ = some (.int .u32 kk) ∧ v13.cell? ⟨wb, k, none⟩ = some (.int .u32 xk) := ⟨keepc _ _ _ _ u hHeld.1, keepc _ _ _ _ u hHeld.2.1, keepc _ _ _ _ u hHeld.2.2.1, keepc _ _ _ _ u hHeld.2.2.2.1, keepc _ _ _ _ u hHeld.2.2.2.2⟩
          replace HU := hide (HU.out.trans u (by simp))
          replace HCK := hide (keepc _ _ _ _ u HCK.out)
          replace HCX := hide (keepc _ _ _ _ u HCX.out)
          replace HV0 := hide (keepc _ _ _ _ u HV0.out)
          replace HV1 := hide (keepc _ _ _ _ u HV1.out)
          replace HV2 := hide (keepc _ _ _ _ u HV2.out)
          replace HV3 := hide (keepc _ _ _ _ u HV3.out)
          replace HV4 := hide (keepc _ _ _ _ u HV4.out)
          replace HV5 := hide (keepc _ _ _ _ u HV5.out)
          replace HV6 := hide (keepc _ _ _ _ u HV6.out)
          replace HV7 := hide (keepc _ _ _ _ u HV7.out)
          clear u hHeld
          (try dsimp only)
          refine hK.out _ _ (by exact hS) (fun hHeld => ?_)
          clear hK K
          try simp only [Act.put, List.setIfInBounds_toArray, List.set_cons_zero, List.set_cons_succ]
          clear hS
          refine wpAnyH_take (i := 7) (oi := ?oi7M32) (v := ?v7M32) ?oi0_7M32 (by kernel_rfl) ?ff7M32 ?rr7M32 ?hq7M32 (Or.inl ⟨?hw7M32, ?hy7M32⟩) (by assumption) ?rest7M32
          case oi0_7M32 => conv => lhs; whnf; arg 1; whnf
          case hq7M32 => exact fun _ _ _ h => h
          case ff7M32 | rr7M32 => kernel_rfl
          case hw7M32 => rfl
          case hy7M32 => intro w hSw; (try dsimp only at hSw); first | (go_simp; done) | (go_simp; with_reducible rfl)
          try simp only [Act.put, List.setIfInBounds_toArray, List.set_cons_zero, List.set_cons_succ]
          refine wpAnyH_ready (rs := [9]) (by kernel_rfl) (by simp) (AllReadyH.cons (o := ?oiM33) ?oi0_M33 (fun K hK => ?_) AllReadyH.nil)
          case oi0_M33 => conv => lhs; whnf; arg 1; whnf
          go_simp
          refine (rotated_any x4 25 _ (by decide) (by decide) HX4.out).mono ?_
          rintro e v14 ⟨rfl, u⟩
          try simp only
          have hS : v14.cell? ⟨vb, 7, none⟩ = some (.int .u32 x7) ∧ v14.cell? ⟨vb, 5, none⟩ = some (.int .u32 x5) ∧ v14.cell? ⟨vb, 6, none⟩ = some (.int .u32 x6) ∧ v14.cell? ⟨kb, k, none⟩ = some (.int .u32 kk) ∧ v14.cell? ⟨wb, k, none⟩ = some (.int .u32 xk) := ⟨keepc _ _ _ _ u hHeld.1, keepc _ _ _ _ u hHeld.2.1, keepc _ _ _ _ u hHeld.2.2.1, keepc _ _ _ _ u hHeld.2.2.2.1, keepc _ _ _ _ u hHeld.2.2.2.2⟩
          replace HU := hide (HU.out.trans u (by simp))
          replace HCK := hide (keepc _ _ _ _ u HCK.out)
          replace HCX := hide (keepc _ _ _ _ u HCX.out)
          replace HV0 := hide (keepc _ _ _ _ u HV0.out)
          replace HV1 := hide (keepc _ _ _ _ u HV1.out)
          replace HV2 := hide (keepc _ _ _ _ u HV2.out)
          replace HV3 := hide (keepc _ _ _ _ u HV3.out)
          replace HV4 := hide (keepc _ _ _ _ u HV4.out)
          replace HV5 := hide (keepc _ _ _ _ u HV5.out)
          replace HV6 := hide (keepc _ _ _ _ u HV6.out)
          replace HV7 := hide (keepc _ _ _ _ u HV7.out)
          clear u hHeld
          (try dsimp only)
          refine hK.out _ _ (by exact hS) (fun hHeld => ?_)
          clear hK K
          try simp only [Act.put, List.setIfInBounds_toArray, List.set_cons_zero, List.set_cons_succ]
          clear hS
          refine wpAnyH_take (i := 10) (oi := ?oi10M34) (v := ?v10M34) ?oi0_10M34 (by kernel_rfl) ?ff10M34 ?rr10M34 ?hq10M34 (Or.inl ⟨?hw10M34, ?hy10M34⟩) (by assumption) ?rest10M34
          case oi0_10M34 => conv => lhs; whnf; arg 1; whnf
          case hq10M34 => exact fun _ _ _ h => h
          case ff10M34 | rr10M34 => kernel_rfl
          case hw10M34 => rfl
          case hy10M34 => intro w hSw; (try dsimp only at hSw); first | (go_simp; done) | (go_simp; with_reducible rfl)
          try simp only [Act.put, List.setIfInBounds_toArray, List.set_cons_zero, List.set_cons_succ]
          refine wpAnyH_take (i := 11) (oi := ?oi11M34) (v := ?v11M34) ?oi0_11M34 (by kernel_rfl) ?ff11M34 ?rr11M34 ?hq11M34 (Or.inl ⟨?hw11M34, ?hy11M34⟩) (by assumption) ?rest11M34
          case oi0_11M34 => conv => lhs; whnf; arg 1; whnf
          case hq11M34 => exact fun _ _ _ h => h
          case ff11M34 | rr11M34 => kernel_rfl
          case hw11M34 => rfl
          case hy11M34 => intro w hSw; (try dsimp only at hSw); first | (go_simp; done) | (go_simp; with_reducible rfl)
          try simp only [Act.put, List.setIfInBounds_toArray, List.set_cons_zero, List.set_cons_succ]
          refine wpAnyH_take (i := 24) (oi := ?oi24M34) (v := ?v24M34) ?oi0_24M34 (by kernel_rfl) ?ff24M34 ?rr24M34 ?hq24M34 (Or.inl ⟨?hw24M34, ?hy24M34⟩) (by assumption) ?rest24M34
          case oi0_24M34 => conv => lhs; whnf; arg 1; whnf
          case hq24M34 => exact fun _ _ _ h => h
          case ff24M34 | rr24M34 => kernel_rfl
          case hw24M34 => rfl
          case hy24M34 => intro w hSw; (try dsimp only at hSw); first | (go_simp; done) | (go_simp; with_reducible rfl)
          try simp only [Act.put, List.setIfInBounds_toArray, List.set_cons_zero, List.set_cons_succ]
          refine wpAnyH_take (i := 29) (oi := ?oi29M34) (v := ?v29M34) ?oi0_29M34 (by kernel_rfl) ?ff29M34 ?rr29M34 ?hq29M34 (Or.inl ⟨?hw29M34, ?hy29M34⟩) (by assumption) ?rest29M34
          case oi0_29M34 => conv => lhs; whnf; arg 1; whnf
          case hq29M34 => exact fun _ _ _ h => h
          case ff29M34 | rr29M34 => kernel_rfl
          case hw29M34 => rfl
          case hy29M34 => intro w hSw; (try dsimp only at hSw); first | (go_simp; done) | (go_simp; with_reducible rfl)
          try simp only [Act.put, List.setIfInBounds_toArray, List.set_cons_zero, List.set_cons_succ]
          refine wpAnyH_take (i := 34) (oi := ?oi34M34) (v := ?v34M34) ?oi0_34M34 (by kernel_rfl) ?ff34M34 ?rr34M34 ?hq34M34 (Or.inl ⟨?hw34M34, ?hy34M34⟩) (by assumption) ?rest34M34
          case oi0_34M34 => conv => lhs; whnf; arg 1; whnf
          case hq34M34 => exact fun _ _ _ h => h
          case ff34M34 | rr34M34 => kernel_rfl
          case hw34M34 => rfl
          case hy34M34 => intro w hSw; (try dsimp only at hSw); first | (go_simp; done) | (go_simp; with_reducible rfl)
          try simp only [Act.put, List.setIfInBounds_toArray, List.set_cons_zero, List.set_cons_succ]
          refine wpAnyH_take (i := 35) (oi := ?oi35M34) (v := ?v35M34) ?oi0_35M34 (by kernel_rfl) ?ff35M34 ?rr35M34 ?hq35M34 (Or.inl ⟨?hw35M34, ?hy35M34⟩) (by assumption) ?rest35M34
          case oi0_35M34 => conv => lhs; whnf; arg 1; whnf
          case hq35M34 => exact fun _ _ _ h => h
          case ff35M34 | rr35M34 => kernel_rfl
          case hw35M34 => rfl
          case hy35M34 => intro w hSw; (try dsimp only at hSw); first | (go_simp; done) | (go_simp; with_reducible rfl)
          try simp only [Act.put, List.setIfInBounds_toArray, List.set_cons_zero, List.set_cons_succ]
          refine wpAnyH_done (by kernel_rfl) ?_ _
          clear hHeld
          obtain ⟨m1, hm1⟩ : ∃ x, bits .xor .u32 (rotS 6 x4) (rotS 11 x4) = x := ⟨_, rfl⟩
          rw [hm1]
          obtain ⟨m2, hm2⟩ : ∃ x, bits .xor .u32 m1 (rotS 25 x4) = x := ⟨_, rfl⟩
          rw [hm2]
          obtain ⟨a1, ha1⟩ : ∃ x, bits .and .u32 x4 x5 = x := ⟨_, rfl⟩
          rw [ha1]
          obtain ⟨a2, ha2⟩ : ∃ x, bits .xor .u32 (if IntKind.u32.signed = true then -1 else IntKind.u32.max) x4 = x := ⟨_, rfl⟩
          rw [ha2]
          obtain ⟨a3, ha3⟩ : ∃ x, bits .and .u32 a2 x6 = x := ⟨_, rfl⟩
          rw [ha3]
          obtain ⟨a4, ha4⟩ : ∃ x, bits .xor .u32 a1 a3 = x := ⟨_, rfl⟩
          rw [ha4]
          obtain ⟨s1, hs1⟩ : ∃ x, IntKind.u32.wrap (x7 + m2) = x := ⟨_, rfl⟩
          rw [hs1]
          obtain ⟨s2, hs2⟩ : ∃ x, IntKind.u32.wrap (s1 + a4) = x := ⟨_, rfl⟩
          rw [hs2]
          obtain ⟨s3, hs3⟩ : ∃ x, IntKind.u32.wrap (s2 + kk) = x := ⟨_, rfl⟩
          rw [hs3]
          obtain ⟨tt, htt⟩ : ∃ x, IntKind.u32.wrap (s3 + xk) = x := ⟨_, rfl⟩
          rw [htt]
          have HTT := hide (show IntKind.u32.wrap (IntKind.u32.wrap (IntKind.u32.wrap (IntKind.u32.wrap (x7 + bits .xor .u32 (bits .xor .u32 (rotS 6 x4) (rotS 11 x4)) (rotS 25 x4)) + bits .xor .u32 (bits .and .u32 x4 x5) (bits .and .u32 (bits .xor .u32 (if IntKind.u32.signed = true then -1 else IntKind.u32.max) x4) x6)) + kk) + xk) = tt by rw [hm1, hm2, ha1, ha2, ha3, ha4, hs1, hs2, hs3, htt])
          clear hm1 hm2 ha1 ha2 ha3 ha4 hs1 hs2 hs3 htt
          go_wp2_with fail
          refine wp_region_held_drew (S := (fun w' => w'.cell? ⟨vb, 1, none⟩ = some (.int .u32 x1) ∧ w'.cell? ⟨vb, 2, none⟩ = some (.int .u32 x2))) (by kernel_rfl) (by exact ⟨HV1.out, HV2.out⟩) (fun hHeld => ?_)
          obtain ⟨v15, hwD⟩ : ∃ x, v14.drew = x := ⟨_, rfl⟩
          have u : Upd [] v14 v15 := by rw [← hwD]; exact (Upd.refl [] _).drew
          rw [hwD] at hHeld ⊢
          clear hwD
          replace HU := hide (HU.out.trans u (by simp))
          replace HCK := hide (keepc _ _ _ _ u HCK.out)
          replace HCX := hide (keepc _ _ _ _ u HCX.out)
          replace HV0 := hide (keepc _ _ _ _ u HV0.out)
          replace HV1 := hide (keepc _ _ _ _ u HV1.out)
          replace HV2 := hide (keepc _ _ _ _ u HV2.out)
          replace HV3 := hide (keepc _ _ _ _ u HV3.out)
          replace HV4 := hide (keepc _ _ _ _ u HV4.out)
          replace HV5 := hide (keepc _ _ _ _ u HV5.out)
          replace HV6 := hide (keepc _ _ _ _ u HV6.out)
          replace HV7 := hide (keepc _ _ _ _ u HV7.out)
          clear u
          refine wpAnyH_take (i := 0) (oi := ?oi0M37) (v := ?v0M37) ?oi0_0M37 (by kernel_rfl) ?ff0M37 ?rr0M37 ?hq0M37 (Or.inl ⟨?hw0M37, ?hy0M37⟩) (by assumption) ?rest0M37
          case oi0_0M37 => conv => lhs; whnf; arg 1; whnf
          case hq0M37 => exact fun _ _ _ h => h
          case ff0M37 | rr0M37 => kernel_rfl
          case hw0M37 => rfl
          case hy0M37 => intro w hSw; (try dsimp only at hSw); first | (go_simp; done) | (go_simp; with_reducible rfl)
          try simp only [Act.put, List.setIfInBounds_toArray, List.set_cons_zero, List.set_cons_succ]
          refine wpAnyH_take (i := 2) (oi := ?oi2M37) (v := ?v2M37) ?oi0_2M37 (by kernel_rfl) ?ff2M37 ?rr2M37 ?hq2M37 (Or.inl ⟨?hw2M37, ?hy2M37⟩) (by assumption) ?rest2M37
          case oi0_2M37 => conv => lhs; whnf; arg 1; whnf
          case hq2M37 => exact fun _ _ _ h => h
          case ff2M37 | rr2M37 => kernel_rfl
          case hw2M37 => rfl
          case hy2M37 => intro w hSw; (try dsimp only at hSw); first | (go_simp; done) | (go_simp; with_reducible rfl)
          try simp only [Act.put, List.setIfInBounds_toArray, List.set_cons_zero, List.set_cons_succ]
          refine wpAnyH_take (i := 5) (oi := ?oi5M37) (v := ?v5M37) ?oi0_5M37 (by kernel_rfl) ?ff5M37 ?rr5M37 ?hq5M37 (Or.inl ⟨?hw5M37, ?hy5M37⟩) (by assumption) ?rest5M37
          case oi0_5M37 => conv => lhs; whnf; arg 1; whnf
          case hq5M37 => exact fun _ _ _ h => h
          case ff5M37 | rr5M37 => kernel_rfl
          case hw5M37 => rfl
          case hy5M37 => intro w hSw; (try dsimp only at hSw); first | (go_simp; done) | (go_simp; with_reducible rfl)
          try simp only [Act.put, List.setIfInBounds_toArray, List.set_cons_zero, List.set_cons_succ]
          refine wpAnyH_take (i := 8) (oi := ?oi8M37) (v := ?v8M37) ?oi0_8M37 (by kernel_rfl) ?ff8M37 ?rr8M37 ?hq8M37 (Or.inl ⟨?hw8M37, ?hy8M37⟩) (by assumption) ?rest8M37
          case oi0_8M37 => conv => lhs; whnf; arg 1; whnf
          case hq8M37 => exact fun _ _ _ h => h
          case ff8M37 | rr8M37 => kernel_rfl
          case hw8M37 => rfl
          case hy8M37 => intro w hSw; (try dsimp only at hSw); first | (go_simp; done) | (go_simp; with_reducible rfl)
          try simp only [Act.put, List.setIfInBounds_toArray, List.set_cons_zero, List.set_cons_succ]
          refine wpAnyH_take (i := 9) (oi := ?oi9M37) (v := ?v9M37) ?oi0_9M37 (by kernel_rfl) ?ff9M37 ?rr9M37 ?hq9M37 (Or.inl ⟨?hw9M37, ?hy9M37⟩) (by assumption) ?rest9M37
          case oi0_9M37 => conv => lhs; whnf; arg 1; whnf
          case hq9M37 => exact fun _ _ _ h => h
          case ff9M37 | rr9M37 => kernel_rfl
          case hw9M37 => rfl
          case hy9M37 => intro w hSw; (try dsimp only at hSw); first | (go_simp; done) | (go_simp; with_reducible rfl)
          try simp only [Act.put, List.setIfInBounds_toArray, List.set_cons_zero, List.set_cons_succ]
          refine wpAnyH_take (i := 10) (oi := ?oi10M37) (v := ?v10M37) ?oi0_10M37 (by kernel_rfl) ?ff10M37 ?rr10M37 ?hq10M37 (Or.inl ⟨?hw10M37, ?hy10M37⟩) (by assumption) ?rest10M37
          case oi0_10M37 => conv => lhs; whnf; arg 1; whnf
          case hq10M37 => exact fun _ _ _ h => h
          case ff10M37 | rr10M37 => kernel_rfl
          case hw10M37 => rfl
          case hy10M37 => intro w hSw; (try dsimp only at hSw); first | (go_simp; done) | (go_simp; with_reducible rfl)
          try simp only [Act.put, List.setIfInBounds_toArray, List.set_cons_zero, List.set_cons_succ]
          refine wpAnyH_take (i := 11) (oi := ?oi11M37) (v := ?v11M37) ?oi0_11M37 (by kernel_rfl) ?ff11M37 ?rr11M37 ?hq11M37 (Or.inl ⟨?hw11M37, ?hy11M37⟩) (by assumption) ?rest11M37
          case oi0_11M37 => conv => lhs; whnf; arg 1; whnf
          case hq11M37 => exact fun _ _ _ h => h
          case ff11M37 | rr11M37 => kernel_rfl
          case hw11M37 => rfl
          case hy11M37 => intro w hSw; (try dsimp only at hSw); first | (go_simp; done) | (go_simp; with_reducible rfl)
          try simp only [Act.put, List.setIfInBounds_toArray, List.set_cons_zero, List.set_cons_succ]
          refine wpAnyH_take (i := 12) (oi := ?oi12M37) (v := ?v12M37) ?oi0_12M37 (by kernel_rfl) ?ff12M37 ?rr12M37 ?hq12M37 (Or.inl ⟨?hw12M37, ?hy12M37⟩) (by assumption) ?rest12M37
          case oi0_12M37 => conv => lhs; whnf; arg 1; whnf
          case hq12M37 => exact fun _ _ _ h => h
          case ff12M37 | rr12M37 => kernel_rfl
          case hw12M37 => rfl
          case hy12M37 => intro w hSw; (try dsimp only at hSw); first | (go_simp; done) | (go_simp; with_reducible rfl)
          try simp only [Act.put, List.setIfInBounds_toArray, List.set_cons_zero, List.set_cons_succ]
          refine wpAnyH_take (i := 13) (oi := ?oi13M37) (v := ?v13M37) ?oi0_13M37 (by kernel_rfl) ?ff13M37 ?rr13M37 ?hq13M37 (Or.inl ⟨?hw13M37, ?hy13M37⟩) (by assumption) ?rest13M37
          case oi0_13M37 => conv => lhs; whnf; arg 1; whnf
          case hq13M37 => exact fun _ _ _ h => h
          case ff13M37 | rr13M37 => kernel_rfl
          case hw13M37 => rfl
          case hy13M37 => intro w hSw; (try dsimp only at hSw); first | (go_simp; done) | (go_simp; with_reducible rfl)
          try simp only [Act.put, List.setIfInBounds_toArray, List.set_cons_zero, List.set_cons_succ]
          refine wpAnyH_take (i := 14) (oi := ?oi14M37) (v := ?v14M37) ?oi0_14M37 (by kernel_rfl) ?ff14M37 ?rr14M37 ?hq14M37 (Or.inl ⟨?hw14M37, ?hy14M37⟩) (by assumption) ?rest14M37
          case oi0_14M37 => conv => lhs; whnf; arg 1; whnf
          case hq14M37 => exact fun _ _ _ h => h
          case ff14M37 | rr14M37 => kernel_rfl
          case hw14M37 => rfl
          case hy14M37 => intro w hSw; (try dsimp only at hSw); first | (go_simp; done) | (go_simp; with_reducible rfl)
          try simp only [Act.put, List.setIfInBounds_toArray, List.set_cons_zero, List.set_cons_succ]
          refine wpAnyH_take (i := 15) (oi := ?oi15M37) (v := ?v15M37) ?oi0_15M37 (by kernel_rfl) ?ff15M37 ?rr15M37 ?hq15M37 (Or.inl ⟨?hw15M37, ?hy15M37⟩) (by assumption) ?rest15M37
          case oi0_15M37 => conv => lhs; whnf; arg 1; whnf
          case hq15M37 => exact fun _ _ _ h => h
          case ff15M37 | rr15M37 => kernel_rfl
          case hw15M37 => rfl
          case hy15M37 => intro w hSw; (try dsimp only at hSw); first | (go_simp; done) | (go_simp; with_reducible rfl)
          try simp only [Act.put, List.setIfInBounds_toArray, List.set_cons_zero, List.set_cons_succ]
          refine wpAnyH_take (i := 16) (oi := ?oi16M37) (v := ?v16M37) ?oi0_16M37 (by kernel_rfl) ?ff16M37 ?rr16M37 ?hq16M37 (Or.inl ⟨?hw16M37, ?hy16M37⟩) (by assumption) ?rest16M37
          case oi0_16M37 => conv => lhs; whnf; arg 1; whnf
          case hq16M37 => exact fun _ _ _ h => h
          case ff16M37 | rr16M37 => kernel_rfl
          case hw16M37 => rfl
          case hy16M37 => intro w hSw; (try dsimp only at hSw); first | (go_simp; done) | (go_simp; with_reducible rfl)
          try simp only [Act.put, List.setIfInBounds_toArray, List.set_cons_zero, List.set_cons_succ]
          refine wpAnyH_take (i := 17) (oi := ?oi17M37) (v := ?v17M37) ?oi0_17M37 (by kernel_rfl) ?ff17M37 ?rr17M37 ?hq17M37 (Or.inl ⟨?hw17M37, ?hy17M37⟩) (by assumption) ?rest17M37
          case oi0_17M37 => conv => lhs; whnf; arg 1; whnf
          case hq17M37 => exact fun _ _ _ h => h
          case ff17M37 | rr17M37 => kernel_rfl
          case hw17M37 => rfl
          case hy17M37 => intro w hSw; (try dsimp only at hSw); first | (go_simp; done) | (go_simp; with_reducible rfl)
          try simp only [Act.put, List.setIfInBounds_toArray, List.set_cons_zero, List.set_cons_succ]
          refine wpAnyH_take (i := 18) (oi := ?oi18M37) (v := ?v18M37) ?oi0_18M37 (by kernel_rfl) ?ff18M37 ?rr18M37 ?hq18M37 (Or.inl ⟨?hw18M37, ?hy18M37⟩) (by assumption) ?rest18M37
          case oi0_18M37 => conv => lhs; whnf; arg 1; whnf
          case hq18M37 => exact fun _ _ _ h => h
          case ff18M37 | rr18M37 => kernel_rfl
          case hw18M37 => rfl
          case hy18M37 => intro w hSw; (try dsimp only at hSw); first | (go_simp; done) | (go_simp; with_reducible rfl)
          try simp only [Act.put, List.setIfInBounds_toArray, List.set_cons_zero, List.set_cons_succ]
          refine wpAnyH_take (i := 19) (oi := ?oi19M37) (v := ?v19M37) ?oi0_19M37 (by kernel_rfl) ?ff19M37 ?rr19M37 ?hq19M37 (Or.inl ⟨?hw19M37, ?hy19M37⟩) (by assumption) ?rest19M37
          case oi0_19M37 => conv => lhs; whnf; arg 1; whnf
          case hq19M37 => exact fun _ _ _ h => h
          case ff19M37 | rr19M37 => kernel_rfl
          case hw19M37 => rfl
          case hy19M37 => intro w hSw; (try dsimp only at hSw); first | (go_simp; done) | (go_simp; with_reducible rfl)
          try simp only [Act.put, List.setIfInBounds_toArray, List.set_cons_zero, List.set_cons_succ]
          refine wpAnyH_take (i := 20) (oi := ?oi20M37) (v := ?v20M37) ?oi0_20M37 (by kernel_rfl) ?ff20M37 ?rr20M37 ?hq20M37 (Or.inl ⟨?hw20M37, ?hy20M37⟩) (by assumption) ?rest20M37
          case oi0_20M37 => conv => lhs; whnf; arg 1; whnf
          case hq20M37 => exact fun _ _ _ h => h
          case ff20M37 | rr20M37 => kernel_rfl
          case hw20M37 => rfl
          case hy20M37 => intro w hSw; (try dsimp only at hSw); first | (go_simp; done) | (go_simp; with_reducible rfl)
          try simp only [Act.put, List.setIfInBounds_toArray, List.set_cons_zero, List.set_cons_succ]
          refine wpAnyH_take (i := 21) (oi := ?oi21M37) (v := ?v21M37) ?oi0_21M37 (by kernel_rfl) ?ff21M37 ?rr21M37 ?hq21M37 (Or.inl ⟨?hw21M37, ?hy21M37⟩) (by assumption) ?rest21M37
          case oi0_21M37 => conv => lhs; whnf; arg 1; whnf
          case hq21M37 => exact fun _ _ _ h => h
          case ff21M37 | rr21M37 => kernel_rfl
          case hw21M37 => rfl
          case hy21M37 => intro w hSw; (try dsimp only at hSw); first | (go_simp; done) | (go_simp; with_reducible rfl)
          try simp only [Act.put, List.setIfInBounds_toArray, List.set_cons_zero, List.set_cons_succ]
          refine wpAnyH_take (i := 22) (oi := ?oi22M37) (v := ?v22M37) ?oi0_22M37 (by kernel_rfl) ?ff22M37 ?rr22M37 ?hq22M37 (Or.inl ⟨?hw22M37, ?hy22M37⟩) (by assumption) ?rest22M37
          case oi0_22M37 => conv => lhs; whnf; arg 1; whnf
          case hq22M37 => exact fun _ _ _ h => h
          case ff22M37 | rr22M37 => kernel_rfl
          case hw22M37 => rfl
          case hy22M37 => intro w hSw; (try dsimp only at hSw); first | (go_simp; done) | (go_simp; with_reducible rfl)
          try simp only [Act.put, List.setIfInBounds_toArray, List.set_cons_zero, List.set_cons_succ]
          refine wpAnyH_take (i := 23) (oi := ?oi23M37) (v := ?v23M37) ?oi0_23M37 (by kernel_rfl) ?ff23M37 ?rr23M37 ?hq23M37 (Or.inl ⟨?hw23M37, ?hy23M37⟩) (by assumption) ?rest23M37
          case oi0_23M37 => conv => lhs; whnf; arg 1; whnf
          case hq23M37 => exact fun _ _ _ h => h
          case ff23M37 | rr23M37 => kernel_rfl
          case hw23M37 => rfl
          case hy23M37 => intro w hSw; (try dsimp only at hSw); first | (go_simp; done) | (go_simp; with_reducible rfl)
          try simp only [Act.put, List.setIfInBounds_toArray, List.set_cons_zero, List.set_cons_succ]
          refine wpAnyH_take (i := 24) (oi := ?oi24M37) (v := ?v24M37) ?oi0_24M37 (by kernel_rfl) ?ff24M37 ?rr24M37 ?hq24M37 (Or.inl ⟨?hw24M37, ?hy24M37⟩) (by assumption) ?rest24M37
          case oi0_24M37 => conv => lhs; whnf; arg 1; whnf
          case hq24M37 => exact fun _ _ _ h => h
          case ff24M37 | rr24M37 => kernel_rfl
          case hw24M37 => rfl
          case hy24M37 => intro w hSw; (try dsimp only at hSw); first | (go_simp; done) | (go_simp; with_reducible rfl)
          try simp only [Act.put, List.setIfInBounds_toArray, List.set_cons_zero, List.set_cons_succ]
          refine wpAnyH_take (i := 25) (oi := ?oi25M37) (v := ?v25M37) ?oi0_25M37 (by kernel_rfl) ?ff25M37 ?rr25M37 ?hq25M37 (Or.inl ⟨?hw25M37, ?hy25M37⟩) (by assumption) ?rest25M37
          case oi0_25M37 => conv => lhs; whnf; arg 1; whnf
          case hq25M37 => exact fun _ _ _ h => h
          case ff25M37 | rr25M37 => kernel_rfl
          case hw25M37 => rfl
          case hy25M37 => intro w hSw; (try dsimp only at hSw); first | (go_simp; done) | (go_simp; with_reducible rfl)
          try simp only [Act.put, List.setIfInBounds_toArray, List.set_cons_zero, List.set_cons_succ]
          refine wpAnyH_take (i := 26) (oi := ?oi26M37) (v := ?v26M37) ?oi0_26M37 (by kernel_rfl) ?ff26M37 ?rr26M37 ?hq26M37 (Or.inl ⟨?hw26M37, ?hy26M37⟩) (by assumption) ?rest26M37
          case oi0_26M37 => conv => lhs; whnf; arg 1; whnf
          case hq26M37 => exact fun _ _ _ h => h
          case ff26M37 | rr26M37 => kernel_rfl
          case hw26M37 => rfl
          case hy26M37 => intro w hSw; (try dsimp only at hSw); first | (go_simp; done) | (go_simp; with_reducible rfl)
          try simp only [Act.put, List.setIfInBounds_toArray, List.set_cons_zero, List.set_cons_succ]
          refine wpAnyH_ready (rs := [1]) (by kernel_rfl) (by simp) (AllReadyH.cons (o := ?oiM38) ?oi0_M38 (fun K hK => ?_) AllReadyH.nil)
          case oi0_M38 => conv => lhs; whnf; arg 1; whnf
          go_simp
          refine (rotated_any x0 2 _ (by decide) (by decide) HX0.out).mono ?_
          rintro e v16 ⟨rfl, u⟩
          try simp only
          have hS : v16.cell? ⟨vb, 1, none⟩ = some (.int .u32 x1) ∧ v16.cell? ⟨vb, 2, none⟩ = some (.int .u32 x2) := ⟨keepc _ _ _ _ u hHeld.1, keepc _ _ _ _ u hHeld.2⟩
          replace HU := hide (HU.out.trans u (by simp))
          replace HCK := hide (keepc _ _ _ _ u HCK.out)
          replace HCX := hide (keepc _ _ _ _ u HCX.out)
          replace HV0 := hide (keepc _ _ _ _ u HV0.out)
          replace HV1 := hide (keepc _ _ _ _ u HV1.out)
          replace HV2 := hide (keepc _ _ _ _ u HV2.out)
          replace HV3 := hide (keepc _ _ _ _ u HV3.out)
          replace HV4 := hide (keepc _ _ _ _ u HV4.out)
          replace HV5 := hide (keepc _ _ _ _ u HV5.out)
          replace HV6 := hide (keepc _ _ _ _ u HV6.out)
          replace HV7 := hide (keepc _ _ _ _ u HV7.out)
          clear u hHeld
          (try dsimp only)
          refine hK.out _ _ (by exact hS) (fun hHeld => ?_)
          clear hK K
          try simp only [Act.put, List.setIfInBounds_toArray, List.set_cons_zero, List.set_cons_succ]
          clear hS
          refine wpAnyH_ready (rs := [3]) (by kernel_rfl) (by simp) (AllReadyH.cons (o := ?oiM39) ?oi0_M39 (fun K hK => ?_) AllReadyH.nil)
          case oi0_M39 => conv => lhs; whnf; arg 1; whnf
          go_simp
          refine (rotated_any x0 13 _ (by decide) (by decide) HX0.out).mono ?_
          rintro e v17 ⟨rfl, u⟩
          try simp only
          have hS : v17.cell? ⟨vb, 1, none⟩ = some (.int .u32 x1) ∧ v17.cell? ⟨vb, 2, none⟩ = some (.int .u32 x2) := ⟨keepc _ _ _ _ u hHeld.1, keepc _ _ _ _ u hHeld.2⟩
          replace HU := hide (HU.out.trans u (by simp))
          replace HCK := hide (keepc _ _ _ _ u HCK.out)
          replace HCX := hide (keepc _ _ _ _ u HCX.out)
          replace HV0 := hide (keepc _ _ _ _ u HV0.out)
          replace HV1 := hide (keepc _ _ _ _ u HV1.out)
          replace HV2 := hide (keepc _ _ _ _ u HV2.out)
          replace HV3 := hide (keepc _ _ _ _ u HV3.out)
          replace HV4 := hide (keepc _ _ _ _ u HV4.out)
          replace HV5 := hide (keepc _ _ _ _ u HV5.out)
          replace HV6 := hide (keepc _ _ _ _ u HV6.out)
          replace HV7 := hide (keepc _ _ _ _ u HV7.out)
          clear u hHeld
          (try dsimp only)
          refine hK.out _ _ (by exact hS) (fun hHeld => ?_)
          clear hK K
          try simp only [Act.put, List.setIfInBounds_toArray, List.set_cons_zero, List.set_cons_succ]
          clear hS
          refine wpAnyH_take (i := 4) (oi := ?oi4M40) (v := ?v4M40) ?oi0_4M40 (by kernel_rfl) ?ff4M40 ?rr4M40 ?hq4M40 (Or.inl ⟨?hw4M40, ?hy4M40⟩) (by assumption) ?rest4M40
          case oi0_4M40 => conv => lhs; whnf; arg 1; whnf
          case hq4M40 => exact fun _ _ _ h => h
          case ff4M40 | rr4M40 => kernel_rfl
          case hw4M40 => rfl
          case hy4M40 => intro w hSw; (try dsimp only at hSw); first | (go_simp; done) | (go_simp; with_reducible rfl)
          try simp only [Act.put, List.setIfInBounds_toArray, List.set_cons_zero, List.set_cons_succ]
          refine wpAnyH_ready (rs := [6]) (by kernel_rfl) (by simp) (AllReadyH.cons (o := ?oiM41) ?oi0_M41 (fun K hK => ?_) AllReadyH.nil)
          case oi0_M41 => conv => lhs; whnf; arg 1; whnf
          go_simp
          refine (rotated_any x0 22 _ (by decide) (by decide) HX0.out).mono ?_
          rintro e v18 ⟨rfl, u⟩
          try simp only
          have hS : v18.cell? ⟨vb, 1, none⟩ = some (.int .u32 x1) ∧ v18.cell? ⟨vb, 2, none⟩ = some (.int .u32 x2) := ⟨keepc _ _ _ _ u hHeld.1, keepc _ _ _ _ u hHeld.2⟩
          replace HU := hide (HU.out.trans u (by simp))
          replace HCK := hide (keepc _ _ _ _ u HCK.out)
          replace HCX := hide (keepc _ _ _ _ u HCX.out)
          replace HV0 := hide (keepc _ _ _ _ u HV0.out)
          replace HV1 := hide (keepc _ _ _ _ u HV1.out)
          replace HV2 := hide (keepc _ _ _ _ u HV2.out)
          replace HV3 := hide (keepc _ _ _ _ u HV3.out)
          replace HV4 := hide (keepc _ _ _ _ u HV4.out)
          replace HV5 := hide (keepc _ _ _ _ u HV5.out)
          replace HV6 := hide (keepc _ _ _ _ u HV6.out)
          replace HV7 := hide (keepc _ _ _ _ u HV7.out)
          clear u hHeld
          (try dsimp only)
          refine hK.out _ _ (by exact hS) (fun hHeld => ?_)
          clear hK K
          try simp only [Act.put, List.setIfInBounds_toArray, List.set_cons_zero, List.set_cons_succ]
          clear hS
          refine wpAnyH_take (i := 7) (oi := ?oi7M42) (v := ?v7M42) ?oi0_7M42 (by kernel_rfl) ?ff7M42 ?rr7M42 ?hq7M42 (Or.inl ⟨?hw7M42, ?hy7M42⟩) (by assumption) ?rest7M42
          case oi0_7M42 => conv => lhs; whnf; arg 1; whnf
          case hq7M42 => exact fun _ _ _ h => h
          case ff7M42 | rr7M42 => kernel_rfl
          case hw7M42 => rfl
          case hy7M42 => intro w hSw; (try dsimp only at hSw); first | (go_simp; done) | (go_simp; with_reducible rfl)
          try simp only [Act.put, List.setIfInBounds_toArray, List.set_cons_zero, List.set_cons_succ]
          refine wpAnyH_take (i := 27) (oi := ?oi27M42) (v := ?v27M42) ?oi0_27M42 (by kernel_rfl) ?ff27M42 ?rr27M42 ?hq27M42 (Or.inl ⟨?hw27M42, ?hy27M42⟩) (by assumption) ?rest27M42
          case oi0_27M42 => conv => lhs; whnf; arg 1; whnf
          case hq27M42 => exact fun _ _ _ h => h
          case ff27M42 | rr27M42 => kernel_rfl
          case hw27M42 => rfl
          case hy27M42 => intro w hSw; (try dsimp only at hSw); first | (go_simp; done) | (go_simp; with_reducible rfl)
          try simp only [Act.put, List.setIfInBounds_toArray, List.set_cons_zero, List.set_cons_succ]
          refine wpAnyH_take (i := 28) (oi := ?oi28M42) (v := ?v28M42) ?oi0_28M42 (by kernel_rfl) ?ff28M42 ?rr28M42 ?hq28M42 (Or.inl ⟨?hw28M42, ?hy28M42⟩) (by assumption) ?rest28M42
          case oi0_28M42 => conv => lhs; whnf; arg 1; whnf
          case hq28M42 => exact fun _ _ _ h => h
          case ff28M42 | rr28M42 => kernel_rfl
          case hw28M42 => rfl
          case hy28M42 => intro w hSw; (try dsimp only at hSw); first | (go_simp; done) | (go_simp; with_reducible rfl)
          try simp only [Act.put, List.setIfInBounds_toArray, List.set_cons_zero, List.set_cons_succ]
          refine wpAnyH_done (by kernel_rfl) ?_ _
          clear hHeld
          obtain ⟨m1, hm1⟩ : ∃ x, bits .xor .u32 (rotS 2 x0) (rotS 13 x0) = x := ⟨_, rfl⟩
          rw [hm1]
          obtain ⟨m2, hm2⟩ : ∃ x, bits .xor .u32 m1 (rotS 22 x0) = x := ⟨_, rfl⟩
          rw [hm2]
          obtain ⟨a1, ha1⟩ : ∃ x, bits .and .u32 x0 x1 = x := ⟨_, rfl⟩
          rw [ha1]
          obtain ⟨a2, ha2⟩ : ∃ x, bits .and .u32 x0 x2 = x := ⟨_, rfl⟩
          rw [ha2]
          obtain ⟨a3, ha3⟩ : ∃ x, bits .xor .u32 a1 a2 = x := ⟨_, rfl⟩
          rw [ha3]
          obtain ⟨a4, ha4⟩ : ∃ x, bits .and .u32 x1 x2 = x := ⟨_, rfl⟩
          rw [ha4]
          obtain ⟨a5, ha5⟩ : ∃ x, bits .xor .u32 a3 a4 = x := ⟨_, rfl⟩
          rw [ha5]
          obtain ⟨uu, huu⟩ : ∃ x, IntKind.u32.wrap (m2 + a5) = x := ⟨_, rfl⟩
          rw [huu]
          have HUU := hide (show IntKind.u32.wrap (bits .xor .u32 (bits .xor .u32 (rotS 2 x0) (rotS 13 x0)) (rotS 22 x0) + bits .xor .u32 (bits .xor .u32 (bits .and .u32 x0 x1) (bits .and .u32 x0 x2)) (bits .and .u32 x1 x2)) = uu by rw [hm1, hm2, ha1, ha2, ha3, ha4, ha5, huu])
          clear hm1 hm2 ha1 ha2 ha3 ha4 ha5 huu
          go_wp2_with fail
          refine wp_region_held_drew (S := (fun w' => w'.cell? ⟨vb, 1, none⟩ = some (.int .u32 x1) ∧ w'.cell? ⟨vb, 2, none⟩ = some (.int .u32 x2) ∧ w'.cell? ⟨vb, 3, none⟩ = some (.int .u32 x3) ∧ w'.cell? ⟨vb, 5, none⟩ = some (.int .u32 x5) ∧ w'.cell? ⟨vb, 6, none⟩ = some (.int .u32 x6))) (by kernel_rfl) (by exact ⟨HV1.out, HV2.out, HV3.out, HV5.out, HV6.out⟩) (fun hHeld => ?_)
          obtain ⟨v19, hwD⟩ : ∃ x, v18.drew = x := ⟨_, rfl⟩
          have u : Upd [] v18 v19 := by rw [← hwD]; exact (Upd.refl [] _).drew
          rw [hwD] at hHeld ⊢
          clear hwD
          replace HU := hide (HU.out.trans u (by simp))
          replace HCK := hide (keepc _ _ _ _ u HCK.out)
          replace HCX := hide (keepc _ _ _ _ u HCX.out)
          replace HV0 := hide (keepc _ _ _ _ u HV0.out)
          replace HV1 := hide (keepc _ _ _ _ u HV1.out)
          replace HV2 := hide (keepc _ _ _ _ u HV2.out)
          replace HV3 := hide (keepc _ _ _ _ u HV3.out)
          replace HV4 := hide (keepc _ _ _ _ u HV4.out)
          replace HV5 := hide (keepc _ _ _ _ u HV5.out)
          replace HV6 := hide (keepc _ _ _ _ u HV6.out)
          replace HV7 := hide (keepc _ _ _ _ u HV7.out)
          clear u
          refine wpAnyH_take (i := 0) (oi := ?oi0M45) (v := ?v0M45) ?oi0_0M45 (by kernel_rfl) ?ff0M45 ?rr0M45 ?hq0M45 (Or.inl ⟨?hw0M45, ?hy0M45⟩) (by assumption) ?rest0M45
          case oi0_0M45 => conv => lhs; whnf; arg 1; whnf
          case hq0M45 => exact fun _ _ _ h => h
          case ff0M45 | rr0M45 => kernel_rfl
          case hw0M45 => rfl
          case hy0M45 => intro w hSw; (try dsimp only at hSw); first | (go_simp; done) | (go_simp; with_reducible rfl)
          try simp only [Act.put, List.setIfInBounds_toArray, List.set_cons_zero, List.set_cons_succ]
          refine wpAnyH_take (i := 1) (oi := ?oi1M45) (v := ?v1M45) ?oi0_1M45 (by kernel_rfl) ?ff1M45 ?rr1M45 ?hq1M45 (Or.inl ⟨?hw1M45, ?hy1M45⟩) (by assumption) ?rest1M45
          case oi0_1M45 => conv => lhs; whnf; arg 1; whnf
          case hq1M45 => exact fun _ _ _ h => h
          case ff1M45 | rr1M45 => kernel_rfl
          case hw1M45 => rfl
          case hy1M45 => intro w hSw; (try dsimp only at hSw); first | (go_simp; done) | (go_simp; with_reducible rfl)
          try simp only [Act.put, List.setIfInBounds_toArray, List.set_cons_zero, List.set_cons_succ]
          refine wpAnyH_take (i := 2) (oi := ?oi2M45) (v := ?v2M45) ?oi0_2M45 (by kernel_rfl) ?ff2M45 ?rr2M45 ?hq2M45 (Or.inl ⟨?hw2M45, ?hy2M45⟩) (by assumption) ?rest2M45
          case oi0_2M45 => conv => lhs; whnf; arg 1; whnf
          case hq2M45 => exact fun _ _ _ h => h
          case ff2M45 | rr2M45 => kernel_rfl
          case hw2M45 => rfl
          case hy2M45 => intro w hSw; (try dsimp only at hSw); first | (go_simp; done) | (go_simp; with_reducible rfl)
          try simp only [Act.put, List.setIfInBounds_toArray, List.set_cons_zero, List.set_cons_succ]
          refine wpAnyH_take (i := 3) (oi := ?oi3M45) (v := ?v3M45) ?oi0_3M45 (by kernel_rfl) ?ff3M45 ?rr3M45 ?hq3M45 (Or.inl ⟨?hw3M45, ?hy3M45⟩) (by assumption) ?rest3M45
          case oi0_3M45 => conv => lhs; whnf; arg 1; whnf
          case hq3M45 => exact fun _ _ _ h => h
          case ff3M45 | rr3M45 => kernel_rfl
          case hw3M45 => rfl
          case hy3M45 => intro w hSw; (try dsimp only at hSw); first | (go_simp; done) | (go_simp; with_reducible rfl)
          try simp only [Act.put, List.setIfInBounds_toArray, List.set_cons_zero, List.set_cons_succ]
          refine wpAnyH_take (i := 4) (oi := ?oi4M45) (v := ?v4M45) ?oi0_4M45 (by kernel_rfl) ?ff4M45 ?rr4M45 ?hq4M45 (Or.inl ⟨?hw4M45, ?hy4M45⟩) (by assumption) ?rest4M45
          case oi0_4M45 => conv => lhs; whnf; arg 1; whnf
          case hq4M45 => exact fun _ _ _ h => h
          case ff4M45 | rr4M45 => kernel_rfl
          case hw4M45 => rfl
          case hy4M45 => intro w hSw; (try dsimp only at hSw); first | (go_simp; done) | (go_simp; with_reducible rfl)
          try simp only [Act.put, List.setIfInBounds_toArray, List.set_cons_zero, List.set_cons_succ]
          refine wpAnyH_take (i := 5) (oi := ?oi5M45) (v := ?v5M45) ?oi0_5M45 (by kernel_rfl) ?ff5M45 ?rr5M45 ?hq5M45 (Or.inl ⟨?hw5M45, ?hy5M45⟩) (by assumption) ?rest5M45
          case oi0_5M45 => conv => lhs; whnf; arg 1; whnf
          case hq5M45 => exact fun _ _ _ h => h
          case ff5M45 | rr5M45 => kernel_rfl
          case hw5M45 => rfl
          case hy5M45 => intro w hSw; (try dsimp only at hSw); first | (go_simp; done) | (go_simp; with_reducible rfl)
          try simp only [Act.put, List.setIfInBounds_toArray, List.set_cons_zero, List.set_cons_succ]
          refine wpAnyH_take (i := 6) (oi := ?oi6M45) (v := ?v6M45) ?oi0_6M45 (by kernel_rfl) ?ff6M45 ?rr6M45 ?hq6M45 (Or.inl ⟨?hw6M45, ?hy6M45⟩) (by assumption) ?rest6M45
          case oi0_6M45 => conv => lhs; whnf; arg 1; whnf
          case hq6M45 => exact fun _ _ _ h => h
          case ff6M45 | rr6M45 => kernel_rfl
          case hw6M45 => rfl
          case hy6M45 => intro w hSw; (try dsimp only at hSw); first | (go_simp; done) | (go_simp; with_reducible rfl)
          try simp only [Act.put, List.setIfInBounds_toArray, List.set_cons_zero, List.set_cons_succ]
          refine wpAnyH_take (i := 7) (oi := ?oi7M45) (v := ?v7M45) ?oi0_7M45 (by kernel_rfl) ?ff7M45 ?rr7M45 ?hq7M45 (Or.inl ⟨?hw7M45, ?hy7M45⟩) (by assumption) ?rest7M45
          case oi0_7M45 => conv => lhs; whnf; arg 1; whnf
          case hq7M45 => exact fun _ _ _ h => h
          case ff7M45 | rr7M45 => kernel_rfl
          case hw7M45 => rfl
          case hy7M45 => intro w hSw; (try dsimp only at hSw); first | (go_simp; done) | (go_simp; with_reducible rfl)
          try simp only [Act.put, List.setIfInBounds_toArray, List.set_cons_zero, List.set_cons_succ]
          refine wpAnyH_take (i := 8) (oi := ?oi8M45) (v := ?v8M45) ?oi0_8M45 (by kernel_rfl) ?ff8M45 ?rr8M45 ?hq8M45 (Or.inl ⟨?hw8M45, ?hy8M45⟩) (by assumption) ?rest8M45
          case oi0_8M45 => conv => lhs; whnf; arg 1; whnf
          case hq8M45 => exact fun _ _ _ h => h
          case ff8M45 | rr8M45 => kernel_rfl
          case hw8M45 => rfl
          case hy8M45 => intro w hSw; (try dsimp only at hSw); first | (go_simp; done) | (go_simp; with_reducible rfl)
          try simp only [Act.put, List.setIfInBounds_toArray, List.set_cons_zero, List.set_cons_succ]
          refine wpAnyH_take (i := 9) (oi := ?oi9M45) (v := ?v9M45) ?oi0_9M45 (by kernel_rfl) ?ff9M45 ?rr9M45 ?hq9M45 (Or.inl ⟨?hw9M45, ?hy9M45⟩) (by assumption) ?rest9M45
          case oi0_9M45 => conv => lhs; whnf; arg 1; whnf
          case hq9M45 => exact fun _ _ _ h => h
          case ff9M45 | rr9M45 => kernel_rfl
          case hw9M45 => rfl
          case hy9M45 => intro w hSw; (try dsimp only at hSw); first | (go_simp; done) | (go_simp; with_reducible rfl)
          try simp only [Act.put, List.setIfInBounds_toArray, List.set_cons_zero, List.set_cons_succ]
          refine wpAnyH_take (i := 10) (oi := ?oi10M45) (v := ?v10M45) ?oi0_10M45 (by kernel_rfl) ?ff10M45 ?rr10M45 ?hq10M45 (Or.inl ⟨?hw10M45, ?hy10M45⟩) (by assumption) ?rest10M45
          case oi0_10M45 => conv => lhs; whnf; arg 1; whnf
          case hq10M45 => exact fun _ _ _ h => h
          case ff10M45 | rr10M45 => kernel_rfl
          case hw10M45 => rfl
          case hy10M45 => intro w hSw; (try dsimp only at hSw); first | (go_simp; done) | (go_simp; with_reducible rfl)
          try simp only [Act.put, List.setIfInBounds_toArray, List.set_cons_zero, List.set_cons_succ]
          refine wpAnyH_take (i := 11) (oi := ?oi11M45) (v := ?v11M45) ?oi0_11M45 (by kernel_rfl) ?ff11M45 ?rr11M45 ?hq11M45 (Or.inl ⟨?hw11M45, ?hy11M45⟩) (by assumption) ?rest11M45
          case oi0_11M45 => conv => lhs; whnf; arg 1; whnf
          case hq11M45 => exact fun _ _ _ h => h
          case ff11M45 | rr11M45 => kernel_rfl
          case hw11M45 => rfl
          case hy11M45 => intro w hSw; (try dsimp only at hSw); first | (go_simp; done) | (go_simp; with_reducible rfl)
          try simp only [Act.put, List.setIfInBounds_toArray, List.set_cons_zero, List.set_cons_succ]
          refine wpAnyH_take (i := 12) (oi := ?oi12M45) (v := ?v12M45) ?oi0_12M45 (by kernel_rfl) ?ff12M45 ?rr12M45 ?hq12M45 (Or.inl ⟨?hw12M45, ?hy12M45⟩) (by assumption) ?rest12M45
          case oi0_12M45 => conv => lhs; whnf; arg 1; whnf
          case hq12M45 => exact fun _ _ _ h => h
          case ff12M45 | rr12M45 => kernel_rfl
          case hw12M45 => rfl
          case hy12M45 => intro w hSw; (try dsimp only at hSw); first | (go_simp; done) | (go_simp; with_reducible rfl)
          try simp only [Act.put, List.setIfInBounds_toArray, List.set_cons_zero, List.set_cons_succ]
          refine wpAnyH_take (i := 13) (oi := ?oi13M45) (v := ?v13M45) ?oi0_13M45 (by kernel_rfl) ?ff13M45 ?rr13M45 ?hq13M45 (Or.inl ⟨?hw13M45, ?hy13M45⟩) (by assumption) ?rest13M45
          case oi0_13M45 => conv => lhs; whnf; arg 1; whnf
          case hq13M45 => exact fun _ _ _ h => h
          case ff13M45 | rr13M45 => kernel_rfl
          case hw13M45 => rfl
          case hy13M45 => intro w hSw; (try dsimp only at hSw); first | (go_simp; done) | (go_simp; with_reducible rfl)
          try simp only [Act.put, List.setIfInBounds_toArray, List.set_cons_zero, List.set_cons_succ]
          refine wpAnyH_take (i := 14) (oi := ?oi14M45) (v := ?v14M45) ?oi0_14M45 (by kernel_rfl) ?ff14M45 ?rr14M45 ?hq14M45 (Or.inl ⟨?hw14M45, ?hy14M45⟩) (by assumption) ?rest14M45
          case oi0_14M45 => conv => lhs; whnf; arg 1; whnf
          case hq14M45 => exact fun _ _ _ h => h
          case ff14M45 | rr14M45 => kernel_rfl
          case hw14M45 => rfl
          case hy14M45 => intro w hSw; (try dsimp only at hSw); first | (go_simp; done) | (go_simp; with_reducible rfl)
          try simp only [Act.put, List.setIfInBounds_toArray, List.set_cons_zero, List.set_cons_succ]
          refine wpAnyH_take (i := 15) (oi := ?oi15M45) (v := ?v15M45) ?oi0_15M45 (by kernel_rfl) ?ff15M45 ?rr15M45 ?hq15M45 (Or.inl ⟨?hw15M45, ?hy15M45⟩) (by assumption) ?rest15M45
          case oi0_15M45 => conv => lhs; whnf; arg 1; whnf
          case hq15M45 => exact fun _ _ _ h => h
          case ff15M45 | rr15M45 => kernel_rfl
          case hw15M45 => rfl
          case hy15M45 => intro w hSw; (try dsimp only at hSw); first | (go_simp; done) | (go_simp; with_reducible rfl)
          try simp only [Act.put, List.setIfInBounds_toArray, List.set_cons_zero, List.set_cons_succ]
          refine wpAnyH_take (i := 16) (oi := ?oi16M45) (v := ?v16M45) ?oi0_16M45 (by kernel_rfl) ?ff16M45 ?rr16M45 ?hq16M45 (Or.inl ⟨?hw16M45, ?hy16M45⟩) (by assumption) ?rest16M45
          case oi0_16M45 => conv => lhs; whnf; arg 1; whnf
          case hq16M45 => exact fun _ _ _ h => h
          case ff16M45 | rr16M45 => kernel_rfl
          case hw16M45 => rfl
          case hy16M45 => intro w hSw; (try dsimp only at hSw); first | (go_simp; done) | (go_simp; with_reducible rfl)
          try simp only [Act.put, List.setIfInBounds_toArray, List.set_cons_zero, List.set_cons_succ]
          refine wpAnyH_take (i := 17) (oi := ?oi17M45) (v := ?v17M45) ?oi0_17M45 (by kernel_rfl) ?ff17M45 ?rr17M45 ?hq17M45 (Or.inl ⟨?hw17M45, ?hy17M45⟩) (by assumption) ?rest17M45
          case oi0_17M45 => conv => lhs; whnf; arg 1; whnf
          case hq17M45 => exact fun _ _ _ h => h
          case ff17M45 | rr17M45 => kernel_rfl
          case hw17M45 => rfl
          case hy17M45 => intro w hSw; (try dsimp only at hSw); first | (go_simp; done) | (go_simp; with_reducible rfl)
          try simp only [Act.put, List.setIfInBounds_toArray, List.set_cons_zero, List.set_cons_succ]
          refine wpAnyH_take (i := 18) (oi := ?oi18M45) (v := ?v18M45) ?oi0_18M45 (by kernel_rfl) ?ff18M45 ?rr18M45 ?hq18M45 (Or.inl ⟨?hw18M45, ?hy18M45⟩) (by assumption) ?rest18M45
          case oi0_18M45 => conv => lhs; whnf; arg 1; whnf
          case hq18M45 => exact fun _ _ _ h => h
          case ff18M45 | rr18M45 => kernel_rfl
          case hw18M45 => rfl
          case hy18M45 => intro w hSw; (try dsimp only at hSw); first | (go_simp; done) | (go_simp; with_reducible rfl)
          try simp only [Act.put, List.setIfInBounds_toArray, List.set_cons_zero, List.set_cons_succ]
          refine wpAnyH_take (i := 19) (oi := ?oi19M45) (v := ?v19M45) ?oi0_19M45 (by kernel_rfl) ?ff19M45 ?rr19M45 ?hq19M45 (Or.inl ⟨?hw19M45, ?hy19M45⟩) (by assumption) ?rest19M45
          case oi0_19M45 => conv => lhs; whnf; arg 1; whnf
          case hq19M45 => exact fun _ _ _ h => h
          case ff19M45 | rr19M45 => kernel_rfl
          case hw19M45 => rfl
          case hy19M45 => intro w hSw; (try dsimp only at hSw); first | (go_simp; done) | (go_simp; with_reducible rfl)
          try simp only [Act.put, List.setIfInBounds_toArray, List.set_cons_zero, List.set_cons_succ]
          refine wpAnyH_take (i := 20) (oi := ?oi20M45) (v := ?v20M45) ?oi0_20M45 (by kernel_rfl) ?ff20M45 ?rr20M45 ?hq20M45 (Or.inl ⟨?hw20M45, ?hy20M45⟩) (by assumption) ?rest20M45
          case oi0_20M45 => conv => lhs; whnf; arg 1; whnf
          case hq20M45 => exact fun _ _ _ h => h
          case ff20M45 | rr20M45 => kernel_rfl
          case hw20M45 => rfl
          case hy20M45 => intro w hSw; (try dsimp only at hSw); first | (go_simp; done) | (go_simp; with_reducible rfl)
          try simp only [Act.put, List.setIfInBounds_toArray, List.set_cons_zero, List.set_cons_succ]
          refine wpAnyH_take (i := 21) (oi := ?oi21M45) (v := ?v21M45) ?oi0_21M45 (by kernel_rfl) ?ff21M45 ?rr21M45 ?hq21M45 (Or.inl ⟨?hw21M45, ?hy21M45⟩) (by assumption) ?rest21M45
          case oi0_21M45 => conv => lhs; whnf; arg 1; whnf
          case hq21M45 => exact fun _ _ _ h => h
          case ff21M45 | rr21M45 => kernel_rfl
          case hw21M45 => rfl
          case hy21M45 => intro w hSw; (try dsimp only at hSw); first | (go_simp; done) | (go_simp; with_reducible rfl)
          try simp only [Act.put, List.setIfInBounds_toArray, List.set_cons_zero, List.set_cons_succ]
          refine wpAnyH_ready (rs := [22]) (by kernel_rfl) (by simp) (AllReadyH.cons (o := ?oiM46) ?oi0_M46 (fun K hK => ?_) AllReadyH.nil)
          case oi0_M46 => conv => lhs; whnf; arg 1; whnf
          go_simp
          obtain ⟨v20, hw⟩ : ∃ x, v19.alloc (.cells #[.int .u32 (IntKind.u32.wrap (tt + uu)), .int .u32 x0, .int .u32 x1, .int .u32 x2, .int .u32 (IntKind.u32.wrap (x3 + tt)), .int .u32 x4, .int .u32 x5, .int .u32 x6] 109) = x := ⟨_, rfl⟩
          have u : Upd [] v19 v20 := by rw [← hw]; exact (Upd.refl [] _).alloc _
          have HNV := hide (show ∀ j v, ([.int .u32 (IntKind.u32.wrap (tt + uu)), .int .u32 x0, .int .u32 x1, .int .u32 x2, .int .u32 (IntKind.u32.wrap (x3 + tt)), .int .u32 x4, .int .u32 x5, .int .u32 x6] : List Value)[j]? = some v → v20.cell? ((⟨v19.heap.size, 0, none⟩ : Addr).add j) = some v by rw [← hw]; exact cells_new v19 [.int .u32 (IntKind.u32.wrap (tt + uu)), .int .u32 x0, .int .u32 x1, .int .u32 x2, .int .u32 (IntKind.u32.wrap (x3 + tt)), .int .u32 x4, .int .u32 x5, .int .u32 x6] 109)
          rw [hw]
          clear hw
          replace HU := hide (HU.out.trans u (by simp))
          replace HCK := hide (keepc _ _ _ _ u HCK.out)
          replace HCX := hide (keepc _ _ _ _ u HCX.out)
          replace HV0 := hide (keepc _ _ _ _ u HV0.out)
          replace HV1 := hide (keepc _ _ _ _ u HV1.out)
          replace HV2 := hide (keepc _ _ _ _ u HV2.out)
          replace HV3 := hide (keepc _ _ _ _ u HV3.out)
          replace HV4 := hide (keepc _ _ _ _ u HV4.out)
          replace HV5 := hide (keepc _ _ _ _ u HV5.out)
          replace HV6 := hide (keepc _ _ _ _ u HV6.out)
          replace HV7 := hide (keepc _ _ _ _ u HV7.out)
          have hS : v20.cell? ⟨vb, 1, none⟩ = some (.int .u32 x1) ∧ v20.cell? ⟨vb, 2, none⟩ = some (.int .u32 x2) ∧ v20.cell? ⟨vb, 3, none⟩ = some (.int .u32 x3) ∧ v20.cell? ⟨vb, 5, none⟩ = some (.int .u32 x5) ∧ v20.cell? ⟨vb, 6, none⟩ = some (.int .u32 x6) := ⟨keepc _ _ _ _ u hHeld.1, keepc _ _ _ _ u hHeld.2.1, keepc _ _ _ _ u hHeld.2.2.1, keepc _ _ _ _ u hHeld.2.2.2.1, keepc _ _ _ _ u hHeld.2.2.2.2⟩
          clear u hHeld
          (try dsimp only)
          refine hK.out _ _ (by exact hS) (fun hHeld => ?_)
          clear hK K
          try simp only [Act.put, List.setIfInBounds_toArray, List.set_cons_zero, List.set_cons_succ]
          clear hS
          skip
          refine wpAnyH_take (i := 23) (oi := ?oi23M47) (v := ?v23M47) ?oi0_23M47 (by kernel_rfl) ?ff23M47 ?rr23M47 ?hq23M47 (Or.inl ⟨?hw23M47, ?hy23M47⟩) (by assumption) ?rest23M47
          case oi0_23M47 => conv => lhs; whnf; arg 1; whnf
          case hq23M47 => exact fun _ _ _ h => h
          case ff23M47 | rr23M47 => kernel_rfl
          case hw23M47 => rfl
          case hy23M47 => intro w hSw; (try dsimp only at hSw); first | (go_simp; done) | (go_simp; with_reducible rfl)
          try simp only [Act.put, List.setIfInBounds_toArray, List.set_cons_zero, List.set_cons_succ]
          refine wpAnyH_done (by kernel_rfl) ?_ _
          go_wp2_with fail
          go_roundw
          case rel =>
            have e : ([.int .u32 (IntKind.u32.wrap (tt + uu)), .int .u32 x0, .int .u32 x1, .int .u32 x2, .int .u32 (IntKind.u32.wrap (x3 + tt)), .int .u32 x4, .int .u32 x5, .int .u32 x6] : List Value) = (turnsTo refK ws s (k + 1)).map (Value.int .u32) := by
              rw [HNX.out, ← HTT.out, ← HUU.out, ← mixS_three, ← mixS_three]
              rfl
            refine ⟨k + 1, v19.heap.size, 8, by omega, rfl, by go_num, hide (fun i x hx => ?_), HU⟩
            have h9 := HNV.out i (.int .u32 x) (by rw [e, List.getElem?_map, hx]; rfl)
            rwa [plain_add rfl, Nat.zero_add] at h9
          case measure => simp [intOf] <;> omega
        obtain rfl : k = 64 := by omega
        have hki : ¬ (((64 : Nat) : Int)) < 64 := by omega
        clear hk hk64
        obtain ⟨vs, hvs⟩ : ∃ x, turnsTo refK ws s 64 = x := ⟨_, rfl⟩
        rw [hvs] at hV
        have HVL := hide (show vs.length = 8 by rw [← hvs]; exact turnsTo_length refK ws s HSL.out 64)
        have HVS := hide hvs
        have HV := hV
        have HU := hide (HU9.out.trans hU.out (by simp))
        clear hvs hV hU HU9 HW9 HK9
        go_wp2_with fail
        go_loopw [17, 18] (fun s17 s18 wr => ∃ (k : Nat) (A : Option Addr) (c5 : Nat), k ≤ 8 ∧ s17 = .slice A k c5 ∧ s18 = .int .i64 k ∧ Hid (wr.ownsRow wo.heap.size 109 1 (.slice A k c5) k (((List.range k).map fun i => IntKind.u32.wrap (wat s i + wat vs i)).map (Value.int .u32))) ∧ Hid (Upd [] wo wr)) (fun _ s _ => 8 - (intOf s).toNat)
        case atStart => exact ⟨0, none, 0, Nat.zero_le _, rfl, rfl, hide (World.ownsRow_nil _ _ _ _), hide (Upd.refl _ _)⟩
        case round =>
          obtain ⟨k, A, c5, hk, rfl, rfl, hO, hUx⟩ := hrel
          obtain ⟨wx, rfl⟩ : ∃ x : World, x = wr := ⟨_, rfl⟩
          by_cases hk8 : k < 8
          case pos =>
            have hki : (k : Int) < 8 := by omega
            have hkw : IntKind.i64.wrap ((k : Int) + 1) = (k : Int) + 1 := Go.IntWalk.i64_in _ (by omega)
            obtain ⟨a, ha⟩ : ∃ x, s[k]? = some x := ⟨_, List.getElem?_eq_getElem (by rw [HSL.out]; exact hk8)⟩
            obtain ⟨b, hb⟩ : ∃ x, vs[k]? = some x := ⟨_, List.getElem?_eq_getElem (by rw [HVL.out]; exact hk8)⟩
            have HA := hide (keepc _ _ _ _ hUx.out (keepc _ _ _ _ HU.out (HHS.out k a ha)))
            have HB := hide (keepc _ _ _ _ hUx.out (HV.out k b hb))
            have HE := hide (show wat s k = a ∧ wat vs k = b from ⟨by unfold wat; rw [ha]; rfl, by unfold wat; rw [hb]; rfl⟩)
            have HA0 := hide (keepc _ _ _ _ HU.out (HHS.out k a ha))
            have HB0 := hide (HV.out k b hb)
            have HO := hO
            have HUx := hUx
            clear hO hUx ha hb
            go_wp2_with fail
            refine wp_region_held_drew (S := (fun w' => w'.cell? ⟨hb, k, none⟩ = some (.int .u32 a) ∧ w'.cell? ⟨vb, k, none⟩ = some (.int .u32 b))) (by kernel_rfl) (by exact ⟨HA.out, HB.out⟩) (fun hHeld => ?_)
            obtain ⟨v21, hwD⟩ : ∃ x, wx.drew = x := ⟨_, rfl⟩
            have u : Upd [] wx v21 := by rw [← hwD]; exact (Upd.refl [] _).drew
            rw [hwD] at hHeld ⊢
            clear hwD
            replace HUx := hide (HUx.out.trans u (by simp))
            replace HO := hide (own_kept HO.out u (by simp))
            replace HA := hide (keepc _ _ _ _ u HA.out)
            replace HB := hide (keepc _ _ _ _ u HB.out)
            clear u
            refine wpAnyH_take (i := 0) (oi := ?oi0M50) (v := ?v0M50) ?oi0_0M50 (by kernel_rfl) ?ff0M50 ?rr0M50 ?hq0M50 (Or.inl ⟨?hw0M50, ?hy0M50⟩) (by assumption) ?rest0M50
            case oi0_0M50 => conv => lhs; whnf; arg 1; whnf
            case hq0M50 => exact fun _ _ _ h => h
            case ff0M50 | rr0M50 => kernel_rfl
            case hw0M50 => rfl
            case hy0M50 => intro w hSw; (try dsimp only at hSw); first | (go_simp; done) | (go_simp; with_reducible rfl)
            try simp only [Act.put, List.setIfInBounds_toArray, List.set_cons_zero, List.set_cons_succ]
            refine wpAnyH_take (i := 1) (oi := ?oi1M50) (v := ?v1M50) ?oi0_1M50 (by kernel_rfl) ?ff1M50 ?rr1M50 ?hq1M50 (Or.inl ⟨?hw1M50, ?hy1M50⟩) (by assumption) ?rest1M50
            case oi0_1M50 => conv => lhs; whnf; arg 1; whnf
            case hq1M50 => exact fun _ _ _ h => h
            case ff1M50 | rr1M50 => kernel_rfl
            case hw1M50 => rfl
            case hy1M50 => intro w hSw; (try dsimp only at hSw); first | (go_simp; done) | (go_simp; with_reducible rfl)
            try simp only [Act.put, List.setIfInBounds_toArray, List.set_cons_zero, List.set_cons_succ]
            refine wpAnyH_take (i := 2) (oi := ?oi2M50) (v := ?v2M50) ?oi0_2M50 (by kernel_rfl) ?ff2M50 ?rr2M50 ?hq2M50 (Or.inl ⟨?hw2M50, ?hy2M50⟩) (by assumption) ?rest2M50
            case oi0_2M50 => conv => lhs; whnf; arg 1; whnf
            case hq2M50 => exact fun _ _ _ h => h
            case ff2M50 | rr2M50 => kernel_rfl
            case hw2M50 => rfl
            case hy2M50 => intro w hSw; (try dsimp only at hSw); first | (go_simp; done) | (go_simp; with_reducible rfl)
            try simp only [Act.put, List.setIfInBounds_toArray, List.set_cons_zero, List.set_cons_succ]
            refine wpAnyH_take (i := 3) (oi := ?oi3M50) (v := ?v3M50) ?oi0_3M50 (by kernel_rfl) ?ff3M50 ?rr3M50 ?hq3M50 (Or.inl ⟨?hw3M50, ?hy3M50⟩) (by assumption) ?rest3M50
            case oi0_3M50 => conv => lhs; whnf; arg 1; whnf
            case hq3M50 => exact fun _ _ _ h => h
            case ff3M50 | rr3M50 => kernel_rfl
            case hw3M50 => rfl
            case hy3M50 => intro w hSw; (try dsimp only at hSw); first | (go_simp; done) | (go_simp; with_reducible rfl)
            try simp only [Act.put, List.setIfInBounds_toArray, List.set_cons_zero, List.set_cons_succ]
            refine wpAnyH_take (i := 4) (oi := ?oi4M50) (v := ?v4M50) ?oi0_4M50 (by kernel_rfl) ?ff4M50 ?rr4M50 ?hq4M50 (Or.inl ⟨?hw4M50, ?hy4M50⟩) (by assumption) ?rest4M50
            case oi0_4M50 => conv => lhs; whnf; arg 1; whnf
            case hq4M50 => exact fun _ _ _ h => h
            case ff4M50 | rr4M50 => kernel_rfl
            case hw4M50 => rfl
            case hy4M50 => intro w hSw; (try dsimp only at hSw); first | (go_simp; done) | (go_simp; with_reducible rfl)
            try simp only [Act.put, List.setIfInBounds_toArray, List.set_cons_zero, List.set_cons_succ]
            refine wpAnyH_take (i := 5) (oi := ?oi5M50) (v := ?v5M50) ?oi0_5M50 (by kernel_rfl) ?ff5M50 ?rr5M50 ?hq5M50 (Or.inl ⟨?hw5M50, ?hy5M50⟩) (by assumption) ?rest5M50
            case oi0_5M50 => conv => lhs; whnf; arg 1; whnf
            case hq5M50 => exact fun _ _ _ h => h
            case ff5M50 | rr5M50 => kernel_rfl
            case hw5M50 => rfl
            case hy5M50 => intro w hSw; (try dsimp only at hSw); first | (go_simp; done) | (go_simp; with_reducible rfl)
            try simp only [Act.put, List.setIfInBounds_toArray, List.set_cons_zero, List.set_cons_succ]
            refine wpAnyH_take (i := 6) (oi := ?oi6M50) (v := ?v6M50) ?oi0_6M50 (by kernel_rfl) ?ff6M50 ?rr6M50 ?hq6M50 (Or.inl ⟨?hw6M50, ?hy6M50⟩) (by assumption) ?rest6M50
            case oi0_6M50 => conv => lhs; whnf; arg 1; whnf
            case hq6M50 => exact fun _ _ _ h => h
            case ff6M50 | rr6M50 => kernel_rfl
            case hw6M50 => rfl
            case hy6M50 => intro w hSw; (try dsimp only at hSw); first | (go_simp; done) | (go_simp; with_reducible rfl)
            try simp only [Act.put, List.setIfInBounds_toArray, List.set_cons_zero, List.set_cons_succ]
            refine wpAnyH_take (i := 7) (oi := ?oi7M50) (v := ?v7M50) ?oi0_7M50 (by kernel_rfl) ?ff7M50 ?rr7M50 ?hq7M50 (Or.inl ⟨?hw7M50, ?hy7M50⟩) (by assumption) ?rest7M50
            case oi0_7M50 => conv => lhs; whnf; arg 1; whnf
            case hq7M50 => exact fun _ _ _ h => h
            case ff7M50 | rr7M50 => kernel_rfl
            case hw7M50 => rfl
            case hy7M50 => intro w hSw; (try dsimp only at hSw); first | (go_simp; done) | (go_simp; with_reducible rfl)
            try simp only [Act.put, List.setIfInBounds_toArray, List.set_cons_zero, List.set_cons_succ]
            refine wpAnyH_take (i := 8) (oi := ?oi8M50) (v := ?v8M50) ?oi0_8M50 (by kernel_rfl) ?ff8M50 ?rr8M50 ?hq8M50 (Or.inl ⟨?hw8M50, ?hy8M50⟩) (by assumption) ?rest8M50
            case oi0_8M50 => conv => lhs; whnf; arg 1; whnf
            case hq8M50 => exact fun _ _ _ h => h
            case ff8M50 | rr8M50 => kernel_rfl
            case hw8M50 => rfl
            case hy8M50 => intro w hSw; (try dsimp only at hSw); first | (go_simp; done) | (go_simp; with_reducible rfl)
            try simp only [Act.put, List.setIfInBounds_toArray, List.set_cons_zero, List.set_cons_succ]
            refine wpAnyH_take (i := 9) (oi := ?oi9M50) (v := ?v9M50) ?oi0_9M50 (by kernel_rfl) ?ff9M50 ?rr9M50 ?hq9M50 (Or.inl ⟨?hw9M50, ?hy9M50⟩) (by assumption) ?rest9M50
            case oi0_9M50 => conv => lhs; whnf; arg 1; whnf
            case hq9M50 => exact fun _ _ _ h => h
            case ff9M50 | rr9M50 => kernel_rfl
            case hw9M50 => rfl
            case hy9M50 => intro w hSw; (try dsimp only at hSw); first | (go_simp; done) | (go_simp; with_reducible rfl)
            try simp only [Act.put, List.setIfInBounds_toArray, List.set_cons_zero, List.set_cons_succ]
            refine wpAnyH_ready (rs := [10]) (by kernel_rfl) (by simp) (AllReadyH.cons (o := ?oiM51) ?oi0_M51 (fun K hK => ?_) AllReadyH.nil)
            case oi0_M51 => conv => lhs; whnf; arg 1; whnf
            go_simp
            obtain ⟨v22, hw⟩ : ∃ x, v21.alloc (.cells #[.int .u32 (IntKind.u32.wrap (a + b))] 109) = x := ⟨_, rfl⟩
            have u : Upd [] v21 v22 := by rw [← hw]; exact (Upd.refl [] _).alloc _
            have HNW := hide (show ∀ j v, ([.int .u32 (IntKind.u32.wrap (a + b))] : List Value)[j]? = some v → v22.cell? ((⟨v21.heap.size, 0, none⟩ : Addr).add j) = some v by rw [← hw]; exact cells_new v21 [.int .u32 (IntKind.u32.wrap (a + b))] 109)
            rw [hw]
            clear hw
            replace HUx := hide (HUx.out.trans u (by simp))
            replace HO := hide (own_kept HO.out u (by simp))
            replace HA := hide (keepc _ _ _ _ u HA.out)
            replace HB := hide (keepc _ _ _ _ u HB.out)
            have hS : v22.cell? ⟨hb, k, none⟩ = some (.int .u32 a) ∧ v22.cell? ⟨vb, k, none⟩ = some (.int .u32 b) := ⟨keepc _ _ _ _ u hHeld.1, keepc _ _ _ _ u hHeld.2⟩
            clear u hHeld
            (try dsimp only)
            refine hK.out _ _ (by exact hS) (fun hHeld => ?_)
            clear hK K
            try simp only [Act.put, List.setIfInBounds_toArray, List.set_cons_zero, List.set_cons_succ]
            clear hS
            refine wpAnyH_ready (rs := [11]) (by kernel_rfl) (by simp) (AllReadyH.cons (o := ?oiM52) ?oi0_M52 (fun K hK => ?_) AllReadyH.nil)
            case oi0_M52 => conv => lhs; whnf; arg 1; whnf
            refine step_append_keep rfl (.tmp 225) (.tmp 235) _ rfl wo.heap.size 109 (.int .u32 0) 4 Tryz.underlying110 info_u32 rfl A k c5 _ rfl HO.out ⟨v21.heap.size, 0, none⟩ 1 1 [.int .u32 (IntKind.u32.wrap (a + b))] rfl rfl HNW.out (by simp [Value.oneCell']) (by unfold maxLen; omega) (by omega) HUx.out.size ?_
            intro A6 c6 w6 h6 u hk6
            have HO6 := hide h6
            have hU6 := HUx.out.trans u (fun x hx => .inr (it_own_block HO.out x (by rw [ownBlock_slice]; first | (simpa using hx) | (simp at hx; rw [hx]; rfl))))
            clear hHeld u hk6 h6
            have hS : w6.cell? ⟨hb, k, none⟩ = some (.int .u32 a) ∧ w6.cell? ⟨vb, k, none⟩ = some (.int .u32 b) := ⟨keepc _ _ _ _ hU6 HA0.out, keepc _ _ _ _ hU6 HB0.out⟩
            have HU6 := hide hU6
            clear hU6
            (try dsimp only)
            refine hK.out _ _ (by exact hS) (fun hHeld => ?_)
            clear hK K
            try simp only [Act.put, List.setIfInBounds_toArray, List.set_cons_zero, List.set_cons_succ]
            clear hS
            refine wpAnyH_take (i := 12) (oi := ?oi12M53) (v := ?v12M53) ?oi0_12M53 (by kernel_rfl) ?ff12M53 ?rr12M53 ?hq12M53 (Or.inl ⟨?hw12M53, ?hy12M53⟩) (by assumption) ?rest12M53
            case oi0_12M53 => conv => lhs; whnf; arg 1; whnf
            case hq12M53 => exact fun _ _ _ h => h
            case ff12M53 | rr12M53 => kernel_rfl
            case hw12M53 => rfl
            case hy12M53 => intro w hSw; (try dsimp only at hSw); first | (go_simp; done) | (go_simp; with_reducible rfl)
            try simp only [Act.put, List.setIfInBounds_toArray, List.set_cons_zero, List.set_cons_succ]
            refine wpAnyH_done (by kernel_rfl) ?_ _
            go_wp2_with fail
            go_roundw
            case rel => exact ⟨k + 1, A6, c6, by omega, rfl, by go_num, hide (by rw [List.range_succ, List.map_append, List.map_append, List.map_singleton, HE.out.1, HE.out.2]; exact HO6.out), HU6⟩
            case measure => simp [intOf] <;> omega
          obtain rfl : k = 8 := by omega
          have hki : ¬ (((8 : Nat) : Int)) < 8 := by omega
          obtain ⟨ob, rfl⟩ := own_some hO.out (by omega)
          go_wp2_with fail
          go_ret
          refine ⟨ob, ⟨c5, rfl⟩, ?_, HU.out.trans hUx.out (by simp)⟩
          have h9 := WordsAt.own hO.out
          rw [← HVS.out, ← HWS.out] at h9
          exact h9
end Go.Proofs.YtafjolibfbccbaaGreatDoor

namespace Go.Proofs.YtafjolibfbccbaaGreatDoor
open Go.RowKit
set_option maxRecDepth 100000
set_option maxHeartbeats 40000000

theorem own_capB {w : World} {base e size n c : Nat} {A : Option Addr} {xs : List Value} (h : w.ownsRow base e size (.slice A n c) n xs) : n ≤ c := by
  rcases h.2 with ⟨hv, h0⟩ | ⟨g, cap, cur, hv, _, _, h1, _⟩
  · omega
  · cases hv; exact h1
theorem own_maxB {w : World} {base e size n c : Nat} {A : Option Addr} {xs : List Value} (h : w.ownsRow base e size (.slice A n c) n xs) : c ≤ maxLen := by
  rcases h.2 with ⟨hv, h0⟩ | ⟨g, cap, cur, hv, _, _, _, h1, _⟩
  · cases hv; exact Nat.zero_le _
  · cases hv; exact h1
theorem own_conv {W : World} {base g n c : Nat} {l : List UInt8} (hrow : W.ownsRow base 5 1 (.slice (some ⟨g, 0, none⟩) n c) n (bCells l)) :
    (convert 39 9 (.slice (some ⟨g, 0, none⟩) n c)).run Tryz.prog W = .ok (.string ⟨l.toArray⟩) W := by
  obtain ⟨bs, hbs⟩ : ∃ bs, ByteArray.mk l.toArray = bs := ⟨_, rfl⟩
  have hn : l.length = n := by have := hrow.1; rw [bCells_length, Nat.mul_one] at this; exact this
  have hsz : bs.size = n := by rw [← hbs]; simp [ByteArray.size]; exact hn
  have hby : Lib.Bytes W g 0 bs := fun i hi => by
    have hil : i < l.length := by omega
    have h2 := World.ownsRow.cells hrow (g := g) rfl i (bCell l[i]) (by unfold bCells; rw [List.getElem?_map, List.getElem?_eq_getElem hil]; rfl)
    rw [plain_add rfl, Nat.zero_add] at h2
    rw [Nat.zero_add, h2]
    subst hbs
    rfl
  have hconv := Lib.run_convert_whole (P := Tryz.prog) W 39 5 9 Tryz.underlying39 Tryz.underlying5 Tryz.underlying9 g 0 bs hby c
  rw [hsz] at hconv
  rw [hconv, hbs]
theorem dig_cell (st : List Int) (j : Nat) (h : j < 32) : ∃ b, (digS st)[j]? = some b ∧ bCell b = .int .u8 (dByte st j) := by
  refine ⟨UInt8.ofNat (dByte st j).toNat, by unfold digS; rw [List.getElem?_map, List.getElem?_range h]; rfl, ?_⟩
  have h9 := dByte_in st j
  unfold bCell
  rw [UInt8.toNat_ofNat']
  congr 1
  omega
theorem dig_next (st : List Int) (k : Nat) (x : Int) (h : k < 8) (hx : wat st k = x) : bCells ((digS st).take (4 * k + 4)) = bCells ((digS st).take (4 * k)) ++ [.int .u8 (IntKind.u8.wrap (x / 16777216)), .int .u8 (IntKind.u8.wrap (x / 65536)), .int .u8 (IntKind.u8.wrap (x / 256)), .int .u8 (IntKind.u8.wrap x)] := by
  obtain ⟨b0, e0, f0⟩ := dig_cell st (4 * k) (by omega)
  obtain ⟨b1, e1, f1⟩ := dig_cell st (4 * k + 1) (by omega)
  obtain ⟨b2, e2, f2⟩ := dig_cell st (4 * k + 2) (by omega)
  obtain ⟨b3, e3, f3⟩ := dig_cell st (4 * k + 3) (by omega)
  unfold dByte at f0 f1 f2 f3
  rw [show 4 * k / 4 = k by omega, show 4 * k % 4 = 0 by omega, hx, show (2 : Int) ^ (24 - 8 * 0) = 16777216 by decide] at f0
  rw [show (4 * k + 1) / 4 = k by omega, show (4 * k + 1) % 4 = 1 by omega, hx, show (2 : Int) ^ (24 - 8 * 1) = 65536 by decide] at f1
  rw [show (4 * k + 2) / 4 = k by omega, show (4 * k + 2) % 4 = 2 by omega, hx, show (2 : Int) ^ (24 - 8 * 2) = 256 by decide] at f2
  rw [show (4 * k + 3) / 4 = k by omega, show (4 * k + 3) % 4 = 3 by omega, hx, show (2 : Int) ^ (24 - 8 * 3) = 1 by decide, Int.ediv_one] at f3
  rw [show 4 * k + 4 = 4 * k + 1 + 1 + 1 + 1 by omega, List.take_add_one, List.take_add_one, List.take_add_one, List.take_add_one, e0, show 4 * k + 1 + 1 = 4 * k + 2 by omega, e1, e2, show 4 * k + 2 + 1 = 4 * k + 3 by omega, e3]
  simp only [Option.toList_some, bCells_append, List.append_assoc]
  rw [show bCells [b0] = [bCell b0] from rfl, show bCells [b1] = [bCell b1] from rfl, show bCells [b2] = [bCell b2] from rfl, show bCells [b3] = [bCell b3] from rfl, f0, f1, f2, f3]
  rfl
theorem extended_any (s : ByteArray) (w : World) (hs : s.size ≤ 1000000000) :
    Calls Tryz.prog 58 #[.string s] w fun e w' => ∃ A c, e = .returned (.slice A (padS s.data.toList).length c) ∧ w'.ownsRow w.heap.size 5 1 (.slice A (padS s.data.toList).length c) (padS s.data.toList).length (bCells (padS s.data.toList)) ∧ Upd [] w w' := by
  obtain ⟨bs, hbs⟩ : ∃ bs, s.data.toList = bs := ⟨_, rfl⟩
  obtain ⟨m, hm⟩ : ∃ m, s.size = m := ⟨_, rfl⟩
  have hbl : bs.length = m := by rw [← hbs, ← hm]; exact Lib.size_eq s ▸ rfl
  have hm9 : m ≤ 1000000000 := by omega
  rw [hbs]
  have HBS := hide hbs
  have HM := hide hm
  have HBL := hide hbl
  clear hbs hbl hs
  go_enter Tryz.func58, Tryz.ntmps58
  go_wp2_with fail
  go_loopw [3, 4] (fun s3 s4 wr => ∃ (k : Nat) (A : Option Addr) (c : Nat), k ≤ m ∧ s3 = .slice A k c ∧ s4 = .int .i64 k ∧ Hid (wr.ownsRow w.heap.size 5 1 (.slice A k c) k (bCells (bs.take k))) ∧ Hid (Upd [] w wr)) (fun _ s _ => m - (intOf s).toNat)
  case atStart => exact ⟨0, none, 0, Nat.zero_le _, rfl, rfl, hide (World.ownsRow_nil _ _ _ _), hide (Upd.refl _ _)⟩
  case round =>
    obtain ⟨k, A, c, hk, rfl, rfl, hO, hU⟩ := hrel
    obtain ⟨wo, rfl⟩ : ∃ x : World, x = wr := ⟨_, rfl⟩
    by_cases hkm : k < m
    case pos =>
      have hki : (k : Int) < m := by omega
      have hkw : IntKind.i64.wrap ((k : Int) + 1) = (k : Int) + 1 := Go.IntWalk.i64_in _ (by omega)
      obtain ⟨x, hx⟩ : ∃ x, bs[k]? = some x := ⟨_, List.getElem?_eq_getElem (by have := HBL.out; omega)⟩
      have hix := fun W => index_str (P := Tryz.prog) W Tryz.underlying9 s HBS.out k x hx
      obtain ⟨y, hy⟩ : ∃ y : Nat, x.toNat = y := ⟨_, rfl⟩
      rw [hy] at hix
      have HE := hide (show bCells (bs.take (k + 1)) = bCells (bs.take k) ++ [.int .u8 (y : Int)] by rw [List.take_add_one, hx, Option.toList_some, bCells_append, ← hy]; rfl)
      clear hx hy
      have O1 := hide (show ∀ u ∈ [Value.int .u8 (y : Int)], u.oneCell' = true by simp [Value.oneCell'])
      have O3 := hide (show k + 1 ≤ maxLen by unfold maxLen; omega)
      have O4 := hide (show (k + 1) * 1 ≤ 140737488355328 by omega)
      have OB := hide (hO.out.alloc (.cells #[.int .u8 (y : Int)] 5))
      have OS := hide (show w.heap.size ≤ (wo.alloc (.cells #[.int .u8 (y : Int)] 5)).heap.size by have := hU.out.size; rw [World.size_alloc]; omega)
      go_wp2_with (at_builtin; refine wpList_append_base rfl (.tmp 12) (.tmp 16) _ rfl w.heap.size 5 _ 1 1 Tryz.underlying39 it_info_byte rfl (by decide) A k c _ rfl OB.out ⟨wo.heap.size, 0, none⟩ 1 1 [.int .u8 (y : Int)] rfl rfl (cell_one_new _ _ _) O1.out O3.out O4.out OS.out ?_; intro A5 c5 w5 h5 u5 _; have H5 := hide h5; have V5 := hide ((hU.out.alloc _).trans u5 (fun z hz => .inr (it_own_block hO.out z (by rw [ownBlock_slice]; simpa using hz)))); clear h5 u5)
      go_roundw
      case rel => exact ⟨k + 1, A5, c5, by omega, rfl, by go_num, hide (by rw [HE.out]; exact H5.out), V5⟩
      case measure => simp [intOf] <;> omega
    obtain rfl : k = m := by omega
    have hki : ¬ (k : Int) < k := by omega
    have HO := hide (show (wo.ownsRow w.heap.size 5 1 (.slice A k c) k (bCells (bs))) from by have h9 := hO.out; rw [List.take_of_length_le (by rw [HBL.out]; exact Nat.le_refl _)] at h9; exact h9)
    clear hO hk hkm
    have O1 := hide (show ∀ u ∈ [Value.int .u8 128], u.oneCell' = true by simp [Value.oneCell'])
    have O3 := hide (show k + 1 ≤ maxLen by unfold maxLen; omega)
    have O4 := hide (show (k + 1) * 1 ≤ 140737488355328 by omega)
    have OB := hide (HO.out.alloc (.cells #[.int .u8 128] 5))
    have OS := hide (show w.heap.size ≤ (wo.alloc (.cells #[.int .u8 128] 5)).heap.size by have := hU.out.size; rw [World.size_alloc]; omega)
    go_wp2_with (at_builtin; refine wpList_append_base rfl (.tmp 18) (.tmp 19) _ rfl w.heap.size 5 _ 1 1 Tryz.underlying39 it_info_byte rfl (by decide) A k c _ rfl OB.out ⟨wo.heap.size, 0, none⟩ 1 1 [.int .u8 128] rfl rfl (cell_one_new _ _ _) O1.out O3.out O4.out OS.out ?_; intro A5 c5 w5 h5 u5 _; have H5 := hide h5; have V5 := hide ((hU.out.alloc _).trans u5 (fun z hz => .inr (it_own_block HO.out z (by rw [ownBlock_slice]; simpa using hz)))); clear h5 u5)
    have HO6 := hide (show (w5.ownsRow w.heap.size 5 1 (.slice A5 (k + 1) c5) (k + 1) (bCells (bs ++ (128 :: List.replicate 0 0)))) by
      have h9 := H5.out
      rw [show bCells bs ++ [Value.int .u8 128] = bCells (bs ++ (128 :: List.replicate 0 0)) by rw [bCells_append]; rfl] at h9
      exact h9)
    have V6 := V5
    clear H5 V5 O1 O3 O4 OB OS HO hU
    obtain ⟨z, hz⟩ : ∃ z, padN k = z := ⟨_, rfl⟩
    have hzb : z < 64 := by rw [← hz]; unfold padN; omega
    have HZM := hide (show (k + 1 + z) % 64 = 56 by rw [← hz]; unfold padN; omega)
    have HZL := hide (show ∀ j, j < z → (k + 1 + j) % 64 ≠ 56 by intro j hj; rw [← hz] at hj; unfold padN at hj; omega)
    have HZZ := hide (show padN k = z from hz)
    clear hz
    go_loopw [3] (fun s3 wr => ∃ (j : Nat) (A : Option Addr) (c : Nat), j ≤ z ∧ s3 = .slice A (k + 1 + j) c ∧ Hid (wr.ownsRow w.heap.size 5 1 (.slice A (k + 1 + j) c) (k + 1 + j) (bCells (bs ++ (128 :: List.replicate j 0)))) ∧ Hid (Upd [] w wr)) (fun s _ => k + 1 + z - sliceLen s)
    case atStart => exact ⟨0, A5, c5, Nat.zero_le _, rfl, HO6, V6⟩
    case round =>
      clear HO6 V6
      obtain ⟨j, A, c, hj, rfl, hO, hU⟩ := hrel
      obtain ⟨wo, rfl⟩ : ∃ x : World, x = wr := ⟨_, rfl⟩
      obtain ⟨nn, hnn⟩ : ∃ x, k + 1 + j = x := ⟨_, rfl⟩
      rw [hnn] at hO ⊢
      have htm : ((nn : Int)).tmod 64 = ((nn % 64 : Nat) : Int) := by rw [Int.tmod_eq_emod_of_nonneg (by omega)]; omega
      by_cases hjz : j < z
      case pos =>
        have hne : (((nn : Int) % 64) != 56) = true := by
          have h1 := HZL.out j hjz
          rw [hnn] at h1
          simp; omega
        have hne2 : (((nn % 64 : Nat) : Int) != 56) = true := by
          have h1 := HZL.out j hjz
          rw [hnn] at h1
          simp; omega
        have hnb : nn ≤ 1000000100 := by omega
        have HNN := hide hnn
        clear hnn
        have O1 := hide (show ∀ u ∈ [Value.int .u8 0], u.oneCell' = true by simp [Value.oneCell'])
        have O3 := hide (show nn + 1 ≤ maxLen by unfold maxLen; omega)
        have O4 := hide (show (nn + 1) * 1 ≤ 140737488355328 by omega)
        have OB := hide (hO.out.alloc (.cells #[.int .u8 0] 5))
        have OS := hide (show w.heap.size ≤ (wo.alloc (.cells #[.int .u8 0] 5)).heap.size by have := hU.out.size; rw [World.size_alloc]; omega)
        go_wp2_with (at_builtin; refine wpList_append_base rfl (.tmp 25) (.tmp 26) _ rfl w.heap.size 5 _ 1 1 Tryz.underlying39 it_info_byte rfl (by decide) A nn c _ rfl OB.out ⟨wo.heap.size, 0, none⟩ 1 1 [.int .u8 0] rfl rfl (cell_one_new _ _ _) O1.out O3.out O4.out OS.out ?_; intro A5 c5 w5 h5 u5 _; have H5 := hide h5; have V5 := hide ((hU.out.alloc _).trans u5 (fun z hz => .inr (it_own_block hO.out z (by rw [ownBlock_slice]; simpa using hz)))); clear h5 u5)
        go_roundw
        case rel => exact ⟨j + 1, A5, c5, by omega, by rw [show k + 1 + (j + 1) = nn + 1 by have := HNN.out; omega], hide (by
          rw [show k + 1 + (j + 1) = nn + 1 by have := HNN.out; omega]
          have h9 := H5.out
          rw [show ([Value.int .u8 0] : List Value) = bCells [0] from rfl, ← bCells_append, show bs ++ (128 :: List.replicate j 0) ++ [0] = bs ++ (128 :: List.replicate (j + 1) 0) by rw [List.replicate_succ']; simp] at h9
          exact h9), V5⟩
        case measure => have := HNN.out; simp [sliceLen] <;> omega
      obtain rfl : j = z := by omega
      have hne : (((nn : Int) % 64) != 56) = false := by
        have h1 := HZM.out
        rw [hnn] at h1
        simp; omega
      have hne2 : (((nn % 64 : Nat) : Int) != 56) = false := by
        have h1 := HZM.out
        rw [hnn] at h1
        simp; omega
      obtain ⟨B0, hB0⟩ : ∃ x, bs ++ (128 :: List.replicate j 0) = x := ⟨_, rfl⟩
      rw [hB0] at hO
      have hnb : nn ≤ 1000000100 := by omega
      have HB0L := hide (show B0.length = nn by rw [← hB0, ← hnn]; simp; have := HBL.out; omega)
      have HB0 := hide hB0
      have HO := hO
      have HU := hU
      clear hB0 hnn hO hU hjz hj HZM HZL
      go_wp2_with fail
      clear hne hne2 htm
      go_loopw [3, 5] (fun s3 s5 wr => ∃ (i : Nat) (A : Option Addr) (c : Nat), i ≤ 8 ∧ s3 = .slice A (nn + i) c ∧ s5 = .int .i64 (7 - (i : Int)) ∧ Hid (wr.ownsRow w.heap.size 5 1 (.slice A (nn + i) c) (nn + i) (bCells (B0 ++ (lenB k).take i))) ∧ Hid (Upd [] w wr)) (fun _ s _ => (intOf s + 1).toNat)
      case atStart => exact ⟨0, A, c, Nat.zero_le _, rfl, rfl, hide (by rw [List.take_zero, List.append_nil]; exact HO.out), HU⟩
      case round =>
        clear HO HU
        obtain ⟨i, A, c, hi, rfl, rfl, hO, hU⟩ := hrel
        obtain ⟨wo, rfl⟩ : ∃ x : World, x = wr := ⟨_, rfl⟩
        obtain ⟨nj, hnj⟩ : ∃ x, nn + i = x := ⟨_, rfl⟩
        rw [hnj] at hO ⊢
        by_cases hi8 : i < 8
        case pos =>
          obtain ⟨q, hq⟩ : ∃ q, 7 - i = q := ⟨_, rfl⟩
          rw [show (7 - (i : Int)) = (q : Int) by omega]
          have hqg : (0 : Int) ≤ (q : Int) := by omega
          obtain ⟨M8, hM8⟩ : ∃ x, 8 * k = x := ⟨_, rfl⟩
          obtain ⟨q8, hq8⟩ : ∃ x, 8 * q = x := ⟨_, rfl⟩
          have e1 : IntKind.i64.wrap (8 * (k : Int)) = (M8 : Int) := by rw [Go.IntWalk.i64_in _ (by omega)]; omega
          have e2 : IntKind.i64.wrap (8 * (q : Int)) = (q8 : Int) := by rw [Go.IntWalk.i64_in _ (by omega)]; omega
          have hq64 : q8 < 64 := by omega
          have hqi : (q8 : Int) < 64 := by omega
          have eq1 : IntKind.i64.wrap ((q : Int) - 1) = (q : Int) - 1 := Go.IntWalk.i64_in _ (by omega)
          have HV := hide (show (Value.int .u8 ((M8 : Int) / 2 ^ q8 % 256)) = bCell (UInt8.ofNat (8 * k / 2 ^ (8 * (7 - i)))) by
            rw [hq, hq8, hM8]
            show _ = Value.int .u8 ((UInt8.ofNat (M8 / 2 ^ q8)).toNat : Int)
            rw [UInt8.toNat_ofNat']
            norm_cast)
          have hnb2 : nj ≤ 1000000200 := by omega
          have HNJ := hide hnj
          have HQ := hide hq
          clear hnj hq hM8 hq8
          have O1 := hide (show ∀ u ∈ [Value.int .u8 ((M8 : Int) / 2 ^ q8 % 256)], u.oneCell' = true by simp [Value.oneCell'])
          have O3 := hide (show nj + 1 ≤ maxLen by unfold maxLen; omega)
          have O4 := hide (show (nj + 1) * 1 ≤ 140737488355328 by omega)
          have OB := hide (hO.out.alloc (.cells #[.int .u8 ((M8 : Int) / 2 ^ q8 % 256)] 5))
          have OS := hide (show w.heap.size ≤ (wo.alloc (.cells #[.int .u8 ((M8 : Int) / 2 ^ q8 % 256)] 5)).heap.size by have := hU.out.size; rw [World.size_alloc]; omega)
          go_wp2_with (at_builtin; refine wpList_append_base rfl (.tmp 32) (.tmp 40) _ rfl w.heap.size 5 _ 1 1 Tryz.underlying39 it_info_byte rfl (by decide) A nj c _ rfl OB.out ⟨wo.heap.size, 0, none⟩ 1 1 [.int .u8 ((M8 : Int) / 2 ^ q8 % 256)] rfl rfl (cell_one_new _ _ _) O1.out O3.out O4.out OS.out ?_; intro A5 c5 w5 h5 u5 _; have H5 := hide h5; have V5 := hide ((hU.out.alloc _).trans u5 (fun z hz => .inr (it_own_block hO.out z (by rw [ownBlock_slice]; simpa using hz)))); clear h5 u5)
          go_roundw
          case rel => exact ⟨i + 1, A5, c5, by omega, by rw [show nn + (i + 1) = nj + 1 by have := HNJ.out; omega], by rw [show (7 - ((i + 1 : Nat) : Int)) = (q : Int) - 1 by have := HQ.out; omega], hide (by
            rw [show nn + (i + 1) = nj + 1 by have := HNJ.out; omega, lenB_next k i hi8, ← List.append_assoc, bCells_append, show bCells [UInt8.ofNat (8 * k / 2 ^ (8 * (7 - i)))] = [bCell (UInt8.ofNat (8 * k / 2 ^ (8 * (7 - i))))] from rfl, ← HV.out]
            exact H5.out), V5⟩
          case measure => have := HQ.out; simp [intOf] <;> omega
        obtain rfl : i = 8 := by omega
        rw [show (7 - ((8 : Nat) : Int)) = -1 by omega]
        have HP := hide (show B0 ++ (lenB k).take 8 = padS bs by rw [List.take_of_length_le (by simp [lenB]), ← HB0.out]; unfold padS; rw [HBL.out, HZZ.out]; simp)
        have HPL := hide (show (padS bs).length = nj by rw [← HP.out, ← hnj, List.length_append, HB0L.out]; simp [lenB])
        go_wp2_with fail
        rw [HP.out] at hO
        go_ret
        rw [HPL.out]
        exact ⟨A, c, rfl, hO.out, hU.out⟩
theorem refSum (s : ByteArray) (w : World) (hs : s.size ≤ 1000000000) :
    Calls Tryz.prog 28 #[.string s] w fun e w' => e = .returned (.string ⟨(sumS refK s.data.toList).toArray⟩) ∧ Upd [] w w' := by
  have HX := hide (fun W => extended_any s W hs)
  obtain ⟨pb, hpb⟩ : ∃ x, padS s.data.toList = x := ⟨_, rfl⟩
  have hbl := padS_blocks s.data.toList
  have hpl0 := padS_length s.data.toList
  have hsz : s.data.toList.length = s.size := Lib.size_eq s ▸ rfl
  have hpd : padN s.data.toList.length < 64 := by unfold padN; omega
  rw [hpb] at HX hbl hpl0
  obtain ⟨nb, hnb⟩ : ∃ x, pb.length / 64 = x := ⟨_, rfl⟩
  rw [hnb] at hbl
  obtain ⟨pl, hpl⟩ : ∃ x, pb.length = x := ⟨_, rfl⟩
  rw [hpl] at HX hbl hpl0
  have hplb : pl ≤ 1000000100 := by omega
  have hpl9 : 0 < pl := by omega
  have HSUM := hide (show sumS refK s.data.toList = digS (stateS refK pb (List.range nb)) by unfold sumS; rw [hpb, hnb])
  have HPL := hide hpl
  have HPB := hide hbl
  clear hpb hnb hpl hpl0 hsz hpd hbl hs
  rw [HSUM.out]
  go_enter Tryz.func28, Tryz.ntmps28
  go_wp2_with fail
  obtain ⟨w1, hw⟩ : ∃ x, w.alloc (.cells #[.int .u32 1779033703, .int .u32 3144134277, .int .u32 1013904242, .int .u32 2773480762, .int .u32 1359893119, .int .u32 2600822924, .int .u32 528734635, .int .u32 1541459225] 109) = x := ⟨_, rfl⟩
  have HH1 := hide (show WordsAt w1 w.heap.size h0S by rw [← hw]; exact WordsAt.blk (t := 109) (Blk.new w _ _))
  have U1 := hide (show Upd [] w w1 by rw [← hw]; exact (Upd.refl [] _).alloc _)
  rw [hw]
  clear hw
  refine (HX.out w1).mono ?_
  rintro e w2 ⟨A, c, rfl, ho, u⟩
  obtain ⟨g, rfl⟩ := own_some ho hpl9
  have HB2 := hide ho
  have HH2 := hide (HH1.out.upd u)
  have U2 := hide (U1.out.trans u (by simp))
  obtain ⟨h0, hh0⟩ : ∃ x, w.heap.size = x := ⟨_, rfl⟩
  rw [hh0] at HH2 ⊢
  have hcap : pl ≤ c := own_capB ho
  have hcm := own_maxB ho
  unfold maxLen at hcm
  clear ho u HX HH1 U1 hh0
  go_wp2_with fail
  go_loopw [3, 5] (fun s3 s5 wr => ∃ (k hb hc : Nat), k ≤ nb ∧ s3 = .slice (some ⟨hb, 0, none⟩) 8 hc ∧ s5 = .int .i64 ((64 * k : Nat) : Int) ∧ Hid (WordsAt wr hb (stateS refK pb (List.range k))) ∧ Hid (Upd [] w2 wr)) (fun _ s _ => pl - (intOf s).toNat)
  case atStart => exact ⟨0, h0, 8, Nat.zero_le _, rfl, rfl, HH2, hide (Upd.refl _ _)⟩
  case round =>
    clear HH2
    obtain ⟨k, hb, hc, hk, rfl, rfl, hH, hU⟩ := hrel
    obtain ⟨wo, rfl⟩ : ∃ x : World, x = wr := ⟨_, rfl⟩
    obtain ⟨lo, hlo⟩ : ∃ x, 64 * k = x := ⟨_, rfl⟩
    rw [hlo]
    by_cases hkn : k < nb
    case pos =>
      obtain ⟨hi, hhi⟩ : ∃ x, lo + 64 = x := ⟨_, rfl⟩
      have hpbl := HPB.out
      have hli : (lo : Int) < pl := by omega
      have hw1 : IntKind.i64.wrap ((lo : Int) + 64) = (hi : Int) := by rw [Go.IntWalk.i64_in _ (by omega)]; omega
      have g0 : (0 : Int) ≤ (lo : Int) := by omega
      have g1 : (lo : Int) ≤ (hi : Int) := by omega
      have g2 : (hi : Int) ≤ (c : Int) := by omega
      have g3 : ((hi : Int) - (lo : Int)).toNat = 64 := by omega
      have g4 : (hi : Int).toNat - (lo : Int).toNat = 64 := by omega
      have g5 : hi - lo = 64 := by omega
      have hbl : (blockAt pb k).length = 64 := by unfold blockAt; rw [List.length_take, List.length_drop, HPL.out]; omega
      have HB := hide (own_kept HB2.out hU.out (by simp))
      have hba : BytesAt wo g lo (blockAt pb k) := fun i x hx => by
        have hil : i < 64 := by have := (List.getElem?_eq_some_iff.1 hx).1; omega
        unfold blockAt at hx
        rw [List.getElem?_take_of_lt hil, List.getElem?_drop, hlo] at hx
        have h9 := World.ownsRow.cells HB.out (g := g) rfl (lo + i) (bCell x) (by unfold bCells; rw [List.getElem?_map, hx]; rfl)
        rw [plain_add rfl, Nat.zero_add] at h9
        exact h9
      have hsw := stateS_word refK pb (List.range k)
      have HBK := hide (fun c' => block_any hb hc g lo c' (stateS refK pb (List.range k)) (blockAt pb k) wo hH.out hsw.1 hsw.2 hba hbl)
      have HLO := hide hlo
      have HHI := hide hhi
      clear hbl hba hsw hlo hhi hpbl HB hH
      go_wp2_with fail
      refine (HBK.out _).mono ?_
      rintro e w5 ⟨g5, c5, rfl, hw5, u⟩
      rw [← stateS_snoc, ← List.range_succ] at hw5
      have HW5 := hide hw5
      have HU5 := hide (hU.out.trans u (by simp))
      clear hw5 u HBK
      go_wp2_with fail
      go_roundw
      case rel => exact ⟨k + 1, g5, c5, by omega, rfl, by rw [show 64 * (k + 1) = hi by have := HLO.out; have := HHI.out; omega], HW5, HU5⟩
      case measure => have := HHI.out; simp [intOf] <;> omega
    obtain rfl : k = nb := by omega
    have hpbl := HPB.out
    have hli : ¬ (lo : Int) < pl := by omega
    obtain ⟨st, hst⟩ : ∃ x, stateS refK pb (List.range k) = x := ⟨_, rfl⟩
    have hsw := stateS_word refK pb (List.range k)
    rw [hst] at hH hsw
    have HST := hide hst
    have HSL := hide hsw.1
    have HH := hide hH.out
    have HU := hide (U2.out.trans hU.out (by simp))
    clear hst hsw hH hU HB2 U2 hlo hpbl HSUM HPB HPL
    go_wp2_with fail
    clear hli
    go_loopw [6, 7] (fun s6 s7 wr => ∃ (k : Nat) (A : Option Addr) (c : Nat), k ≤ 8 ∧ s6 = .slice A (4 * k) c ∧ s7 = .int .i64 k ∧ Hid (wr.ownsRow wo.heap.size 5 1 (.slice A (4 * k) c) (4 * k) (bCells ((digS st).take (4 * k)))) ∧ Hid (Upd [] wo wr)) (fun _ s _ => 8 - (intOf s).toNat)
    case atStart => exact ⟨0, none, 0, Nat.zero_le _, rfl, rfl, hide (World.ownsRow_nil _ _ _ _), hide (Upd.refl _ _)⟩
    case round =>
      clear hk hkn
      obtain ⟨k, A, c, hk, rfl, rfl, hO, hUx⟩ := hrel
      obtain ⟨wx, rfl⟩ : ∃ x : World, x = wr := ⟨_, rfl⟩
      obtain ⟨n4, hn4⟩ : ∃ x, 4 * k = x := ⟨_, rfl⟩
      rw [hn4] at hO ⊢
      by_cases hk8 : k < 8
      case pos =>
        have hki : (k : Int) < 8 := by omega
        have hkw : IntKind.i64.wrap ((k : Int) + 1) = (k : Int) + 1 := Go.IntWalk.i64_in _ (by omega)
        obtain ⟨x, hx⟩ : ∃ x, st[k]? = some x := ⟨_, List.getElem?_eq_getElem (by rw [HSL.out]; exact hk8)⟩
        have HX := hide (keepc _ _ _ _ hUx.out (HH.out k x hx))
        have HX0 := hide (HH.out k x hx)
        have HDN := hide (dig_next st k x hk8 (by unfold wat; rw [hx]; rfl))
        rw [hn4] at HDN
        have HN4 := hide hn4
        have hnb4 : n4 ≤ 32 := by omega
        have HO := hO
        have HUx := hUx
        clear hO hUx hx hn4
        go_wp2_with fail
        refine wp_region_held_drew (S := (fun w' => w'.cell? ⟨hb, k, none⟩ = some (.int .u32 x))) (by kernel_rfl) (by exact HX.out) (fun hHeld => ?_)
        obtain ⟨v1, hwD⟩ : ∃ x, wx.drew = x := ⟨_, rfl⟩
        have u : Upd [] wx v1 := by rw [← hwD]; exact (Upd.refl [] _).drew
        rw [hwD] at hHeld ⊢
        clear hwD
        replace HUx := hide (HUx.out.trans u (by simp))
        replace HO := hide (own_kept HO.out u (by simp))
        replace HX := hide (keepc _ _ _ _ u HX.out)
        clear u
        refine wpAnyH_take (i := 0) (oi := ?oi0M2) (v := ?v0M2) ?oi0_0M2 (by kernel_rfl) ?ff0M2 ?rr0M2 ?hq0M2 (Or.inl ⟨?hw0M2, ?hy0M2⟩) (by assumption) ?rest0M2
        case oi0_0M2 => conv => lhs; whnf; arg 1; whnf
        case hq0M2 => exact fun _ _ _ h => h
        case ff0M2 | rr0M2 => kernel_rfl
        case hw0M2 => rfl
        case hy0M2 => intro w hSw; (try dsimp only at hSw); first | (go_simp; done) | (go_simp; with_reducible rfl)
        try simp only [Act.put, List.setIfInBounds_toArray, List.set_cons_zero, List.set_cons_succ]
        refine wpAnyH_take (i := 1) (oi := ?oi1M2) (v := ?v1M2) ?oi0_1M2 (by kernel_rfl) ?ff1M2 ?rr1M2 ?hq1M2 (Or.inl ⟨?hw1M2, ?hy1M2⟩) (by assumption) ?rest1M2
        case oi0_1M2 => conv => lhs; whnf; arg 1; whnf
        case hq1M2 => exact fun _ _ _ h => h
        case ff1M2 | rr1M2 => kernel_rfl
        case hw1M2 => rfl
        case hy1M2 => intro w hSw; (try dsimp only at hSw); first | (go_simp; done) | (go_simp; with_reducible rfl)
        try simp only [Act.put, List.setIfInBounds_toArray, List.set_cons_zero, List.set_cons_succ]
        refine wpAnyH_take (i := 2) (oi := ?oi2M2) (v := ?v2M2) ?oi0_2M2 (by kernel_rfl) ?ff2M2 ?rr2M2 ?hq2M2 (Or.inl ⟨?hw2M2, ?hy2M2⟩) (by assumption) ?rest2M2
        case oi0_2M2 => conv => lhs; whnf; arg 1; whnf
        case hq2M2 => exact fun _ _ _ h => h
        case ff2M2 | rr2M2 => kernel_rfl
        case hw2M2 => rfl
        case hy2M2 => intro w hSw; (try dsimp only at hSw); first | (go_simp; done) | (go_simp; with_reducible rfl)
        try simp only [Act.put, List.setIfInBounds_toArray, List.set_cons_zero, List.set_cons_succ]
        refine wpAnyH_take (i := 3) (oi := ?oi3M2) (v := ?v3M2) ?oi0_3M2 (by kernel_rfl) ?ff3M2 ?rr3M2 ?hq3M2 (Or.inl ⟨?hw3M2, ?hy3M2⟩) (by assumption) ?rest3M2
        case oi0_3M2 => conv => lhs; whnf; arg 1; whnf
        case hq3M2 => exact fun _ _ _ h => h
        case ff3M2 | rr3M2 => kernel_rfl
        case hw3M2 => rfl
        case hy3M2 => intro w hSw; (try dsimp only at hSw); first | (go_simp; done) | (go_simp; with_reducible rfl)
        try simp only [Act.put, List.setIfInBounds_toArray, List.set_cons_zero, List.set_cons_succ]
        refine wpAnyH_take (i := 4) (oi := ?oi4M2) (v := ?v4M2) ?oi0_4M2 (by kernel_rfl) ?ff4M2 ?rr4M2 ?hq4M2 (Or.inl ⟨?hw4M2, ?hy4M2⟩) (by assumption) ?rest4M2
        case oi0_4M2 => conv => lhs; whnf; arg 1; whnf
        case hq4M2 => exact fun _ _ _ h => h
        case ff4M2 | rr4M2 => kernel_rfl
        case hw4M2 => rfl
        case hy4M2 => intro w hSw; (try dsimp only at hSw); first | (go_simp; done) | (go_simp; with_reducible rfl)
        try simp only [Act.put, List.setIfInBounds_toArray, List.set_cons_zero, List.set_cons_succ]
        refine wpAnyH_take (i := 5) (oi := ?oi5M2) (v := ?v5M2) ?oi0_5M2 (by kernel_rfl) ?ff5M2 ?rr5M2 ?hq5M2 (Or.inl ⟨?hw5M2, ?hy5M2⟩) (by assumption) ?rest5M2
        case oi0_5M2 => conv => lhs; whnf; arg 1; whnf
        case hq5M2 => exact fun _ _ _ h => h
        case ff5M2 | rr5M2 => kernel_rfl
        case hw5M2 => rfl
        case hy5M2 => intro w hSw; (try dsimp only at hSw); first | (go_simp; done) | (go_simp; with_reducible rfl)
        try simp only [Act.put, List.setIfInBounds_toArray, List.set_cons_zero, List.set_cons_succ]
        refine wpAnyH_take (i := 6) (oi := ?oi6M2) (v := ?v6M2) ?oi0_6M2 (by kernel_rfl) ?ff6M2 ?rr6M2 ?hq6M2 (Or.inl ⟨?hw6M2, ?hy6M2⟩) (by assumption) ?rest6M2
        case oi0_6M2 => conv => lhs; whnf; arg 1; whnf
        case hq6M2 => exact fun _ _ _ h => h
        case ff6M2 | rr6M2 => kernel_rfl
        case hw6M2 => rfl
        case hy6M2 => intro w hSw; (try dsimp only at hSw); first | (go_simp; done) | (go_simp; with_reducible rfl)
        try simp only [Act.put, List.setIfInBounds_toArray, List.set_cons_zero, List.set_cons_succ]
        refine wpAnyH_take (i := 7) (oi := ?oi7M2) (v := ?v7M2) ?oi0_7M2 (by kernel_rfl) ?ff7M2 ?rr7M2 ?hq7M2 (Or.inl ⟨?hw7M2, ?hy7M2⟩) (by assumption) ?rest7M2
        case oi0_7M2 => conv => lhs; whnf; arg 1; whnf
        case hq7M2 => exact fun _ _ _ h => h
        case ff7M2 | rr7M2 => kernel_rfl
        case hw7M2 => rfl
        case hy7M2 => intro w hSw; (try dsimp only at hSw); first | (go_simp; done) | (go_simp; with_reducible rfl)
        try simp only [Act.put, List.setIfInBounds_toArray, List.set_cons_zero, List.set_cons_succ]
        refine wpAnyH_take (i := 8) (oi := ?oi8M2) (v := ?v8M2) ?oi0_8M2 (by kernel_rfl) ?ff8M2 ?rr8M2 ?hq8M2 (Or.inl ⟨?hw8M2, ?hy8M2⟩) (by assumption) ?rest8M2
        case oi0_8M2 => conv => lhs; whnf; arg 1; whnf
        case hq8M2 => exact fun _ _ _ h => h
        case ff8M2 | rr8M2 => kernel_rfl
        case hw8M2 => rfl
        case hy8M2 => intro w hSw; (try dsimp only at hSw); first | (go_simp; done) | (go_simp; with_reducible rfl)
        try simp only [Act.put, List.setIfInBounds_toArray, List.set_cons_zero, List.set_cons_succ]
        refine wpAnyH_take (i := 9) (oi := ?oi9M2) (v := ?v9M2) ?oi0_9M2 (by kernel_rfl) ?ff9M2 ?rr9M2 ?hq9M2 (Or.inl ⟨?hw9M2, ?hy9M2⟩) (by assumption) ?rest9M2
        case oi0_9M2 => conv => lhs; whnf; arg 1; whnf
        case hq9M2 => exact fun _ _ _ h => h
        case ff9M2 | rr9M2 => kernel_rfl
        case hw9M2 => rfl
        case hy9M2 => intro w hSw; (try dsimp only at hSw); first | (go_simp; done) | (go_simp; with_reducible rfl)
        try simp only [Act.put, List.setIfInBounds_toArray, List.set_cons_zero, List.set_cons_succ]
        refine wpAnyH_take (i := 10) (oi := ?oi10M2) (v := ?v10M2) ?oi0_10M2 (by kernel_rfl) ?ff10M2 ?rr10M2 ?hq10M2 (Or.inl ⟨?hw10M2, ?hy10M2⟩) (by assumption) ?rest10M2
        case oi0_10M2 => conv => lhs; whnf; arg 1; whnf
        case hq10M2 => exact fun _ _ _ h => h
        case ff10M2 | rr10M2 => kernel_rfl
        case hw10M2 => rfl
        case hy10M2 => intro w hSw; (try dsimp only at hSw); first | (go_simp; done) | (go_simp; with_reducible rfl)
        try simp only [Act.put, List.setIfInBounds_toArray, List.set_cons_zero, List.set_cons_succ]
        refine wpAnyH_take (i := 11) (oi := ?oi11M2) (v := ?v11M2) ?oi0_11M2 (by kernel_rfl) ?ff11M2 ?rr11M2 ?hq11M2 (Or.inl ⟨?hw11M2, ?hy11M2⟩) (by assumption) ?rest11M2
        case oi0_11M2 => conv => lhs; whnf; arg 1; whnf
        case hq11M2 => exact fun _ _ _ h => h
        case ff11M2 | rr11M2 => kernel_rfl
        case hw11M2 => rfl
        case hy11M2 => intro w hSw; (try dsimp only at hSw); first | (go_simp; done) | (go_simp; with_reducible rfl)
        try simp only [Act.put, List.setIfInBounds_toArray, List.set_cons_zero, List.set_cons_succ]
        refine wpAnyH_take (i := 12) (oi := ?oi12M2) (v := ?v12M2) ?oi0_12M2 (by kernel_rfl) ?ff12M2 ?rr12M2 ?hq12M2 (Or.inl ⟨?hw12M2, ?hy12M2⟩) (by assumption) ?rest12M2
        case oi0_12M2 => conv => lhs; whnf; arg 1; whnf
        case hq12M2 => exact fun _ _ _ h => h
        case ff12M2 | rr12M2 => kernel_rfl
        case hw12M2 => rfl
        case hy12M2 => intro w hSw; (try dsimp only at hSw); first | (go_simp; done) | (go_simp; with_reducible rfl)
        try simp only [Act.put, List.setIfInBounds_toArray, List.set_cons_zero, List.set_cons_succ]
        refine wpAnyH_take (i := 13) (oi := ?oi13M2) (v := ?v13M2) ?oi0_13M2 (by kernel_rfl) ?ff13M2 ?rr13M2 ?hq13M2 (Or.inl ⟨?hw13M2, ?hy13M2⟩) (by assumption) ?rest13M2
        case oi0_13M2 => conv => lhs; whnf; arg 1; whnf
        case hq13M2 => exact fun _ _ _ h => h
        case ff13M2 | rr13M2 => kernel_rfl
        case hw13M2 => rfl
        case hy13M2 => intro w hSw; (try dsimp only at hSw); first | (go_simp; done) | (go_simp; with_reducible rfl)
        try simp only [Act.put, List.setIfInBounds_toArray, List.set_cons_zero, List.set_cons_succ]
        refine wpAnyH_take (i := 14) (oi := ?oi14M2) (v := ?v14M2) ?oi0_14M2 (by kernel_rfl) ?ff14M2 ?rr14M2 ?hq14M2 (Or.inl ⟨?hw14M2, ?hy14M2⟩) (by assumption) ?rest14M2
        case oi0_14M2 => conv => lhs; whnf; arg 1; whnf
        case hq14M2 => exact fun _ _ _ h => h
        case ff14M2 | rr14M2 => kernel_rfl
        case hw14M2 => rfl
        case hy14M2 => intro w hSw; (try dsimp only at hSw); first | (go_simp; done) | (go_simp; with_reducible rfl)
        try simp only [Act.put, List.setIfInBounds_toArray, List.set_cons_zero, List.set_cons_succ]
        refine wpAnyH_take (i := 15) (oi := ?oi15M2) (v := ?v15M2) ?oi0_15M2 (by kernel_rfl) ?ff15M2 ?rr15M2 ?hq15M2 (Or.inl ⟨?hw15M2, ?hy15M2⟩) (by assumption) ?rest15M2
        case oi0_15M2 => conv => lhs; whnf; arg 1; whnf
        case hq15M2 => exact fun _ _ _ h => h
        case ff15M2 | rr15M2 => kernel_rfl
        case hw15M2 => rfl
        case hy15M2 => intro w hSw; (try dsimp only at hSw); first | (go_simp; done) | (go_simp; with_reducible rfl)
        try simp only [Act.put, List.setIfInBounds_toArray, List.set_cons_zero, List.set_cons_succ]
        refine wpAnyH_take (i := 16) (oi := ?oi16M2) (v := ?v16M2) ?oi0_16M2 (by kernel_rfl) ?ff16M2 ?rr16M2 ?hq16M2 (Or.inl ⟨?hw16M2, ?hy16M2⟩) (by assumption) ?rest16M2
        case oi0_16M2 => conv => lhs; whnf; arg 1; whnf
        case hq16M2 => exact fun _ _ _ h => h
        case ff16M2 | rr16M2 => kernel_rfl
        case hw16M2 => rfl
        case hy16M2 => intro w hSw; (try dsimp only at hSw); first | (go_simp; done) | (go_simp; with_reducible rfl)
        try simp only [Act.put, List.setIfInBounds_toArray, List.set_cons_zero, List.set_cons_succ]
        refine wpAnyH_take (i := 17) (oi := ?oi17M2) (v := ?v17M2) ?oi0_17M2 (by kernel_rfl) ?ff17M2 ?rr17M2 ?hq17M2 (Or.inl ⟨?hw17M2, ?hy17M2⟩) (by assumption) ?rest17M2
        case oi0_17M2 => conv => lhs; whnf; arg 1; whnf
        case hq17M2 => exact fun _ _ _ h => h
        case ff17M2 | rr17M2 => kernel_rfl
        case hw17M2 => rfl
        case hy17M2 => intro w hSw; (try dsimp only at hSw); first | (go_simp; done) | (go_simp; with_reducible rfl)
        try simp only [Act.put, List.setIfInBounds_toArray, List.set_cons_zero, List.set_cons_succ]
        refine wpAnyH_take (i := 18) (oi := ?oi18M2) (v := ?v18M2) ?oi0_18M2 (by kernel_rfl) ?ff18M2 ?rr18M2 ?hq18M2 (Or.inl ⟨?hw18M2, ?hy18M2⟩) (by assumption) ?rest18M2
        case oi0_18M2 => conv => lhs; whnf; arg 1; whnf
        case hq18M2 => exact fun _ _ _ h => h
        case ff18M2 | rr18M2 => kernel_rfl
        case hw18M2 => rfl
        case hy18M2 => intro w hSw; (try dsimp only at hSw); first | (go_simp; done) | (go_simp; with_reducible rfl)
        try simp only [Act.put, List.setIfInBounds_toArray, List.set_cons_zero, List.set_cons_succ]
        refine wpAnyH_take (i := 19) (oi := ?oi19M2) (v := ?v19M2) ?oi0_19M2 (by kernel_rfl) ?ff19M2 ?rr19M2 ?hq19M2 (Or.inl ⟨?hw19M2, ?hy19M2⟩) (by assumption) ?rest19M2
        case oi0_19M2 => conv => lhs; whnf; arg 1; whnf
        case hq19M2 => exact fun _ _ _ h => h
        case ff19M2 | rr19M2 => kernel_rfl
        case hw19M2 => rfl
        case hy19M2 => intro w hSw; (try dsimp only at hSw); first | (go_simp; done) | (go_simp; with_reducible rfl)
        try simp only [Act.put, List.setIfInBounds_toArray, List.set_cons_zero, List.set_cons_succ]
        refine wpAnyH_take (i := 20) (oi := ?oi20M2) (v := ?v20M2) ?oi0_20M2 (by kernel_rfl) ?ff20M2 ?rr20M2 ?hq20M2 (Or.inl ⟨?hw20M2, ?hy20M2⟩) (by assumption) ?rest20M2
        case oi0_20M2 => conv => lhs; whnf; arg 1; whnf
        case hq20M2 => exact fun _ _ _ h => h
        case ff20M2 | rr20M2 => kernel_rfl
        case hw20M2 => rfl
        case hy20M2 => intro w hSw; (try dsimp only at hSw); first | (go_simp; done) | (go_simp; with_reducible rfl)
        try simp only [Act.put, List.setIfInBounds_toArray, List.set_cons_zero, List.set_cons_succ]
        refine wpAnyH_take (i := 21) (oi := ?oi21M2) (v := ?v21M2) ?oi0_21M2 (by kernel_rfl) ?ff21M2 ?rr21M2 ?hq21M2 (Or.inl ⟨?hw21M2, ?hy21M2⟩) (by assumption) ?rest21M2
        case oi0_21M2 => conv => lhs; whnf; arg 1; whnf
        case hq21M2 => exact fun _ _ _ h => h
        case ff21M2 | rr21M2 => kernel_rfl
        case hw21M2 => rfl
        case hy21M2 => intro w hSw; (try dsimp only at hSw); first | (go_simp; done) | (go_simp; with_reducible rfl)
        try simp only [Act.put, List.setIfInBounds_toArray, List.set_cons_zero, List.set_cons_succ]
        refine wpAnyH_take (i := 22) (oi := ?oi22M2) (v := ?v22M2) ?oi0_22M2 (by kernel_rfl) ?ff22M2 ?rr22M2 ?hq22M2 (Or.inl ⟨?hw22M2, ?hy22M2⟩) (by assumption) ?rest22M2
        case oi0_22M2 => conv => lhs; whnf; arg 1; whnf
        case hq22M2 => exact fun _ _ _ h => h
        case ff22M2 | rr22M2 => kernel_rfl
        case hw22M2 => rfl
        case hy22M2 => intro w hSw; (try dsimp only at hSw); first | (go_simp; done) | (go_simp; with_reducible rfl)
        try simp only [Act.put, List.setIfInBounds_toArray, List.set_cons_zero, List.set_cons_succ]
        refine wpAnyH_take (i := 23) (oi := ?oi23M2) (v := ?v23M2) ?oi0_23M2 (by kernel_rfl) ?ff23M2 ?rr23M2 ?hq23M2 (Or.inl ⟨?hw23M2, ?hy23M2⟩) (by assumption) ?rest23M2
        case oi0_23M2 => conv => lhs; whnf; arg 1; whnf
        case hq23M2 => exact fun _ _ _ h => h
        case ff23M2 | rr23M2 => kernel_rfl
        case hw23M2 => rfl
        case hy23M2 => intro w hSw; (try dsimp only at hSw); first | (go_simp; done) | (go_simp; with_reducible rfl)
        try simp only [Act.put, List.setIfInBounds_toArray, List.set_cons_zero, List.set_cons_succ]
        refine wpAnyH_ready (rs := [24]) (by kernel_rfl) (by simp) (AllReadyH.cons (o := ?oiM3) ?oi0_M3 (fun K hK => ?_) AllReadyH.nil)
        case oi0_M3 => conv => lhs; whnf; arg 1; whnf
        go_simp
        obtain ⟨v2, hw⟩ : ∃ W9, v1.alloc (.cells #[.int .u8 (IntKind.u8.wrap (x / 16777216)), .int .u8 (IntKind.u8.wrap (x / 65536)), .int .u8 (IntKind.u8.wrap (x / 256)), .int .u8 (IntKind.u8.wrap (x))] 5) = W9 := ⟨_, rfl⟩
        have u : Upd [] v1 v2 := by rw [← hw]; exact (Upd.refl [] _).alloc _
        have HNW := hide (show ∀ j v, ([.int .u8 (IntKind.u8.wrap (x / 16777216)), .int .u8 (IntKind.u8.wrap (x / 65536)), .int .u8 (IntKind.u8.wrap (x / 256)), .int .u8 (IntKind.u8.wrap (x))] : List Value)[j]? = some v → v2.cell? ((⟨v1.heap.size, 0, none⟩ : Addr).add j) = some v by rw [← hw]; exact cells_new v1 [.int .u8 (IntKind.u8.wrap (x / 16777216)), .int .u8 (IntKind.u8.wrap (x / 65536)), .int .u8 (IntKind.u8.wrap (x / 256)), .int .u8 (IntKind.u8.wrap (x))] 5)
        rw [hw]
        clear hw
        replace HUx := hide (HUx.out.trans u (by simp))
        replace HO := hide (own_kept HO.out u (by simp))
        replace HX := hide (keepc _ _ _ _ u HX.out)
        have hS := keepc _ _ _ _ u hHeld
        clear u hHeld
        (try dsimp only)
        refine hK.out _ _ (by exact hS) (fun hHeld => ?_)
        clear hK K
        try simp only [Act.put, List.setIfInBounds_toArray, List.set_cons_zero, List.set_cons_succ]
        clear hS
        refine wpAnyH_ready (rs := [25]) (by kernel_rfl) (by simp) (AllReadyH.cons (o := ?oiM4) ?oi0_M4 (fun K hK => ?_) AllReadyH.nil)
        case oi0_M4 => conv => lhs; whnf; arg 1; whnf
        refine step_append_keep rfl (.tmp 28) (.tmp 52) _ rfl wo.heap.size 5 (.int .u8 0) 1 Tryz.underlying39 it_info_byte rfl A n4 c _ rfl HO.out ⟨v1.heap.size, 0, none⟩ 4 4 [.int .u8 (IntKind.u8.wrap (x / 16777216)), .int .u8 (IntKind.u8.wrap (x / 65536)), .int .u8 (IntKind.u8.wrap (x / 256)), .int .u8 (IntKind.u8.wrap (x))] rfl rfl HNW.out (by simp [Value.oneCell']) (by unfold maxLen; omega) (by omega) HUx.out.size ?_
        intro A5 c5 w5 h5 u hk5
        have HO5 := hide h5
        have hU5 := HUx.out.trans u (fun x hx => .inr (it_own_block HO.out x (by rw [ownBlock_slice]; first | (simpa using hx) | (simp at hx; rw [hx]; rfl))))
        clear hHeld u hk5 h5
        have hS := keepc _ _ _ _ hU5 HX0.out
        have HU5 := hide hU5
        clear hU5
        (try dsimp only)
        refine hK.out _ _ (by exact hS) (fun hHeld => ?_)
        clear hK K
        try simp only [Act.put, List.setIfInBounds_toArray, List.set_cons_zero, List.set_cons_succ]
        clear hS
        refine wpAnyH_take (i := 26) (oi := ?oi26M5) (v := ?v26M5) ?oi0_26M5 (by kernel_rfl) ?ff26M5 ?rr26M5 ?hq26M5 (Or.inl ⟨?hw26M5, ?hy26M5⟩) (by assumption) ?rest26M5
        case oi0_26M5 => conv => lhs; whnf; arg 1; whnf
        case hq26M5 => exact fun _ _ _ h => h
        case ff26M5 | rr26M5 => kernel_rfl
        case hw26M5 => rfl
        case hy26M5 => intro w hSw; (try dsimp only at hSw); first | (go_simp; done) | (go_simp; with_reducible rfl)
        try simp only [Act.put, List.setIfInBounds_toArray, List.set_cons_zero, List.set_cons_succ]
        refine wpAnyH_done (by kernel_rfl) ?_ _
        go_wp2_with fail
        go_roundw
        case rel => exact ⟨k + 1, A5, c5, by omega, by rw [show 4 * (k + 1) = n4 + 4 by have := HN4.out; omega], by go_num, hide (by
          rw [show 4 * (k + 1) = n4 + 4 by have := HN4.out; omega, HDN.out]; exact HO5.out), HU5⟩
        case measure => simp [intOf] <;> omega
      obtain rfl : k = 8 := by omega
      obtain rfl : 32 = n4 := by omega
      have hki : ¬ (((8 : Nat) : Int)) < 8 := by omega
      obtain ⟨og, rfl⟩ := own_some hO.out (by omega)
      rw [List.take_of_length_le (by rw [digS_length]; exact Nat.le_refl _)] at hO
      have hcv := own_conv hO.out
      clear hn4
      go_wp2_with fail
      go_ret
      exact ⟨by rw [HST.out]; rfl, HU.out.trans hUx.out (by simp)⟩
theorem refChain (a b : ByteArray) (w : World) (ha : a.size ≤ 100000000) (hb : b.size ≤ 100000000) :
    Calls Tryz.prog 57 #[.string a, .string b] w fun e w' => e = .returned (.string ⟨(chainS refK a.data.toList b.data.toList).toArray⟩) ∧ Upd [] w w' := by
  have HS := hide (fun W => refSum ((⟨#[2]⟩ ++ a) ++ b) W (by simp only [ByteArray.size_append]; have : (⟨#[2]⟩ : ByteArray).size = 1 := rfl; omega))
  have HE := hide (show (⟨(sumS refK ((⟨#[2]⟩ ++ a) ++ b).data.toList).toArray⟩ : ByteArray) = ⟨(chainS refK a.data.toList b.data.toList).toArray⟩ by unfold chainS; simp [ByteArray.data_append])
  obtain ⟨za, hza⟩ : ∃ x, a.size = x := ⟨_, rfl⟩
  obtain ⟨zb, hzb⟩ : ∃ x, b.size = x := ⟨_, rfl⟩
  rw [hza] at ha
  rw [hzb] at hb
  have o1 : (⟨#[2]⟩ : ByteArray).size = 1 := rfl
  have o2 : (⟨#[2]⟩ ++ a : ByteArray).size = 1 + za := by rw [ByteArray.size_append, hza]; rfl
  have hs1 : ¬ 9223372036854775807 < 1 + za := by omega
  have hs2 : ¬ 9223372036854775807 < 1 + za + zb := by omega
  go_enter Tryz.func57, Tryz.ntmps57
  go_wp2_with fail
  refine (HS.out w).mono ?_
  rintro e w1 ⟨rfl, u⟩
  have HU := hide u
  clear u
  rw [HE.out]
  go_wp2_with fail
  go_ret
  exact ⟨rfl, HU.out⟩
end Go.Proofs.YtafjolibfbccbaaGreatDoor
