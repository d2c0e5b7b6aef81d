/-
  shown of law 28: the example holds. No condition.
-/
import Derived.Test.YtjlclpdjblicjaaAuditHolds
import Derived.Test.YtjlclpdjblicjaaAuditLeaks
import Derived.Test.YtjlclpdjblicjaaAuditRoomR
namespace Go.Proofs.Ytjlclpdjblicjaa
open Go.RowKit Go.Sort Go.BigFrame
set_option linter.unusedVariables false
attribute [local go_sem ↓] Go.wp_at_zero Go.wp_at_succ
theorem Has.of_blk {W : World} {b n size : Nat} {cs : Array Value} {t : TypeId} {xs : List Value} (h : BlkIs W b cs t) (e : cs.toList = xs) (hl : xs.length = n * size) (hn : n ≤ maxLen) :
    Has W size (.slice (some ⟨b, 0, none⟩) n n) n xs := by
  subst e
  exact ⟨hl, _, _, rfl, Nat.le_refl _, hn, by simp, fun _ => ⟨b, 0, rfl, h.lt, fun j u hu => by rw [Nat.zero_add, cell_of_row W b j cs t (0, 0) h.eq]; simpa using hu⟩⟩
theorem Has.of_nil {W : World} {size : Nat} : Has W size (.slice none 0 0) 0 [] := ⟨by simp, none, 0, rfl, by decide, by decide, by simp, fun h => absurd h (by decide)⟩
theorem snap_one {W : World} {p1 p2 p3 : Nat} (h1 : BlkIs W p1 #[.int .u32 1, .int .i64 0, .int .u32 5, .int .i64 2] 95) (h2 : BlkIs W p2 #[.int .i64 1, .int .u32 5] 30) (h3 : BlkIs W p3 #[.int .i64 1, .int .u32 5] 30) :
    SnapW W (.slice (some ⟨p1, 0, none⟩) 2 2) (.slice (some ⟨p2, 0, none⟩) 1 1) (.slice none 0 0) (.slice (some ⟨p3, 0, none⟩) 1 1) 2 1 0 1 [(1, 0), (5, 2)] [(1, 5)] [] [(1, 5)] :=
  ⟨Has.of_blk h1 rfl rfl (by decide), Has.of_blk h2 rfl rfl (by decide), Has.of_nil, Has.of_blk h3 rfl rfl (by decide), rfl, rfl, rfl, rfl, by decide, by decide, by decide, by decide⟩
theorem snap_two {W : World} {p1 p2 : Nat} (h1 : BlkIs W p1 #[.int .u32 1, .int .i64 0, .int .u32 5, .int .i64 2] 95) (h2 : BlkIs W p2 #[.int .i64 1, .int .u32 5] 30) :
    SnapW W (.slice (some ⟨p1, 0, none⟩) 2 2) (.slice (some ⟨p2, 0, none⟩) 1 1) (.slice none 0 0) (.slice none 0 0) 2 1 0 0 [(1, 0), (5, 2)] [(1, 5)] [] [] :=
  ⟨Has.of_blk h1 rfl rfl (by decide), Has.of_blk h2 rfl rfl (by decide), Has.of_nil, Has.of_nil, rfl, rfl, rfl, rfl, by decide, by decide, by decide, by decide⟩
theorem one_cnt : cntL [(1, 0), (5, 2)] ([(1, 5)] ++ [] ++ [(1, 5)]) 2 (1 + 0 + 1) = [0, 2] := by decide
theorem one_holds : holdsB [(1, 0), (5, 2)] ([(1, 5)] ++ [] ++ [(1, 5)]) 2 = true := by decide
theorem two_holds : holdsB [(1, 0), (5, 2)] ([(1, 5)] ++ [] ++ []) 2 = false := by decide
theorem two_leaks : leaksL [(1, 0), (5, 2)] ([(1, 5)] ++ [] ++ []) 2 2 = [1] := by decide
theorem one_room : roomB 1 18 1 2 0 9 = true := by decide
theorem two_room : roomB 1 17 1 2 0 9 = false := by decide
set_option maxRecDepth 100000 in
set_option maxHeartbeats 4000000 in
theorem shown28 (w : World) : Calls Try.prog 36 #[] w (Gives (.bool true) w) := by
  go_enter Try.func36, Try.ntmps36
  go_wp2_with fail
  obtain ⟨p1, hp1⟩ : ∃ p, p = w.heap.size + 1 := ⟨_, rfl⟩
  refine (countedS (snap_one (p1 := w.heap.size + 1) (p2 := w.heap.size + 1 + 1) (p3 := w.heap.size + 1 + 1 + 1) inferInstance inferInstance inferInstance)).mono ?_
  rintro e w3 ⟨v3, rfl, hL3, hb3⟩; have ha3 : After _ w3 := ⟨hb3⟩
  rw [one_cnt] at hL3
  obtain ⟨g3, off3, c3, rfl, hg3, hl3, hn3, hm3⟩ := hL3.form (by decide)
  have hc3 : w3.cell? ⟨g3, off3 + 1, none⟩ = some (.int .i64 2) := hL3.cell (by rfl)
  clear hL3 hp1 p1
  simp at hg3
  go_wp2_with fail
  refine (holdsS (snap_one (p1 := w.heap.size + 1) (p2 := w.heap.size + 1 + 1) (p3 := w.heap.size + 1 + 1 + 1) inferInstance inferInstance inferInstance)).mono ?_
  rintro e w4 ⟨rfl, hb4⟩; have ha4 : After _ w4 := ⟨hb4⟩
  have hc4 : w4.cell? ⟨g3, off3 + 1, none⟩ = some (.int .i64 2) := by rw [hb4.cell (by exact hl3)]; exact hc3
  have hl4 : g3 < w4.heap.size := Nat.lt_of_lt_of_le hl3 hb4.size
  have B4 : RowKit.Below w.heap.size w w4 := (by repeat (first | with_reducible exact Below.refl _ _ | (with_reducible refine Below.alloc ?_ ?_ _; rotate_left; focus ((try simp) <;> omega)) | (with_reducible refine Below.setCell ?_ ?_ _; rotate_left; focus ((try simp) <;> omega)) | (with_reducible refine below_grow ?_ ?_; rotate_left; focus ((try simp) <;> omega)) | (with_reducible refine below_putB ?_ ?_; rotate_left; focus ((try simp) <;> omega)) | with_reducible refine Below.drew ?_ | with_reducible refine below_drewN ?_ | with_reducible assumption | (with_reducible refine below_step (by assumption) ?_ ?_; rotate_left; focus ((try simp) <;> omega))))
  rw [one_holds]
  go_wp2_with fail
  refine (leaksS (snap_two (p1 := w.heap.size + 1) (p2 := w.heap.size + 1 + 1) inferInstance inferInstance)).mono ?_
  rintro e w5 ⟨v5, rfl, hL5, hb5⟩; have ha5 : After _ w5 := ⟨hb5⟩
  rw [two_leaks] at hL5
  have B5 : RowKit.Below w.heap.size w w5 := (below_putB B4 (by omega)).trans (hb5.mono (by rw [putB_size]; exact B4.size))
  have hc5 : w5.cell? ⟨g3, off3 + 1, none⟩ = some (.int .i64 2) := by
    rw [hb5.cell (by rw [putB_size]; exact hl4), World.cell?_of_block (w := w4) (putB_other (by show g3 ≠ _; omega))]; exact hc4
  obtain ⟨g5, off5, c5, rfl, hg5, hl5, hn5, hm5⟩ := hL5.form (by decide)
  have hd5 : w5.cell? ⟨g5, off5, none⟩ = some (.int .i64 1) := hL5.cell (j := 0) (by rfl)
  have hn5' : [(1 : Int)].length = 1 := rfl
  clear hL5
  go_wp2_with fail
  refine (holdsS (snap_two (p1 := w.heap.size + 1) (p2 := w.heap.size + 1 + 1) inferInstance inferInstance)).mono ?_
  rintro e w6 ⟨rfl, hb6⟩; have ha6 : After _ w6 := ⟨hb6⟩
  rw [two_holds]
  have hd6 : w6.cell? ⟨g5, off5, none⟩ = some (.int .i64 1) := by rw [hb6.cell (by exact hl5)]; exact hd5
  go_wp2_with fail
  refine (auditRoomR 1 18 1 2 0 9 w6).mono ?_
  rintro e w7 ⟨rfl, hb7⟩; have ha7 : After _ w7 := ⟨hb7⟩
  rw [one_room]
  go_wp2_with fail
  refine (auditRoomR 1 17 1 2 0 9 w7).mono ?_
  rintro e w8 ⟨rfl, hb8⟩; have ha8 : After _ w8 := ⟨hb8⟩
  rw [two_room]
  go_wp2_with fail
  refine ret_any ⟨_, by simp [results, Try.results36, go_sem, *]; rfl, ?_⟩ rfl
  exact gives_of rfl (B5.trans ((hb6.trans (hb7.mono hb6.size)).trans (hb8.mono (Nat.le_trans hb6.size hb7.size)) |>.mono B5.size))
end Go.Proofs.Ytjlclpdjblicjaa
