/-
  A line of what is sent: console.Line and the reference's SentLine give the same text. The bytes are at most some millions; the listed table holds the powers of ten.
-/
import Derived.Test.YtoipldpekiikjaaGreatDoorHex
namespace Go.Proofs.YtoipldpekiikjaaGreatDoor
open Go.RowKit Go.Sort Go.BigFrame
set_option linter.unusedVariables false
/-- The text of a line. -/
def lineT (kind peer source : Int) (bs : List UInt8) : List UInt8 :=
  Lib.itoa peer ++ [32] ++ Lib.itoa source ++ [32] ++ Lib.itoa kind ++ (if bs = [] then [] else [32] ++ hexl bs) ++ [10]
theorem info9 : (Tryz.prog.info? 9).map (fun i => (i.zero, i.size, i.bytes)) = some (some (.string ⟨#[]⟩), 1, 16) := by kernel_rfl
theorem joinC {b o c : Nat} (ls : List (List UInt8)) (w : World) (hcells : ∀ (j : Nat) l, ls[j]? = some l → w.cell? ⟨b, o + j, none⟩ = some (.string (str l))) (hb : b < w.heap.size) (hN : ls.length ≤ 100) (hc : ls.length ≤ c) (hlen : (Lib.join ls [32]).length ≤ 100000000) :
    Calls Tryz.prog 13 #[.slice (some ⟨b, o, none⟩) ls.length c, .string { data := #[32] }] w (Gives (.string (str (Lib.join ls [32]))) w) := by
  have hm : ((ls.map str).map (·.data.toList)) = ls := by
    rw [List.map_map]
    have : ((fun x : ByteArray => x.data.toList) ∘ str) = id := by funext l; simp [str]
    rw [this, List.map_id]
  have := Tryz.strings_Join b o c (ls.map str) { data := #[32] } w (fun j x hx => by
    rw [List.getElem?_map] at hx
    cases hl : ls[j]? with
    | none => rw [hl] at hx; cases hx
    | some l => rw [hl] at hx; cases hx; exact hcells j l hl) hb (by simp; omega) (by simpa using hc) (by rw [hm]; exact Nat.le_trans hlen (by decide))
  rw [hm, List.length_map] at this
  exact this
theorem blk_at {w : World} {b : Nat} {cs : Array Value} {t : TypeId} (h : BlkIs w b cs t) : ∀ j u, cs.toList[j]? = some u → w.cell? ⟨b, j, none⟩ = some u := by
  intro j u hj
  rw [cell_blk (w := w) (b := b)]
  simpa using hj
theorem itoa_len {n : Int} (h0 : -9223372036854775808 ≤ n) (h1 : n ≤ 9223372036854775807) : (Lib.itoa n).length ≤ 21 := by
  unfold Lib.itoa
  split
  · have := dec_len20 (n := n.natAbs) (by omega)
    simp only [List.length_cons]; omega
  · have := dec_len20 (n := n.toNat) (by omega)
    omega
set_option maxRecDepth 100000 in
set_option maxHeartbeats 4000000 in
theorem lineC {kind peer source : Int} {v : Value} {bs : List UInt8} {w : World} (h : Bytes w v bs) (hn : bs.length ≤ 10000000) (ht : Tab w)
    (k0 : -9223372036854775808 ≤ kind) (k1 : kind ≤ 9223372036854775807) (p0 : -9223372036854775808 ≤ peer) (p1 : peer ≤ 9223372036854775807) (s0 : -9223372036854775808 ≤ source) (s1 : source ≤ 9223372036854775807) :
    Calls Tryz.prog 5 #[.agg #[.int .i64 kind, .int .i64 peer, .int .i64 source, v]] w (Gives (.string (str (lineT kind peer source bs))) w) := by
  have HB := Lib.hid h
  have HT := Lib.hid ht
  obtain ⟨ao, cap, rfl, hcap, hcap', _⟩ := h
  clear ht
  go_enter Tryz.func5, Tryz.ntmps5
  go_wp2_with fail
  go_region_held3 (fun w' => w'.cell? ⟨w.heap.size, 0, none⟩ = some (.int .i64 kind) ∧ w'.cell? ⟨w.heap.size, 1, none⟩ = some (.int .i64 peer) ∧ w'.cell? ⟨w.heap.size, 2, none⟩ = some (.int .i64 source) ∧ w'.cell? ⟨w.heap.size, 3, none⟩ = some (.slice ao bs.length cap)) (first | (simp [*, go_sem]; done) | simp [*, go_sem, World.cell?_setCell_far])
    (first | (go_at_call 11; refine (itoaC _ (by assumption) (by assumption) _ (HT.out.keep (by repeat (first | with_reducible exact Below.refl _ _ | (with_reducible refine Below.alloc ?_ ?_ _; rotate_left; focus ((try simp) <;> omega)) | (with_reducible refine Below.setCell ?_ ?_ _; rotate_left; focus ((try simp) <;> omega)) | (with_reducible refine below_grow ?_ ?_; rotate_left; focus ((try simp) <;> omega)) | (with_reducible refine below_putB ?_ ?_; rotate_left; focus ((try simp) <;> omega)) | with_reducible refine Below.drew ?_ | with_reducible refine below_drewN ?_ | with_reducible assumption | (with_reducible refine below_step (by assumption) ?_ ?_; rotate_left; focus ((try simp) <;> omega)))))).mono ?_; rintro e w1 ⟨rfl, hb1⟩; have ha1 : After _ w1 := ⟨hb1⟩; obtain ⟨hc1, hf1⟩ := after hb1; have hz1 := hb1.size; try simp at hz1))
  obtain ⟨W, hW⟩ : ∃ W, W = w1 := ⟨_, rfl⟩
  have hB1 : RowKit.Below w.heap.size w w1 := (by repeat (first | with_reducible exact Below.refl _ _ | (with_reducible refine Below.alloc ?_ ?_ _; rotate_left; focus ((try simp) <;> omega)) | (with_reducible refine Below.setCell ?_ ?_ _; rotate_left; focus ((try simp) <;> omega)) | (with_reducible refine below_grow ?_ ?_; rotate_left; focus ((try simp) <;> omega)) | (with_reducible refine below_putB ?_ ?_; rotate_left; focus ((try simp) <;> omega)) | with_reducible refine Below.drew ?_ | with_reducible refine below_drewN ?_ | with_reducible assumption | (with_reducible refine below_step (by assumption) ?_ ?_; rotate_left; focus ((try simp) <;> omega))))
  have hc3 : w1.cell? ⟨w.heap.size, 3, none⟩ = some (.slice ao bs.length cap) := by simp [*, go_sem]
  have hz : w.heap.size < w1.heap.size := by have := hb1.size; simp at *; omega
  rw [← hW] at hB1 hc3 hz ⊢
  have HBW := Lib.hid (HB.out.keep hB1)
  have oB : Old w.heap.size W := ⟨hz⟩
  have HB1 := Lib.hid hB1
  have hzz := hB1.size
  have l1 := itoa_len p0 p1
  have l2 := itoa_len s0 s1
  have l3 := itoa_len k0 k1
  have hl := hexl_len bs
  clear hW hB1
  by_cases hb0 : bs = []
  · subst hb0
    have hlt : (([] : List UInt8).length : Int) = 0 := rfl
    obtain ⟨J, hJ⟩ : ∃ J, J = Lib.join [Lib.itoa peer, Lib.itoa source, Lib.itoa kind] [32] := ⟨_, rfl⟩
    have hj : J = Lib.itoa peer ++ [32] ++ Lib.itoa source ++ [32] ++ Lib.itoa kind := by rw [hJ]; simp [Lib.join, List.intercalate]
    have hjl : J.length ≤ 100 := by rw [hj]; simp; omega
    have hsz : ¬ (9223372036854775807 < (str J).size + 1) := by rw [str_size]; omega
    have hJC := fun (u : World) (h1 : ∀ (j : Nat) l, [Lib.itoa peer, Lib.itoa source, Lib.itoa kind][j]? = some l → u.cell? ⟨W.heap.size, 0 + j, none⟩ = some (.string (str l))) (h2 : W.heap.size < u.heap.size) =>
      joinC (b := W.heap.size) (o := 0) (c := 3) [Lib.itoa peer, Lib.itoa source, Lib.itoa kind] u h1 h2 (by simp) (by simp) (by rw [← hJ]; omega)
    rw [← hJ] at hJC
    have HJ := Lib.hid hj
    have HJC := Lib.hid hJC
    clear hj hJ hJC
    go_wp2_with (first | (go_at_call 13; refine (HJC.out _ (fun j l hl => by
        match j, hl with
        | 0, hl => simp at hl; subst hl; simp [go_sem]
        | 1, hl => simp at hl; subst hl; simp [go_sem]
        | 2, hl => simp at hl; subst hl; simp [go_sem]) (by simp)).mono ?_; rintro e w2 ⟨rfl, hb2⟩))
    refine ret_any ⟨_, by simp [results, Tryz.results5, go_sem]; rfl, ?_⟩ rfl
    refine gives_of ?_ ((HB1.out.trans (by exact (by repeat (first | with_reducible exact Below.refl _ _ | (with_reducible refine Below.alloc ?_ ?_ _; rotate_left; focus ((try simp) <;> omega)) | (with_reducible refine Below.setCell ?_ ?_ _; rotate_left; focus ((try simp) <;> omega)) | (with_reducible refine below_grow ?_ ?_; rotate_left; focus ((try simp) <;> omega)) | (with_reducible refine below_putB ?_ ?_; rotate_left; focus ((try simp) <;> omega)) | with_reducible refine Below.drew ?_ | with_reducible refine below_drewN ?_ | with_reducible assumption | (with_reducible refine below_step (by assumption) ?_ ?_; rotate_left; focus ((try simp) <;> omega)))) : RowKit.Below w.heap.size W w2)))
    rw [show ({ data := #[10] } : ByteArray) = str [10] from rfl, str_add, HJ.out]
    simp [lineT]
  · have hpos : 0 < bs.length := by
      rcases Nat.eq_zero_or_pos bs.length with h0 | h0
      · exact absurd (List.eq_nil_of_length_eq_zero h0) hb0
      · exact h0
    have hpi : (0 : Int) < (bs.length : Int) := by omega
    obtain ⟨i0, hi, hz0, hz1, hz2⟩ := info_parts info9
    have HI := And.intro (Lib.hid hi) (And.intro (Lib.hid hz0) (And.intro (Lib.hid hz1) (Lib.hid hz2)))
    clear hi hz0 hz1 hz2
    have hL3 : Line (W.alloc (.cells #[.string (str (Lib.itoa peer)), .string (str (Lib.itoa source)), .string (str (Lib.itoa kind))] 9)) W.heap.size 1 (.slice (some ⟨W.heap.size, 0, none⟩) 3 3) 3 [.string (str (Lib.itoa peer)), .string (str (Lib.itoa source)), .string (str (Lib.itoa kind))] := by
      refine ⟨rfl, .inr ⟨W.heap.size, 0, 3, rfl, Nat.le_refl _, by simp, Nat.le_refl _, by unfold maxLen; omega, fun j u hu => ?_, fun j hj => ?_⟩⟩
      · match j, hu with
        | 0, hu => simp at hu; subst hu; simp [go_sem]
        | 1, hu => simp at hu; subst hu; simp [go_sem]
        | 2, hu => simp at hu; subst hu; simp [go_sem]
      · have : j = 0 ∨ j = 1 ∨ j = 2 := by omega
        rcases this with rfl | rfl | rfl <;> simp [go_sem]
    have HL3 := Lib.hid hL3
    clear hL3
    obtain ⟨J, hJ⟩ : ∃ J, J = Lib.join [Lib.itoa peer, Lib.itoa source, Lib.itoa kind, hexl bs] [32] := ⟨_, rfl⟩
    have hj : J = Lib.itoa peer ++ [32] ++ Lib.itoa source ++ [32] ++ Lib.itoa kind ++ [32] ++ hexl bs := by rw [hJ]; simp [Lib.join, List.intercalate]
    have hjl : J.length ≤ 20000100 := by rw [hj]; simp; omega
    have hsz : ¬ (9223372036854775807 < (str J).size + 1) := by rw [str_size]; omega
    have hJC := fun (b o c : Nat) (u : World) (h1 : ∀ (j : Nat) l, [Lib.itoa peer, Lib.itoa source, Lib.itoa kind, hexl bs][j]? = some l → u.cell? ⟨b, o + j, none⟩ = some (.string (str l))) (h2 : b < u.heap.size) (h3 : 4 ≤ c) =>
      joinC (b := b) (o := o) (c := c) [Lib.itoa peer, Lib.itoa source, Lib.itoa kind, hexl bs] u h1 h2 (by simp) (by simpa using h3) (by rw [← hJ]; omega)
    rw [← hJ] at hJC
    have HJ := Lib.hid hj
    have HJC := Lib.hid hJC
    clear hj hJ hJC
    go_wp2_with (first
      | (go_at_call 12; refine (writeC (bs := bs) (HBW.out.keep (by repeat (first | with_reducible exact Below.refl _ _ | (with_reducible refine Below.alloc ?_ ?_ _; rotate_left; focus ((try simp) <;> omega)) | (with_reducible refine Below.setCell ?_ ?_ _; rotate_left; focus ((try simp) <;> omega)) | (with_reducible refine below_grow ?_ ?_; rotate_left; focus ((try simp) <;> omega)) | (with_reducible refine below_putB ?_ ?_; rotate_left; focus ((try simp) <;> omega)) | with_reducible refine Below.drew ?_ | with_reducible refine below_drewN ?_ | with_reducible assumption | (with_reducible refine below_step (by assumption) ?_ ?_; rotate_left; focus ((try simp) <;> omega))))) hn).mono ?_; rintro e w2 ⟨rfl, hb2⟩; have ha2 : After _ w2 := ⟨hb2⟩; obtain ⟨hc2, hf2⟩ := after hb2; have hz2 := hb2.size; try simp at hz2)
      | (at_builtin; refine wpList_append_line _ rfl _ _ 38 rfl W.heap.size 9 i0 _ 1 16 Tryz.underlying38 HI.1.out HI.2.1.out HI.2.2.1.out HI.2.2.2.out rfl (by decide) _ _ 3 1 [.string (str (Lib.itoa peer)), .string (str (Lib.itoa source)), .string (str (Lib.itoa kind))] [.string (str (hexl bs))] rfl rfl (HL3.out.keep (by repeat (first | with_reducible exact Below.refl _ _ | (with_reducible refine Below.alloc ?_ ?_ _; rotate_left; focus ((try simp) <;> omega)) | (with_reducible refine Below.setCell ?_ ?_ _; rotate_left; focus ((try simp) <;> omega)) | (with_reducible refine below_grow ?_ ?_; rotate_left; focus ((try simp) <;> omega)) | (with_reducible refine below_putB ?_ ?_; rotate_left; focus ((try simp) <;> omega)) | with_reducible refine Below.drew ?_ | with_reducible refine below_drewN ?_ | with_reducible assumption | (with_reducible refine below_step (by assumption) ?_ ?_; rotate_left; focus ((try simp) <;> omega))))) (Src.one rfl (by simp [Value.oneCell']) (blk_at (cs := #[.string (str (hexl bs))]) (t := 9) (by infer_instance))) (by unfold maxLen; omega) (by omega) (by simp; omega) _ rfl ?_; intro v5 w5 hown5 hgrow5 hat5))
    have hB1 := HB1.out
    have hB5 : RowKit.Below w.heap.size w w5 := RowKit.Below.grown (w := _) (by repeat (first | with_reducible exact Below.refl _ _ | (with_reducible refine Below.alloc ?_ ?_ _; rotate_left; focus ((try simp) <;> omega)) | (with_reducible refine Below.setCell ?_ ?_ _; rotate_left; focus ((try simp) <;> omega)) | (with_reducible refine below_grow ?_ ?_; rotate_left; focus ((try simp) <;> omega)) | (with_reducible refine below_putB ?_ ?_; rotate_left; focus ((try simp) <;> omega)) | with_reducible refine Below.drew ?_ | with_reducible refine below_drewN ?_ | with_reducible assumption | (with_reducible refine below_step (by assumption) ?_ ?_; rotate_left; focus ((try simp) <;> omega)))) hgrow5 (by simp; omega) (fun r hr => by have := (HL3.out.lt (q := r) hr).1; omega)
    obtain ⟨g5, o5, c5, rfl, hge, hlt5, hcap5, _⟩ := hown5.form (by omega)
    have HO := Lib.hid hown5
    have HB5 := Lib.hid hB5
    clear hgrow5 hat5 hown5 hB5 hB1
    refine (HJC.out g5 o5 c5 w5 (fun j l hl => HO.out.cell (j := j) (u := .string (str l)) (by
      match j, hl with
      | 0, hl => simp at hl; subst hl; rfl
      | 1, hl => simp at hl; subst hl; rfl
      | 2, hl => simp at hl; subst hl; rfl
      | 3, hl => simp at hl; subst hl; rfl)) hlt5 (by omega)).mono ?_
    rintro e w6 ⟨rfl, hb6⟩
    go_wp2_with fail
    refine ret_any ⟨_, by simp [results, Tryz.results5, go_sem]; rfl, ?_⟩ rfl
    refine gives_of ?_ (HB5.out.trans (hb6.mono HB5.out.size))
    rw [show ({ data := #[10] } : ByteArray) = str [10] from rfl, str_add, HJ.out]
    simp [lineT, hb0]
set_option maxRecDepth 100000 in
set_option maxHeartbeats 4000000 in
theorem lineR {kind peer source : Int} {v : Value} {bs : List UInt8} {w : World} (h : Bytes w v bs) (hn : bs.length ≤ 10000000)
    (k0 : -9223372036854775808 ≤ kind) (k1 : kind ≤ 9223372036854775807) (p0 : -9223372036854775808 ≤ peer) (p1 : peer ≤ 9223372036854775807) (s0 : -9223372036854775808 ≤ source) (s1 : source ≤ 9223372036854775807) :
    Calls Tryz.prog 6 #[.agg #[.int .i64 kind, .int .i64 peer, .int .i64 source, v]] w (Gives (.string (str (lineT kind peer source bs))) w) := by
  have HB := Lib.hid h
  obtain ⟨ao, cap, rfl, hcap, hcap', _⟩ := h
  have l1 := itoa_len p0 p1
  have l2 := itoa_len s0 s1
  have l3 := itoa_len k0 k1
  have hl := hexl_len bs
  have z1 := str_size (Lib.itoa peer)
  have z2 := str_size (Lib.itoa source)
  have z3 := str_size (Lib.itoa kind)
  have g1 : ¬ (9223372036854775807 < (str (Lib.itoa peer)).size + 1) := by omega
  have g2 : ¬ (9223372036854775807 < (str (Lib.itoa peer)).size + 1 + (str (Lib.itoa source)).size) := by omega
  have g3 : ¬ (9223372036854775807 < (str (Lib.itoa peer)).size + 1 + (str (Lib.itoa source)).size + 1) := by omega
  have g4 : ¬ (9223372036854775807 < (str (Lib.itoa peer)).size + 1 + (str (Lib.itoa source)).size + 1 + (str (Lib.itoa kind)).size) := by omega
  have Z := And.intro (Lib.hid z1) (And.intro (Lib.hid z2) (Lib.hid z3))
  clear z1 z2 z3
  go_enter Tryz.func6, Tryz.ntmps6
  go_wp2_with fail
  go_region_held3 (fun w' => w'.cell? ⟨w.heap.size, 0, none⟩ = some (.int .i64 kind) ∧ w'.cell? ⟨w.heap.size, 1, none⟩ = some (.int .i64 peer) ∧ w'.cell? ⟨w.heap.size, 2, none⟩ = some (.int .i64 source) ∧ w'.cell? ⟨w.heap.size, 3, none⟩ = some (.slice ao bs.length cap)) (first | (simp [*, go_sem]; done) | simp [*, go_sem, World.cell?_setCell_far])
    (first | (go_at_call 14; refine (decR _ (by assumption) (by assumption) _).mono ?_; rintro e w1 ⟨rfl, hb1⟩; have ha1 : After _ w1 := ⟨hb1⟩; obtain ⟨hc1, hf1⟩ := after hb1; have hz1 := hb1.size; try simp at hz1))
  obtain ⟨W, hW⟩ : ∃ W, W = w1 := ⟨_, rfl⟩
  have hB1 : RowKit.Below w.heap.size w w1 := (by repeat (first | with_reducible exact Below.refl _ _ | (with_reducible refine Below.alloc ?_ ?_ _; rotate_left; focus ((try simp) <;> omega)) | (with_reducible refine Below.setCell ?_ ?_ _; rotate_left; focus ((try simp) <;> omega)) | (with_reducible refine below_grow ?_ ?_; rotate_left; focus ((try simp) <;> omega)) | (with_reducible refine below_putB ?_ ?_; rotate_left; focus ((try simp) <;> omega)) | with_reducible refine Below.drew ?_ | with_reducible refine below_drewN ?_ | with_reducible assumption | (with_reducible refine below_step (by assumption) ?_ ?_; rotate_left; focus ((try simp) <;> omega))))
  have hc3 : w1.cell? ⟨w.heap.size, 3, none⟩ = some (.slice ao bs.length cap) := by simp [*, go_sem]
  have hz : w.heap.size < w1.heap.size := by have := hb1.size; simp at *; omega
  rw [← hW] at hB1 hc3 hz ⊢
  obtain ⟨S, hS⟩ : ∃ S, S = str (Lib.itoa peer) ++ { data := #[32] } ++ str (Lib.itoa source) ++ { data := #[32] } ++ str (Lib.itoa kind) := ⟨_, rfl⟩
  have hS2 : S = str (Lib.itoa peer ++ [32] ++ Lib.itoa source ++ [32] ++ Lib.itoa kind) := by
    rw [hS, show ({ data := #[32] } : ByteArray) = str [32] from rfl, str_add, str_add, str_add, str_add]
  have hSz : S.size ≤ 100 := by rw [hS2, str_size]; simp; omega
  rw [← hS]
  have HS := Lib.hid hS2
  have HBW := Lib.hid (HB.out.keep hB1)
  have oB : Old w.heap.size W := ⟨hz⟩
  have HB1 := Lib.hid hB1
  have hzz := hB1.size
  clear hW hB1 hS hS2 g1 g2 g3 g4
  by_cases hb0 : bs = []
  · subst hb0
    have hlt : (([] : List UInt8).length : Int) = 0 := rfl
    have hsz : ¬ (9223372036854775807 < S.size + 1) := by omega
    go_wp2_with fail
    refine ret_any ⟨_, by simp [results, Tryz.results6, go_sem]; rfl, ?_⟩ rfl
    refine gives_of ?_ HB1.out
    rw [show ({ data := #[10] } : ByteArray) = str [10] from rfl, HS.out, str_add]
    simp [lineT]
  · have hpos : 0 < bs.length := by
      rcases Nat.eq_zero_or_pos bs.length with h0 | h0
      · exact absurd (List.eq_nil_of_length_eq_zero h0) hb0
      · exact h0
    have hpi : (0 : Int) < (bs.length : Int) := by omega
    have hx := str_size (hexl bs)
    have f1 : ¬ (9223372036854775807 < 1 + (str (hexl bs)).size) := by omega
    have f2 : ¬ (9223372036854775807 < S.size + (1 + (str (hexl bs)).size)) := by omega
    have f3 : ¬ (9223372036854775807 < S.size + (1 + (str (hexl bs)).size) + 1) := by omega
    clear hx
    go_wp2_with (first
      | (go_at_call 15; refine (hexR (bs := bs) (HBW.out.keep (by repeat (first | with_reducible exact Below.refl _ _ | (with_reducible refine Below.alloc ?_ ?_ _; rotate_left; focus ((try simp) <;> omega)) | (with_reducible refine Below.setCell ?_ ?_ _; rotate_left; focus ((try simp) <;> omega)) | (with_reducible refine below_grow ?_ ?_; rotate_left; focus ((try simp) <;> omega)) | (with_reducible refine below_putB ?_ ?_; rotate_left; focus ((try simp) <;> omega)) | with_reducible refine Below.drew ?_ | with_reducible refine below_drewN ?_ | with_reducible assumption | (with_reducible refine below_step (by assumption) ?_ ?_; rotate_left; focus ((try simp) <;> omega))))) hn).mono ?_; rintro e w2 ⟨rfl, hb2⟩; have ha2 : After _ w2 := ⟨hb2⟩; obtain ⟨hc2, hf2⟩ := after hb2; have hz2 := hb2.size; try simp at hz2))
    refine ret_any ⟨_, by simp [results, Tryz.results6, go_sem]; rfl, ?_⟩ rfl
    refine gives_of ?_ (HB1.out.trans (hb2.mono HB1.out.size))
    rw [show ({ data := #[10] } : ByteArray) = str [10] from rfl, show ({ data := #[32] } : ByteArray) = str [32] from rfl, HS.out, str_add, str_add, str_add]
    simp [lineT, hb0]
end Go.Proofs.YtoipldpekiikjaaGreatDoor
