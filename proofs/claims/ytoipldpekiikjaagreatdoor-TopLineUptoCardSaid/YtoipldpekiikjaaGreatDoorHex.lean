/-
  Bytes as digits of sixteen: digits.Write and the reference's Hex. The bytes are at most some millions.
-/
import Derived.Test.YtoipldpekiikjaaGreatDoorNum
import Derived.Test.YtoipldpekiikjaaGreatDoorRow
import Derived.Laws.OwnMore
import Derived.Laws.MakeOwn
import Derived.Laws.BytesArg
import Derived.Laws.IdiomStrings
import Derived.Deep.DeepCutAuto
import Derived.Deep.RegionHeld3
import Derived.Deep.RegionLaw
import Derived.Deep.DrawnRows
namespace Go.Proofs.YtoipldpekiikjaaGreatDoor
open Go.RowKit Go.Sort Go.BigFrame
set_option linter.unusedVariables false

/-- The slice v holds the bytes bs. -/
def Bytes (w : World) (v : Value) (bs : List UInt8) : Prop :=
  ∃ ao cap, v = .slice ao bs.length cap ∧ bs.length ≤ cap ∧ cap ≤ maxLen ∧ (0 < bs.length → ∃ g off, ao = some ⟨g, off, none⟩ ∧ g < w.heap.size ∧ ∀ j x, bs[j]? = some x → w.cell? ⟨g, off + j, none⟩ = some (.int .u8 (x.toNat : Int)))
theorem Bytes.keep {w w' : World} {v : Value} {bs : List UInt8} (h : Bytes w v bs) (hb : Below w.heap.size w w') : Bytes w' v bs := by
  obtain ⟨ao, cap, h1, h2, h3, h4⟩ := h
  refine ⟨ao, cap, h1, h2, h3, fun hn => ?_⟩
  obtain ⟨g, off, e, hg, hc⟩ := h4 hn
  exact ⟨g, off, e, Nat.lt_of_lt_of_le hg hb.size, fun j x hx => by rw [hb.cell (p := ⟨g, off + j, none⟩) hg]; exact hc j x hx⟩
/-- A digit of sixteen. -/
def hexd (k : Nat) : UInt8 := if k < 10 then UInt8.ofNat (48 + k) else UInt8.ofNat (87 + k)
def hexb (x : UInt8) : List UInt8 := [hexd (x.toNat / 16), hexd (x.toNat % 16)]
def hexl (bs : List UInt8) : List UInt8 := bs.flatMap hexb
theorem info5 : (Tryz.prog.info? 5).map (fun i => (i.zero, i.size, i.bytes)) = some (some (.int .u8 0), 1, 1) := by kernel_rfl
theorem hexl_len (bs : List UInt8) : (hexl bs).length = 2 * bs.length := by
  induction bs with
  | nil => rfl
  | cons x r ih => unfold hexl at *; rw [List.flatMap_cons, List.length_append, ih]; simp [hexb]; omega
theorem hexl_snoc (a : List UInt8) (x : UInt8) : hexl (a ++ [x]) = hexl a ++ [hexd (x.toNat / 16)] ++ [hexd (x.toNat % 16)] := by simp [hexl, hexb]
theorem hex_at (k : Nat) (hk : k < 16) : (({ data := #[48, 49, 50, 51, 52, 53, 54, 55, 56, 57, 97, 98, 99, 100, 101, 102] } : ByteArray).data[k]?) = some (hexd k) := by
  have : ∀ j : Fin 16, (({ data := #[48, 49, 50, 51, 52, 53, 54, 55, 56, 57, 97, 98, 99, 100, 101, 102] } : ByteArray).data[j.val]?) = some (hexd j.val) := by decide
  exact this ⟨k, hk⟩
theorem lit_at (q : Nat) (hq : q < 16) (h : q < ({ data := #[48, 49, 50, 51, 52, 53, 54, 55, 56, 57, 97, 98, 99, 100, 101, 102] } : ByteArray).size) : ({ data := #[48, 49, 50, 51, 52, 53, 54, 55, 56, 57, 97, 98, 99, 100, 101, 102] } : ByteArray)[q] = hexd q := by
  have : ∀ j : Fin 16, ({ data := #[48, 49, 50, 51, 52, 53, 54, 55, 56, 57, 97, 98, 99, 100, 101, 102] } : ByteArray)[j.val]'(by exact j.isLt) = hexd j.val := by decide
  exact this ⟨q, hq⟩
theorem byteCells_snoc (l : List UInt8) (x : UInt8) : Lib.byteCells (l ++ [x]) = Lib.byteCells l ++ [.int .u8 (x.toNat : Int)] := by simp [Lib.byteCells]
theorem byteCells_len (l : List UInt8) : (Lib.byteCells l).length = l.length := by simp [Lib.byteCells]
set_option maxRecDepth 100000 in
set_option maxHeartbeats 4000000 in
/-- digits.Write. -/
theorem writeC {v : Value} {bs : List UInt8} {w : World} (h : Bytes w v bs) (hn : bs.length ≤ 10000000) : Calls Tryz.prog 12 #[v] w (Gives (.string (str (hexl bs))) w) := by
  have HB := Lib.hid h
  obtain ⟨ao, cap, rfl, hcap, hcap', _⟩ := h
  unfold maxLen at hcap'

  have H0 := Lib.fresh_isBuilder 59 5 w
  go_enter Tryz.func12, Tryz.ntmps12
  go_wp2
  go_loopw [8] (fun s wr => ∃ k : Nat, k ≤ bs.length ∧ s = .int .i64 k ∧ Lib.IsBuilder 59 5 w.heap.size w.heap.size (Lib.byteCells (hexl (bs.take k))) wr ∧ Below w.heap.size w wr) (fun i _ => bs.length - (intOf i).toNat)
  case atStart => exact ⟨0, Nat.zero_le _, rfl, by simpa [hexl, Lib.byteCells] using H0, (by repeat (first | with_reducible exact Below.refl _ _ | (with_reducible refine Below.alloc ?_ ?_ _; rotate_left; focus ((try simp) <;> omega)) | (with_reducible refine Below.setCell ?_ ?_ _; rotate_left; focus ((try simp) <;> omega)) | (with_reducible refine below_grow ?_ ?_; rotate_left; focus ((try simp) <;> omega)) | (with_reducible refine below_putB ?_ ?_; rotate_left; focus ((try simp) <;> omega)) | with_reducible refine Below.drew ?_ | with_reducible refine below_drewN ?_ | with_reducible assumption | (with_reducible refine below_step (by assumption) ?_ ?_; rotate_left; focus ((try simp) <;> omega))))⟩
  case round =>
    obtain ⟨k, hk, rfl, hI, hbel⟩ := hrel
    have hbs := hbel.size
    by_cases hlt : k < bs.length
    · obtain ⟨ao', cap', e1, _, _, hcell⟩ := HB.out
      simp only [Value.slice.injEq, true_and] at e1
      obtain ⟨rfl, rfl⟩ := e1
      obtain ⟨g, off, rfl, hg, hc⟩ := hcell (by omega)
      have hx : bs[k]? = some bs[k] := List.getElem?_eq_getElem hlt
      have hck := (hbel.cell (p := ⟨g, off + k, none⟩) hg).trans (hc k _ hx)
      have htk : bs.take (k + 1) = bs.take k ++ [bs[k]] := by rw [List.take_succ_eq_append_getElem hlt]
      generalize bs[k] = x at hck hx htk
      have hxl : x.toNat < 256 := x.toNat_lt
      clear hc
      have i3 : (k : Int) < (bs.length : Int) := by omega
      have i4 : (0 : Int) ≤ (k : Int) := by omega
      have hl1 : (hexl (bs.take k)).length = 2 * k := by rw [hexl_len, List.length_take]; omega
      go_wp2_with (first
        | (go_at_call 26; refine (Tryz.Builder_WriteByte w.heap.size w.heap.size _ _ _ (.inr hI1) (by rw [byteCells_len, List.length_append, hl1]; simp; omega) (by have := hb1.size; omega)).mono ?_; rintro e w2 ⟨rfl, hI2, hb2⟩; rw [lit_at _ (by omega), ← byteCells_snoc] at hI2)
        | (go_at_call 26; refine (Tryz.Builder_WriteByte w.heap.size w.heap.size _ _ _ hI (by rw [byteCells_len, hl1]; omega) (by omega)).mono ?_; rintro e w1 ⟨rfl, hI1, hb1⟩; rw [lit_at _ (by omega), ← byteCells_snoc] at hI1))
      go_roundw
      case rel => exact ⟨k + 1, by omega, by simp, .inr (by rw [htk, hexl_snoc]; exact hI2), hbel.trans (hb1.trans hb2)⟩
      case measure => first | (simp [intOf]; done) | (simp [intOf]; omega)
    · obtain rfl : k = bs.length := by omega
      go_wp2_with (go_at_call 27; refine (Tryz.Builder_String_any w.heap.size w.heap.size _ _ hI (by omega)).mono ?_; rintro e w1 ⟨rfl, hb1⟩)
      refine ret_any ⟨_, by simp [results, Tryz.results12, go_sem]; rfl, ?_⟩ rfl
      exact gives_of (by first | rfl | (rw [List.take_length]; rfl)) (hbel.trans hb1)
theorem Src.two {w : World} {b c : Nat} {u0 u1 : Value} {t : TypeId} (h : BlkIs w b #[u0, u1] t) (o0 : u0.oneCell' = true) (o1 : u1.oneCell' = true) : Src w 1 (.slice (some ⟨b, 0, none⟩) 2 c) 2 [u0, u1] := by
  refine ⟨rfl, ?_, .inr ⟨_, c, rfl, fun j u hu => ?_⟩⟩
  · intro u hu
    simp only [List.mem_cons, List.not_mem_nil, or_false] at hu
    rcases hu with rfl | rfl
    · exact o0
    · exact o1
  · rw [Addr.add_lit, Nat.zero_add, cell_blk (w := w) (b := b)]
    match j, hu with
    | 0, hu => simpa using hu
    | 1, hu => simpa using hu
set_option maxRecDepth 100000 in
set_option maxHeartbeats 4000000 in
/-- The reference's Hex. -/
theorem hexR {v : Value} {bs : List UInt8} {w : World} (h : Bytes w v bs) (hn : bs.length ≤ 10000000) : Calls Tryz.prog 15 #[v] w (Gives (.string (str (hexl bs))) w) := by
  have HB := Lib.hid h
  obtain ⟨ao, cap, rfl, hcap, hcap', _⟩ := h
  unfold maxLen at hcap'
  obtain ⟨i0, hi, hz0, hz1, hz2⟩ := info_parts info5
  have hmk : ∀ u : World, (Instr.makeSlice 22 (.int .i64 0) (.int .i64 (2 * (bs.length : Int)))).run Tryz.prog u =
      .ok (.slice (some ⟨u.heap.size, 0, none⟩) 0 (2 * bs.length)) (u.alloc (.cells (madeCells #[.int .u8 0] (2 * bs.length)) 5)) := fun u => by
    have h := run_make (P := Tryz.prog) u 22 5 i0 (.int .u8 0) Tryz.underlying22 hi hz0 .i64 .i64 0 (2 * (bs.length : Int)) (by omega) (by omega) (by rw [hz2]; omega) (by omega)
    have e : (2 * (bs.length : Int)).toNat = 2 * bs.length := by omega
    rw [e] at h
    simpa [hz1, Value.cells] using h
  have HI := And.intro (Lib.hid hi) (And.intro (Lib.hid hz0) (And.intro (Lib.hid hz1) (Lib.hid hz2)))
  clear hi hz0 hz1 hz2
  have hwr : IntKind.i64.wrap (2 * (bs.length : Int)) = 2 * (bs.length : Int) := by rw [IntKind.wrap_i64]; omega
  go_enter Tryz.func15, Tryz.ntmps15
  go_wp2
  have hL0 : Line (w.alloc (.cells (madeCells #[.int .u8 0] (2 * bs.length)) 5)) w.heap.size 1 (.slice (some ⟨w.heap.size, 0, none⟩) 0 (2 * bs.length)) 0 [] := by
    have hb : (w.alloc (.cells (madeCells #[.int .u8 0] (2 * bs.length)) 5)).heap[w.heap.size]? = some (.cells (madeCells #[.int .u8 0] (2 * bs.length)) 5 (0, 0)) := (MapKept.heap_alloc w _).1
    refine ⟨rfl, .inr ⟨w.heap.size, 0, 2 * bs.length, rfl, Nat.le_refl _, by simp, Nat.zero_le _, by unfold maxLen; omega, by simp, fun j hj => ⟨?_, ?_⟩⟩⟩
    · simp only [World.cell?, hb, Nat.zero_add, Option.isSome_none, Bool.false_eq_true, if_false]
      rw [Array.getElem?_eq_getElem (by rw [size_madeCells]; omega)]; rfl
    · simp only [World.frozen?, hb]; simp
  go_loopw [3, 12] (fun s3 s12 wr => ∃ k : Nat, k ≤ bs.length ∧ s12 = .int .i64 k ∧ Line wr w.heap.size 1 s3 (2 * k) (Lib.byteCells (hexl (bs.take k))) ∧ Below w.heap.size w wr) (fun _ i _ => bs.length - (intOf i).toNat)
  case atStart => exact ⟨0, Nat.zero_le _, rfl, by simpa [hexl, Lib.byteCells] using hL0, (by repeat (first | with_reducible exact Below.refl _ _ | (with_reducible refine Below.alloc ?_ ?_ _; rotate_left; focus ((try simp) <;> omega)) | (with_reducible refine Below.setCell ?_ ?_ _; rotate_left; focus ((try simp) <;> omega)) | (with_reducible refine below_grow ?_ ?_; rotate_left; focus ((try simp) <;> omega)) | (with_reducible refine below_putB ?_ ?_; rotate_left; focus ((try simp) <;> omega)) | with_reducible refine Below.drew ?_ | with_reducible refine below_drewN ?_ | with_reducible assumption | (with_reducible refine below_step (by assumption) ?_ ?_; rotate_left; focus ((try simp) <;> omega))))⟩
  case round =>
    obtain ⟨k, hk, rfl, hL, hbel⟩ := hrel
    have hbs := hbel.size
    by_cases hlt : k < bs.length
    · obtain ⟨ao', cap', e1, _, _, hcell⟩ := HB.out
      simp only [Value.slice.injEq, true_and] at e1
      obtain ⟨rfl, rfl⟩ := e1
      obtain ⟨g, off, rfl, hg, hc⟩ := hcell (by omega)
      have hx : bs[k]? = some bs[k] := List.getElem?_eq_getElem hlt
      have hck := (hbel.cell (p := ⟨g, off + k, none⟩) hg).trans (hc k _ hx)
      have htk : bs.take (k + 1) = bs.take k ++ [bs[k]] := by rw [List.take_succ_eq_append_getElem hlt]
      generalize bs[k] = x at hck hx htk
      have hxl : x.toNat < 256 := x.toNat_lt
      clear hc
      have i3 : (k : Int) < (bs.length : Int) := by omega
      have i4 : (0 : Int) ≤ (k : Int) := by omega
      have HL := Lib.hid hL
      clear hL
      have q1 : IntKind.u8.wrap ((x.toNat : Int) / 16) = (x.toNat : Int) / 16 := by rw [IntKind.wrap_u8]; omega
      have q2 : ((x.toNat : Int)).tmod 16 = (x.toNat : Int) % 16 := by rw [Int.tmod_eq_emod_of_nonneg (by omega)]
      have q3 : (x.toNat : Int) / 16 < 16 := by omega
      have q4 : (x.toNat : Int) % 16 < 16 := by omega
      have q5 : (0 : Int) ≤ (x.toNat : Int) / 16 := by omega
      have q6 : (0 : Int) ≤ (x.toNat : Int) % 16 := by omega
      go_wp2_with fail
      go_region_law ((refine step_append_line _ (by rfl) _ _ 22 (by rfl) w.heap.size 5 i0 _ 1 1 Tryz.underlying22 HI.1.out HI.2.1.out HI.2.2.1.out HI.2.2.2.out rfl (by decide) u3 _ (2 * k) 2 (Lib.byteCells (hexl (bs.take k))) _ (by rfl) (by rfl) (HL.out.keep (by repeat (first | with_reducible exact Below.refl _ _ | (with_reducible refine Below.alloc ?_ ?_ _; rotate_left; focus ((try simp) <;> omega)) | (with_reducible refine Below.setCell ?_ ?_ _; rotate_left; focus ((try simp) <;> omega)) | (with_reducible refine below_grow ?_ ?_; rotate_left; focus ((try simp) <;> omega)) | (with_reducible refine below_putB ?_ ?_; rotate_left; focus ((try simp) <;> omega)) | with_reducible refine Below.drew ?_ | with_reducible refine below_drewN ?_ | with_reducible assumption | (with_reducible refine below_step (by assumption) ?_ ?_; rotate_left; focus ((try simp) <;> omega))))) (Src.two (t := 5) (by infer_instance) rfl rfl) (by unfold maxLen; omega) (by omega) (by first | omega | (simp; omega)) _ rfl ?_; intro v5 w5 hown5 hgrow5 hat5))
      all_goals
        have hB5 : RowKit.Below w.heap.size w w5 := RowKit.Below.grown (w := _) (by repeat (first | with_reducible exact Below.refl _ _ | (with_reducible refine Below.alloc ?_ ?_ _; rotate_left; focus ((try simp) <;> omega)) | (with_reducible refine Below.setCell ?_ ?_ _; rotate_left; focus ((try simp) <;> omega)) | (with_reducible refine below_grow ?_ ?_; rotate_left; focus ((try simp) <;> omega)) | (with_reducible refine below_putB ?_ ?_; rotate_left; focus ((try simp) <;> omega)) | with_reducible refine Below.drew ?_ | with_reducible refine below_drewN ?_ | with_reducible assumption | (with_reducible refine below_step (by assumption) ?_ ?_; rotate_left; focus ((try simp) <;> omega)))) hgrow5 (by simp; omega) (fun r hr => (HL.out.lt hr).1)
        have e1 : ((x.toNat : Int) / 16).toNat = x.toNat / 16 := by omega
        have e2 : ((x.toNat : Int) % 16).toNat = x.toNat % 16 := by omega
        rw [lit_at _ (by omega), lit_at _ (by omega), e1, e2] at hown5
        have HO := Lib.hid hown5
        clear hown5 hgrow5 hat5
        go_wp2_with fail
        go_roundw
        case rel => exact ⟨k + 1, by omega, by simp, by have h := HO.out; rw [htk, hexl_snoc, byteCells_snoc, byteCells_snoc, List.append_assoc]; exact h, hB5⟩
        case measure => first | (simp [intOf]; done) | (simp [intOf]; omega)
    · obtain rfl : k = bs.length := by omega
      have hlen := hexl_len bs
      have hcv : (convert 22 9 u3).run Tryz.prog wr = .ok (.string (str (hexl bs))) wr := by
        rw [List.take_length] at hL
        rcases hL.2 with ⟨rfl, h0⟩ | ⟨g, off, cap, rfl, _, _, _, _, hc, _⟩
        · have : hexl bs = [] := List.eq_nil_of_length_eq_zero (by omega)
          rw [this]
          exact run_convert_bytes_nil wr 22 5 Tryz.underlying22 Tryz.underlying5 0 0 9 Tryz.underlying9
        · have := run_convert_bytes_back (P := Tryz.prog) wr 22 9 5 ⟨g, off, none⟩ cap (hexl bs) Tryz.underlying22 Tryz.underlying5 Tryz.underlying9 (fun j hj => by
            rw [Addr.add_lit]
            refine hc j _ ?_
            unfold Lib.byteCells
            rw [List.getElem?_map, List.getElem?_eq_getElem hj]
            rfl)
          rw [hlen] at this
          exact this
      clear hL
      go_wp2_with fail
      refine ret_any ⟨_, by simp [results, Tryz.results15, go_sem]; rfl, ?_⟩ rfl
      exact gives_of rfl hbel
end Go.Proofs.YtoipldpekiikjaaGreatDoor
