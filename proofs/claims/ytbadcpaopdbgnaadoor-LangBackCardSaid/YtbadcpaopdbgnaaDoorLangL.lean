/-
  The walk of the statement LangEdges.
-/
import Derived.Test.YtbadcpaopdbgnaaDoorLangK
namespace Go.Proofs.YtbadcpaopdbgnaaDoor.Lang
open Go.RowKit Go.Shelf
set_option linter.unusedVariables false
set_option linter.unusedSimpArgs false

def okIs (l : Ops) : Except Int Ops → Bool
  | .ok m => decide (m = l)
  | _ => false
theorem okIs_eq {l : Ops} {x : Except Int Ops} (h : okIs l x = true) : x = .ok l := by
  cases x with
  | error c => simp [okIs] at h
  | ok m => simp [okIs] at h; rw [h]
theorem parsed_wakes : parsed ⟨#[118, 32, 50, 32, 42]⟩ = .ok (.cons 4 0 .nil (.cons 1 2 .nil (.cons 7 0 .nil .nil))) := okIs_eq (by decide +kernel)

set_option maxRecDepth 100000 in
set_option maxHeartbeats 4000000 in
theorem wakes_calls (w : World) (hL : Laid w) : Calls Tryd.prog 13 #[] w fun e w' => e = .returned (.bool true) ∧ Below w.heap.size w w' := by
  have hp := (parse_calls ⟨#[118, 32, 50, 32, 42]⟩ w hL).mono (R' := fun e w' => ∃ g c, e = .returned (.tuple #[.slice (some ⟨g, 0, none⟩) 3 c, .int .i64 0]) ∧ w'.cell? ⟨g, 4, none⟩ = some (.int .i64 2) ∧ Below w.heap.size w w') fun e w' ⟨hb, _, ho⟩ => by
    obtain ⟨v, F, he, ⟨xs, F', -, h2, h3⟩, -⟩ := ho _ parsed_wakes
    obtain ⟨v1, y1, x1, Fb1, Fr1, rfl, -, -, -, h3⟩ := h3
    obtain ⟨v2, y2, x2, Fb2, Fr2, rfl, -, -, -, h3⟩ := h3
    obtain ⟨v3, y3, x3, Fb3, Fr3, rfl, -, -, -, h3⟩ := h3
    obtain ⟨g, c, rfl⟩ : ∃ g c, v = .slice (some ⟨g, 0, none⟩) 3 c := by
      rcases h2.2 with ⟨_, h⟩ | ⟨g, c, _, h, _⟩
      · simp [Ops.len] at h
      · exact ⟨g, c, h⟩
    exact ⟨g, c, he, own_cell (n := 3) h2 (j := 4) rfl, hb⟩
  have HP := Aside.mk hp
  clear hp
  go_enter Tryd.func13, Tryd.ntmps13
  go_wp2_with (first | (go_at_call 8; refine HP.out.mono ?_; rintro e w' ⟨g, c, rfl, hc, hb⟩; have HB := Aside.mk hb; clear hb) | (go_at_call 10; go_in))
  go_ret
  exact ⟨rfl, HB.out⟩

theorem below_drewN' {B : Nat} {w W : World} (h : Below B w W) (n : Nat) : Below B w (W.drewN n) := ⟨h.os, h.tape, h.output, h.size, h.block⟩
theorem num_calls (n : Int) (w : World) : Calls Tryd.prog 10 #[.int .i64 n] w fun e w' => e = .returned (.int .i64 n) ∧ w' = w := by
  go_enter Tryd.func10, Tryd.ntmps10
  go_wp2
  go_ret
  exact ⟨rfl, rfl⟩
theorem ba_app (a b : List UInt8) : (⟨a.toArray⟩ : ByteArray) ++ ⟨b.toArray⟩ = ⟨(a ++ b).toArray⟩ := by
  apply ByteArray.ext
  rw [ByteArray.data_append]
  simp
theorem reps_length (x : List UInt8) : ∀ n, (reps x n).length = n * x.length
  | 0 => by simp [reps]
  | n + 1 => by rw [reps, List.length_append, reps_length x n, Nat.succ_mul]
theorem size_arr (l : List UInt8) : (⟨l.toArray⟩ : ByteArray).size = l.length := by simp [ByteArray.size]
/-- A text that is so many of one. -/
structure Rep (s : ByteArray) (x : List UInt8) (n : Nat) : Prop where
  eq : s = ⟨(reps x n).toArray⟩
theorem Rep.size {s : ByteArray} {x : List UInt8} {n : Nat} (h : Rep s x n) : s.size = n * x.length := by rw [h.eq, size_arr, reps_length]
theorem Rep.next {s : ByteArray} {x : List UInt8} {n : Nat} (h : Rep s x n) : Rep (s ++ ⟨x.toArray⟩) x (n + 1) := ⟨by rw [h.eq, ba_app]; rfl⟩

theorem good_parse (i : Nat) (hi : i < 6) : ∃ l, parsed (goods[i]'hi) = .ok l := by
  have h := List.all_eq_true.mp goods_ok _ (List.getElem_mem (l := goods) hi)
  cases hp : parsed (goods[i]'hi) with
  | ok l => exact ⟨l, rfl⟩
  | error c => rw [hp] at h; simp [okB] at h
theorem bad_parse (i : Nat) (hi : i < 16) : parsed (bads[i]'hi) = .error (wants[i]'hi) := by
  have h := List.all_eq_true.mp bads_err (bads[i]'hi, wants[i]'hi) (by
    have : (bads.zip wants)[i]'(by rw [List.length_zip]; exact hi) = (bads[i]'hi, wants[i]'hi) := List.getElem_zip
    rw [← this]
    exact List.getElem_mem _)
  cases hp : parsed (bads[i]'hi) with
  | ok l => simp only [hp] at h; simp [errB] at h
  | error c => simp only [hp] at h; simp [errB] at h; rw [h]
theorem row_cells {w : World} {L : List ByteArray} {i : Nat} (hi : i < L.length) : (w.alloc (.cells (L.map Value.string).toArray 9)).cell? ⟨w.heap.size, i, none⟩ = some (.string (L[i]'hi)) := by
  simp [World.cell?, World.alloc, -World.alloc_eq, List.getElem?_map, hi]

theorem info5 : (Tryd.prog.info? 5).map (fun i => (i.zero, i.size, i.bytes)) = some (some (.int .u8 0), 1, 1) := by kernel_rfl
theorem made_at (j : Nat) (hj : j < 513) : (madeCells (Value.int .u8 0).cells (513 * 1)).toList[j]? = some (.int .u8 0) := by
  have h : ∀ j : Fin 513, (madeCells (Value.int .u8 0).cells (513 * 1)).toList[j.val]? = some (.int .u8 0) := by
    intro j
    simp [madeCells, Value.cells, Nat.mod_one]
  exact h ⟨j, hj⟩
theorem row_ints {w : World} {L : List Int} {i : Nat} (hi : i < L.length) : (w.alloc (.cells (L.map (Value.int .i64)).toArray 3)).cell? ⟨w.heap.size, i, none⟩ = some (.int .i64 (L[i]'hi)) := by
  simp [World.cell?, World.alloc, -World.alloc_eq, List.getElem?_map, hi]
theorem want_pos (i : Nat) (hi : i < 16) : wants[i]'hi = 7 ∨ wants[i]'hi = 2 ∨ wants[i]'hi = 6 := by
  have : ∀ i : Fin 16, wants[i.val]'i.isLt = 7 ∨ wants[i.val]'i.isLt = 2 ∨ wants[i.val]'i.isLt = 6 := by decide
  exact this ⟨i, hi⟩
theorem zeros_str : strOfNums (List.replicate 513 0) = ⟨(List.replicate 513 0).toArray⟩ := by
  unfold strOfNums
  rw [List.map_replicate]
  rfl

set_option maxRecDepth 100000 in
set_option maxHeartbeats 8000000 in
theorem edges_calls (w : World) (hL : Laid w) (A A2 : Option Addr) (n c n2 c2 : Nat) : Calls Tryd.prog 4 #[.agg #[.slice A n c, .slice A2 n2 c2]] w fun e w' => e = .returned (.bool true) ∧ Below w.heap.size w w' := by
  have HL := Aside.mk hL
  clear hL
  go_enter Tryd.func4, Tryd.ntmps4
  go_wp2
  have HBX := Aside.mk (heap_alloc_new w (.cells #[.slice A n c, .slice A2 n2 c2] 25))
  have HB0 := Aside.mk ((Below.refl _ w).alloc (Nat.le_refl _) (.cells #[.slice A n c, .slice A2 n2 c2] 25))
  obtain ⟨b0, hb0⟩ : ∃ b0, b0 = w.heap.size := ⟨_, rfl⟩
  rw [← hb0] at HBX ⊢
  clear hb0
  generalize w.alloc (.cells #[.slice A n c, .slice A2 n2 c2] 25) = W0 at HBX HB0 ⊢
  go_loopg [3, 6] 129 (fun kq v3 v6 w' => ∃ (i : Nat) (s3 : ByteArray), v6 = .int .i64 (i : Int) ∧ v3 = .string s3 ∧ w' = W0 ∧ Aside (Rep s3 [97, 32] i) ∧ Aside (i + kq = 129 ∧ i ≤ 128))
  case atStart => exact ⟨0, _, rfl, rfl, rfl, ⟨⟨rfl⟩⟩, ⟨by omega⟩⟩
  case round =>
    obtain ⟨i, s3, rfl, rfl, rfl, HR3, HI⟩ := hrel
    cases gk with
    | zero => have := HI.out; omega
    | succ k1 =>
      have hs3 : s3.size ≤ 256 := by have h := HR3.out.size; have := HI.out; simp only [List.length_cons, List.length_nil] at h; omega
      by_cases hi : i < 128
      · have hib := decide_eq_true (show (i : Int) < 128 by omega)
        have hib2 := decide_eq_true hi
        go_wp2
        go_roundg k1
        case measure => omega
        case rel => exact ⟨i + 1, _, by simp; done, rfl, rfl, ⟨HR3.out.next⟩, ⟨by have := HI.out; omega⟩⟩
      · have hib := decide_eq_false (show ¬ (i : Int) < 128 by omega)
        have hib2 := decide_eq_false hi
        have hi128 : i = 128 := by have := HI.out; omega
        subst hi128
        go_wp2
        clear hi hib hib2 HI
        go_loopg [4, 5, 7] 7 (fun kq v4 v5 v7 w' => ∃ (i : Nat) (s4 s5 : ByteArray), v7 = .int .i64 (i : Int) ∧ v4 = .string s4 ∧ v5 = .string s5 ∧ w' = wr ∧ Aside (Rep s4 [105, 102, 32, 91, 32] i) ∧ Aside (Rep s5 [93, 32] i) ∧ Aside (i + kq = 7 ∧ i ≤ 6))
        case atStart => exact ⟨0, _, _, rfl, rfl, rfl, rfl, ⟨⟨rfl⟩⟩, ⟨⟨rfl⟩⟩, ⟨by omega⟩⟩
        case round =>
          obtain ⟨i, s4, s5, rfl, rfl, rfl, rfl, HR4, HR5, HI⟩ := hrel
          cases gk with
          | zero => have := HI.out; omega
          | succ k1 =>
            have hs4 : s4.size ≤ 30 := by have h := HR4.out.size; have := HI.out; simp only [List.length_cons, List.length_nil] at h; omega
            have hs5 : s5.size ≤ 30 := by have h := HR5.out.size; have := HI.out; simp only [List.length_cons, List.length_nil] at h; omega
            by_cases hi : i < 6
            · have hib := decide_eq_true (show (i : Int) < 6 by omega)
              have hib2 := decide_eq_true hi
              go_wp2
              go_roundg k1
              case measure => omega
              case rel => exact ⟨i + 1, _, _, by simp; done, rfl, rfl, rfl, ⟨HR4.out.next⟩, ⟨HR5.out.next⟩, ⟨by have := HI.out; omega⟩⟩
            · have hib := decide_eq_false (show ¬ (i : Int) < 6 by omega)
              have hib2 := decide_eq_false hi
              have hi6 : i = 6 := by have := HI.out; omega
              subst hi6
              clear hi hib hib2 HI
              go_wp2
              have e2 : (#[Value.string ⟨#[]⟩, .string ⟨#[32]⟩, .string s3, .string (s4 ++ s5), .string ⟨#[57, 50, 50, 51, 51, 55, 50, 48, 51, 54, 56, 53, 52, 55, 55, 53, 56, 48, 55, 32, 45, 57, 50, 50, 51, 51, 55, 50, 48, 51, 54, 56, 53, 52, 55, 55, 53, 56, 48, 56]⟩, .string ⟨#[114, 101, 112, 32, 91, 32, 93]⟩] : Array Value) = (goods.map Value.string).toArray := by
                rw [HR3.out.eq, HR4.out.eq, HR5.out.eq, ba_app]
                rfl
              rw [e2]
              clear e2
              have HG := Aside.mk (fun i (hi : i < 6) => row_cells (w := wr) (L := goods) hi)
              have HB2 := Aside.mk (HB0.out.alloc (HB0.out.size) (.cells (goods.map Value.string).toArray 9))
              have HBX2 := Aside.mk ((heap_alloc_old wr (.cells (goods.map Value.string).toArray 9) (blk_lt' HBX.out)).trans HBX.out)
              have hgl : wr.heap.size < (wr.alloc (.cells (goods.map Value.string).toArray 9)).heap.size := by simp
              generalize wr.alloc (.cells (goods.map Value.string).toArray 9) = W2 at HG HB2 HBX2 hgl ⊢
              generalize wr.heap.size = g0 at HG hgl ⊢
              have HGL := Aside.mk hgl
              clear hgl
              go_loopg [9] 7 (fun kq v9 w' => ∃ (i : Nat), v9 = .int .i64 (i : Int) ∧ Aside (i + kq = 7 ∧ i ≤ 6) ∧ Aside (Below W2.heap.size W2 w'))
              case atStart => exact ⟨0, rfl, ⟨by omega⟩, ⟨Below.refl _ _⟩⟩
              case round =>
                obtain ⟨i, rfl, HI, HBW⟩ := hrel
                cases gk with
                | zero => have := HI.out; omega
                | succ k1 =>
                  by_cases hi : i < 6
                  · have hib := decide_eq_true (show (i : Int) < 6 by omega)
                    have hib2 := decide_eq_true hi
                    have p1 := eq_true (show 0 ≤ (i : Int) by omega)
                    have q1 := eq_true (show (i : Int) < 6 by omega)
                    obtain ⟨l, hl⟩ := good_parse i hi
                    have hx := (HBW.out.cell (p := ⟨g0, i, none⟩) HGL.out).trans (HG.out i hi)
                    have hpc := parse_calls (goods[i]'hi) _ (HL.out.below (HB2.out.trans (HBW.out.mono HB2.out.size)))
                    generalize goods[i]'hi = x at hl hx hpc
                    have HX := Aside.mk hl
                    have HPC := Aside.mk hpc
                    clear hl hpc
                    go_wp2_with (first | (go_at_call 8; refine HPC.out.mono ?_; rintro e w9 ⟨hb9, -, he⟩; obtain ⟨v, F, rfl, -, -⟩ := he l HX.out; have HB9 := Aside.mk hb9; clear hb9 he) | (go_at_call 10; go_in))
                    go_roundg k1
                    case measure => omega
                    case rel => exact ⟨i + 1, by simp; done, ⟨by have := HI.out; omega⟩, ⟨HBW.out.trans (HB9.out.mono HBW.out.size)⟩⟩
                  · have hib := decide_eq_false (show ¬ (i : Int) < 6 by omega)
                    have hib2 := decide_eq_false hi
                    have hi6 : i = 6 := by have := HI.out; omega
                    subst hi6
                    clear hi hib hib2 HI
                    have HB3 := Aside.mk (HB2.out.trans (HBW.out.mono HB2.out.size))
                    have HBX3 := Aside.mk ((HBW.out.block b0 (blk_lt' HBX2.out)).trans HBX2.out)
                    clear HG HB2 HBX2 HGL HBW
                    obtain ⟨i0, hi, hz0, hz1, hz2⟩ := info_parts info5
                    have HI0 := Aside.mk hi
                    obtain ⟨zs, hzs⟩ : ∃ zs : List Int, zs = List.replicate 513 0 := ⟨_, rfl⟩
                    have hzl : zs.length = 513 := by rw [hzs, List.length_replicate]
                    have hzd : ∀ j, j < 513 → zs.getD j 0 = 0 := fun j hj => by rw [hzs, List.getD_eq_getElem?_getD, List.getElem?_replicate, if_pos hj]; rfl
                    have HZS := Aside.mk hzs
                    have HZD := Aside.mk hzd
                    clear hzs hzd
                    have hbt : i0.bytes * 513 ≤ 281474976710656 := by omega
                    clear hi
                    go_upto_region 20 with (first | (at_make; refine wpList_make_full _ rfl _ _ 36 rfl wr.heap.size 5 i0 (.int .u8 0) 1 Tryd.underlying36 HI0.out hz0 hz1 .i64 .i64 513 513 513 rfl rfl rfl rfl hbt (by unfold maxLen; omega) (Nat.le_refl _) ?_; intro w8 hown hgrow; have hcv := run_convert_bytes_arg (P := Tryd.prog) w8 36 5 Tryd.underlying36 Tryd.underlying5 wr.heap.size 0 513 513 zs hzl (fun j hj => by rw [Nat.zero_add, own_cell (n := 513) hown (made_at j hj), HZD.out j hj]) 9 Tryd.underlying9; have HG8 := Aside.mk hgrow; clear hown hgrow))
                    have eb : (#[Value.string (s3 ++ ⟨#[97]⟩), .string (s4 ++ ⟨#[105, 102, 32, 91, 32, 93, 32]⟩ ++ s5), .string (strOfNums zs), .string ⟨#[98]⟩, .string ⟨#[48, 49]⟩, .string ⟨#[45, 48]⟩, .string ⟨#[43, 49]⟩, .string ⟨#[57, 50, 50, 51, 51, 55, 50, 48, 51, 54, 56, 53, 52, 55, 55, 53, 56, 48, 56]⟩, .string ⟨#[105, 102]⟩, .string ⟨#[105, 102, 32, 97, 32, 93]⟩, .string ⟨#[93]⟩, .string ⟨#[91]⟩, .string ⟨#[105, 102, 32, 91]⟩, .string ⟨#[114, 101, 112, 32, 91, 32, 97]⟩, .string ⟨#[65]⟩, .string ⟨#[49, 45]⟩] : Array Value) = (bads.map Value.string).toArray := by
                      rw [HR3.out.eq, HR4.out.eq, HR5.out.eq, HZS.out, zeros_str, ba_app, ba_app, ba_app]
                      rfl
                    have ew : (#[Value.int .i64 2, .int .i64 2, .int .i64 2, .int .i64 7, .int .i64 7, .int .i64 7, .int .i64 7, .int .i64 7, .int .i64 6, .int .i64 7, .int .i64 7, .int .i64 7, .int .i64 6, .int .i64 6, .int .i64 7, .int .i64 7] : Array Value) = (wants.map (Value.int .i64)).toArray := rfl
                    rw [eb, ew]
                    clear eb ew hcv hzl HZS HZD hbt hz0 hz1 hz2 HI0
                    have HB8 : Aside (Below w.heap.size w w8) := ⟨HB3.out.grown HG8.out HB3.out.size (fun k hk => by cases hk)⟩
                    have HBX8 := Aside.mk ((HG8.out.block b0 (blk_lt' HBX3.out) (by simp)).trans HBX3.out)
                    have HBC := Aside.mk (fun i (hi : i < 16) => row_cells (w := w8) (L := bads) hi)
                    have HB9 := Aside.mk (HB8.out.alloc HB8.out.size (.cells (bads.map Value.string).toArray 9))
                    have HBX9 := Aside.mk ((heap_alloc_old w8 (.cells (bads.map Value.string).toArray 9) (blk_lt' HBX8.out)).trans HBX8.out)
                    have e9 : w8.heap.size + 1 = (w8.alloc (.cells (bads.map Value.string).toArray 9)).heap.size := by simp
                    rw [e9]
                    have h89 : w8.heap.size < (w8.alloc (.cells (bads.map Value.string).toArray 9)).heap.size := by simp
                    clear e9
                    generalize w8.alloc (.cells (bads.map Value.string).toArray 9) = W9 at HBC HB9 HBX9 h89 ⊢
                    have HWC := Aside.mk (fun i (hi : i < 16) => row_ints (w := W9) (L := wants) hi)
                    have HBC2 := Aside.mk (fun i (hi : i < 16) => (World.cell?_of_block (a := ⟨w8.heap.size, i, none⟩) (heap_alloc_old W9 (.cells (wants.map (Value.int .i64)).toArray 3) h89)).trans (HBC.out i hi))
                    have HB10 := Aside.mk (HB9.out.alloc HB9.out.size (.cells (wants.map (Value.int .i64)).toArray 3))
                    have HBX10 := Aside.mk ((heap_alloc_old W9 (.cells (wants.map (Value.int .i64)).toArray 3) (blk_lt' HBX9.out)).trans HBX9.out)
                    have h10 : W9.heap.size < (W9.alloc (.cells (wants.map (Value.int .i64)).toArray 3)).heap.size := by simp
                    have h810 : w8.heap.size < (W9.alloc (.cells (wants.map (Value.int .i64)).toArray 3)).heap.size := by omega
                    generalize W9.alloc (.cells (wants.map (Value.int .i64)).toArray 3) = W10 at HWC HBC2 HB10 HBX10 h10 h810 ⊢
                    have H10 := Aside.mk h10
                    have H810 := Aside.mk h810
                    generalize w8.heap.size = g8 at HBC2 H810 ⊢
                    generalize W9.heap.size = g9 at HWC H10 ⊢
                    clear h10 h810 h89 HBC HB9 HBX9 HBX8 HB8 HG8 HB3 HBX3
                    go_wp2
                    go_loopg [14] 17 (fun kq v14 w' => ∃ (i : Nat), v14 = .int .i64 (i : Int) ∧ Aside (i + kq = 17 ∧ i ≤ 16) ∧ Aside (Below W10.heap.size W10 w'))
                    case atStart => exact ⟨0, rfl, ⟨by omega⟩, ⟨Below.refl _ _⟩⟩
                    case round =>
                      obtain ⟨i, rfl, HI, HBW⟩ := hrel
                      cases gk with
                      | zero => have := HI.out; omega
                      | succ k1 =>
                        by_cases hi : i < 16
                        · have hib := decide_eq_true (show (i : Int) < 16 by omega)
                          have hib2 := decide_eq_true hi
                          have p1 := eq_true (show 0 ≤ (i : Int) by omega)
                          have q1 := eq_true (show (i : Int) < 16 by omega)
                          have hx := (HBW.out.cell (p := ⟨g8, i, none⟩) H810.out).trans (HBC2.out i hi)
                          have hpc := parse_calls (bads[i]'hi) _ (HL.out.below (HB10.out.trans (HBW.out.mono HB10.out.size)))
                          have hl := bad_parse i hi
                          have hwp := want_pos i hi
                          generalize bads[i]'hi = x at hl hx hpc
                          have hyw : ∀ w9, Below wr.heap.size wr w9 → w9.cell? ⟨g9, i, none⟩ = some (.int .i64 (wants[i]'hi)) := fun w9 hb => (hb.cell (p := ⟨g9, i, none⟩) (Nat.lt_of_lt_of_le H10.out HBW.out.size)).trans ((HBW.out.cell (p := ⟨g9, i, none⟩) H10.out).trans (HWC.out i hi))
                          generalize wants[i]'hi = y at hl hyw hwp
                          have HX := Aside.mk hl
                          have HPC := Aside.mk hpc
                          have HY := Aside.mk hyw
                          clear hl hpc hyw hwp
                          have hyy : (y != y) = false := by simp
                          go_upto_region 24 with (first | (go_at_call 8; refine HPC.out.mono ?_; rintro e w9 ⟨hb9, he, -⟩; obtain rfl := he y HX.out; have hy := HY.out _ hb9; have HB9 := Aside.mk hb9; clear hb9 he))
                          go_quiet (first | (go_at_call 10; exact Calls.quiet_of_same (num_calls _ _)))
                          go_wp2
                          go_roundg k1
                          case measure => omega
                          case rel => exact ⟨i + 1, by simp; done, ⟨by have := HI.out; omega⟩, ⟨by repeat (first | exact HBW.out.trans (HB9.out.mono HBW.out.size) | refine below_drewN' ?_ _)⟩⟩
                        · have hib := decide_eq_false (show ¬ (i : Int) < 16 by omega)
                          have hib2 := decide_eq_false hi
                          have HBX11 := Aside.mk ((HBW.out.block b0 (blk_lt' HBX10.out)).trans HBX10.out)
                          have HB11 := Aside.mk (HB10.out.trans (HBW.out.mono HB10.out.size))
                          have hc0 := cell_of_row wr b0 0 _ 25 _ HBX11.out
                          have hn0 : decide (0 ≤ (n : Int)) = true := decide_eq_true (by omega)
                          go_wp2_with (first | (go_at_call 13; refine (wakes_calls _ (HL.out.below HB11.out)).mono ?_; rintro e w12 ⟨rfl, hb12⟩; have HB12 := Aside.mk hb12; clear hb12))
                          go_ret
                          exact ⟨rfl, HB11.out.trans (HB12.out.mono HB11.out.size)⟩
end Go.Proofs.YtbadcpaopdbgnaaDoor.Lang
