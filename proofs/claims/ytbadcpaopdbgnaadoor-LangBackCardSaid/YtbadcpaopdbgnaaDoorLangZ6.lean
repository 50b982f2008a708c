/-
  Walks: the words of ops, in the program.
-/
import Derived.Test.YtbadcpaopdbgnaaDoorLangZ4
namespace Go.Proofs.YtbadcpaopdbgnaaDoor.Lang
open Go.RowKit Go.Shelf
set_option linter.unusedVariables false
set_option linter.unusedSimpArgs false

/-- Where words come from that are put behind others. -/
def Src (w : World) (A : Option Addr) (n c : Nat) (ss : List ByteArray) : Prop :=
  n = ss.length ∧ ((A = none ∧ n = 0) ∨ ∃ ad, A = some ad ∧ ∀ j s, ss[j]? = some s → w.cell? (ad.add j) = some (.string s))
theorem run_words (w : World) (ty : TypeId) {B m : Nat} {v : Value} {xs : List Value} (hown : w.ownsRow B 9 1 v m xs) {A : Option Addr} {n c : Nat} {ss : List ByteArray} (hs : Src w A n c ss) (hm : m + n ≤ 1000000) (hB : B ≤ w.heap.size) :
    ∃ v' w', (Builtin.append_ #[22, 22] ty #[v, .slice A n c]).run Tryd.prog w = .ok v' w' ∧ w'.ownsRow B 9 1 v' (m + n) (xs ++ ss.map Value.string) ∧ Upd w w' (bl v) ∧ (v'.ownBlock = v.ownBlock ∨ ∃ g, v'.ownBlock = some g ∧ w.heap.size ≤ g) := by
  obtain ⟨i0, hi, hz0, hz1, hz2⟩ := info_parts info9
  obtain ⟨hn, h⟩ := hs
  rcases h with ⟨rfl, h0⟩ | ⟨ad, rfl, hc⟩
  · subst h0
    obtain rfl : ss = [] := List.length_eq_zero_iff.mp hn.symm
    refine ⟨v, w, ?_, by simpa using hown, Upd.refl _ _, .inl rfl⟩
    rcases hown.2 with ⟨rfl, rfl⟩ | ⟨g, cap, cur, rfl, _, _, hnc, _⟩
    · simp [Builtin.append_, run_underlying Tryd.underlying22, sizeOf, typeInfo, hi, Builtin.lenOf, Builtin.firstCells]
    · simp [Builtin.append_, run_underlying Tryd.underlying22, sizeOf, typeInfo, hi, Builtin.lenOf, Builtin.firstCells, hnc, storeCells]
  · subst hn
    obtain ⟨v', w', hrun, h2, h3, -, h5⟩ := run_append_own_at (P := Tryd.prog) w B 22 ty 9 i0 (.string ⟨#[]⟩) 1 16 Tryd.underlying22 hi hz0 hz1 hz2 rfl (by decide) v m xs hown ad ss.length c (ss.map Value.string) (by simp)
      (fun j u hu => by
        rw [List.getElem?_map] at hu
        obtain ⟨s, hs, rfl⟩ := Option.map_eq_some_iff.mp hu
        exact hc j s hs)
      (fun u hu => by obtain ⟨s, -, rfl⟩ := List.mem_map.mp hu; rfl) (by unfold maxLen; omega) (by omega) hB
    refine ⟨v', w', hrun, h2, Upd.of_grown h3 (fun g e => mem_bl.mpr e), ?_⟩
    rcases h5 with h | h
    · exact .inl h
    · exact .inr ⟨_, h, Nat.le_refl _⟩
/-- 'append(words, words..)' as a step of a region that draws its order. -/
theorem step_words {ops : Array Oper} {o : Oper} {a : Act} {w : World} {K : Act → World → Prop} {Q : Exit → Act → World → Prop} {E : Prop} (hgd : o.guard = none) (s x : Operand)
    (ho : o.op = .call { callee := .builtin .append, args := #[s, x], argTypes := #[22, 22] }) (v : Value) (B m : Nat) (xs : List Value) (hs : a.eval s = v) (hown : w.ownsRow B 9 1 v m xs) (A : Option Addr) (n c : Nat) (ss : List ByteArray) (hx : a.eval x = .slice A n c) (hsrc : Src w A n c ss)
    (hm : m + n ≤ 1000000) (hB : B ≤ w.heap.size)
    (h : ∀ v' w', w'.ownsRow B 9 1 v' (m + n) (xs ++ ss.map Value.string) → Upd w w' (bl v) → (v'.ownBlock = v.ownBlock ∨ ∃ g, v'.ownBlock = some g ∧ w.heap.size ≤ g) → K (a.put o.dst v') w') :
    if Region.wanted o (yielded ops a.tmps) = true then Oper.wp Tryd.prog o a w K Q else E := by
  have hw : Region.wanted o (yielded ops a.tmps) = true := by simp [Region.wanted, hgd]
  rw [if_pos hw]
  obtain ⟨v', w', hrun, h2, h3, h4⟩ := run_words w o.type hown hsrc hm hB
  unfold Oper.wp execOp
  simp only [ho, resolve, invoke, builtin, Sem.run_bind, Sem.run_pure, Result.andThen_ok, List.map_toArray, List.map_cons, List.map_nil, hs, hx, hrun]
  exact h v' w' h2 h3 h4
/-- In a plain one. -/
theorem list_words {ops : Array Oper} {rest : List Oper} {o : Oper} {a : Act} {w : World} {Q : Exit → Act → World → Prop} (hgd : o.guard = none) (s x : Operand)
    (ho : o.op = .call { callee := .builtin .append, args := #[s, x], argTypes := #[22, 22] }) (v : Value) (B m : Nat) (xs : List Value) (hs : a.eval s = v) (hown : w.ownsRow B 9 1 v m xs) (A : Option Addr) (n c : Nat) (ss : List ByteArray) (hx : a.eval x = .slice A n c) (hsrc : Src w A n c ss)
    (hm : m + n ≤ 1000000) (hB : B ≤ w.heap.size)
    (h : ∀ v' w', w'.ownsRow B 9 1 v' (m + n) (xs ++ ss.map Value.string) → Upd w w' (bl v) → (v'.ownBlock = v.ownBlock ∨ ∃ g, v'.ownBlock = some g ∧ w.heap.size ≤ g) → wpList Tryd.prog ops Q rest (a.put o.dst v') w') : wpList Tryd.prog ops Q (o :: rest) a w :=
  wpList_plain hgd fun K hK => by
    obtain ⟨v', w', hrun, h2, h3, h4⟩ := run_words w o.type hown hsrc hm hB
    unfold Oper.wp execOp
    simp only [ho, resolve, invoke, builtin, Sem.run_bind, Sem.run_pure, Result.andThen_ok, List.map_toArray, List.map_cons, List.map_nil, hs, hx, hrun]
    exact hK _ _ (h v' w' h2 h3 h4)
/-- New words, in a block of their own. -/
theorem src_new (W : World) (ss : List ByteArray) {w : World} (h : w.heap = W.heap.push (.cells (ss.map Value.string).toArray 9)) : Src w (some ⟨W.heap.size, 0, none⟩) ss.length ss.length ss := by
  refine ⟨rfl, .inr ⟨_, rfl, fun j s hs => ?_⟩⟩
  rw [addr_add]
  have hg : w.heap[W.heap.size]? = some (.cells (ss.map Value.string).toArray 9 (0, 0)) := by rw [h]; simp
  have := cell_of_row w W.heap.size j _ 9 _ hg
  rw [this]
  simp [hs]
theorem own_eq {w : World} {B e s n m : Nat} {v : Value} {xs ys : List Value} (h : w.ownsRow B e s v n xs) (hn : n = m) (hx : xs = ys) : w.ownsRow B e s v m ys := by
  subst hn hx
  exact h
theorem src_at (W : World) (g : Nat) (ss : List ByteArray) {w : World} (hg : W.heap.size = g) (h : w.heap = W.heap.push (.cells (ss.map Value.string).toArray 9)) : Src w (some ⟨g, 0, none⟩) ss.length ss.length ss := by
  subst hg
  exact src_new W ss h
theorem layW_len : ∀ l : Ops, (layW l).length ≤ 4 * l.size
  | .nil => by simp [layW]
  | .cons k n b r => by
    have h1 := layW_len b
    have h2 := layW_len r
    simp only [layW, Ops.size, List.length_append]
    split
    · simp; omega
    · split <;> simp <;> omega
theorem own_src {w : World} {B : Nat} {A : Option Addr} {c : Nat} {ss : List ByteArray} (h : w.ownsRow B 9 1 (.slice A ss.length c) ss.length (ss.map Value.string)) : Src w A ss.length c ss := by
  refine ⟨rfl, ?_⟩
  rcases h.2 with ⟨h', h0⟩ | ⟨g, cap, cur, h', -⟩
  · simp only [Value.slice.injEq] at h'
    exact .inl ⟨h'.1, h0⟩
  · simp only [Value.slice.injEq] at h'
    obtain ⟨rfl, -, rfl⟩ := h'
    refine .inr ⟨_, rfl, fun j s hs => ?_⟩
    rw [addr_add]
    exact own_cell h (by rw [List.getElem?_map, hs]; rfl)
theorem layW_cons (k n : Int) (b r : Ops) : layW (.cons k n b r) = (if k = 1 then [itoaB n] else if k = 28 ∨ k = 29 then wordOf k :: lb :: (layW b ++ [rb]) else [wordOf k]) ++ layW r := rfl
theorem Laid.drew {w : World} (h : Laid w) (q : Nat) : Laid (w.drewN q) := h.below (below_draw' (Below.refl _ w) q)
/-- What a walk of 'lay' leaves. -/
def LayP (w : World) (L : List ByteArray) (e : Ending) (w' : World) : Prop := (∃ A c, e = .returned (.slice A L.length c) ∧ w'.ownsRow w.heap.size 9 1 (.slice A L.length c) L.length (L.map Value.string)) ∧ Below w.heap.size w w'

set_option maxRecDepth 100000 in
set_option maxHeartbeats 16000000 in
theorem lay_calls : ∀ (N : Nat) (l : Ops) (v : Value) (d : Nat) (w : World), l.size < N → Rd w v l → okOps l d = true → nums l → l.size ≤ 128 → Laid w → Calls Tryd.prog 31 #[v] w (LayP w (layW l)) := by
  intro N
  induction N with
  | zero => intro l v d w hN; omega
  | succ N ih =>
    intro l v d w hN h1 hok hnu hsz hlaid
    have H1 := Aside.mk h1
    have IH := Aside.mk ih
    have HS := Aside.mk hN
    have HOK := Aside.mk hok
    have HNU := Aside.mk hnu
    have HSZ := Aside.mk hsz
    have HLD := Aside.mk hlaid
    have HLEN := Aside.mk (layW_len l)
    obtain ⟨A1, c1, rfl, hb1, hc1⟩ := h1
    clear hc1 ih hN hok hnu hsz hlaid
    obtain ⟨n, hn⟩ : ∃ n, n = l.len := ⟨_, rfl⟩
    rw [← hn] at H1 ⊢
    have HNL := Aside.mk hn
    have hnb : n ≤ 9223372036854775807 := by omega
    clear hn hb1
    obtain ⟨T, hT⟩ : ∃ T, T = layW l := ⟨_, rfl⟩
    rw [← hT] at HLEN ⊢
    have HT := Aside.mk hT
    clear hT
    go_enter Tryd.func31, Tryd.ntmps31
    go_wp2
    go_loopg [2, 7] (n + 1) (fun kq v2 v7 w' => ∃ (i : Nat) (ws : List ByteArray), v7 = .int .i64 (i : Int) ∧ Aside (i + kq = n + 1 ∧ i ≤ n) ∧ Aside (ws ++ layW (l.drop i) = T) ∧ Aside (okOps (l.drop i) d = true) ∧ Aside (w'.ownsRow w.heap.size 9 1 v2 ws.length (ws.map Value.string)) ∧ Aside (Below w.heap.size w w'))
    case atStart => exact ⟨0, [], rfl, ⟨by omega⟩, ⟨by rw [drop_zero, HT.out]; rfl⟩, ⟨by rw [drop_zero]; exact HOK.out⟩, ⟨World.ownsRow_nil _ _ _ _⟩, ⟨Below.refl _ _⟩⟩
    case round =>
      obtain ⟨i, ws, rfl, HI, HTX, HOKI, HOW, HB⟩ := hrel
      cases gk with
      | zero => have := HI.out; omega
      | succ k1 =>
        obtain ⟨Av, cv, hv2⟩ := own_slice HOW.out
        subst hv2
        have hwl : ws.length ≤ 512 := by
          have h1 := congrArg List.length HTX.out
          rw [List.length_append] at h1
          have h2 := HLEN.out
          have h3 := HSZ.out
          omega
        by_cases hi : i < n
        · have hib := decide_eq_true (show (i : Int) < (n : Int) by omega)
          have hib2 := decide_eq_true hi
          have p1 := eq_true (show 0 ≤ (i : Int) by omega)
          have q1 := eq_true (show (i : Int) < (n : Int) by omega)
          obtain ⟨⟨k, x, b⟩, hxa⟩ := Ops.get_lt (l := l) (i := i) (by have := HNL.out; omega)
          obtain ⟨ad1, _, ee, a0, a1, va, a2, hra⟩ := H1.out.get hxa
          cases ee
          obtain ⟨Ab, cb, rfl, hbb, -⟩ := id hra
          have hdr := Ops.drop_get hxa
          have HGS := Aside.mk (Ops.get_size hxa)
          have HNX := Aside.mk (nums_get HNU.out hxa)
          have hoki := HOKI.out
          have htx := HTX.out
          rw [hdr] at hoki htx
          rw [ok_cons] at hoki
          rw [layW_cons] at htx
          have HRB := Aside.mk hra
          have a0' := keep_below HB.out _ _ a0
          have a1' := keep_below HB.out _ _ a1
          have a2' := keep_below HB.out _ _ a2
          have HOK2 := Aside.mk hoki
          have HTX2 := Aside.mk htx
          clear hra hxa a0 a1 a2 hdr hoki htx
          simp only at a0' a1' a2' HRB hbb HOK2 HTX2 HNX HGS
          go_upto_region 5 with (fail)
          obtain ⟨g4, hg4⟩ : ∃ g4, g4 = wr.heap.size := ⟨_, rfl⟩
          have hblk := heap_alloc_new wr (.cells #[.int .i64 k, .int .i64 x, .slice Ab b.len cb] 62)
          have HB1 := Aside.mk (HB.out.alloc HB.out.size (.cells #[.int .i64 k, .int .i64 x, .slice Ab b.len cb] 62))
          have HO1 := Aside.mk (HOW.out.alloc (.cells #[.int .i64 k, .int .i64 x, .slice Ab b.len cb] 62))
          have HGN := Aside.mk (show g4 ∉ bl (.slice Av ws.length cv) from fun h => by have := (own_mem HOW.out g4 h).2; omega)
          rw [← hg4] at hblk ⊢
          clear hg4 a0' a1' a2'
          generalize wr.alloc (.cells #[.int .i64 k, .int .i64 x, .slice Ab b.len cb] 62) = W at hblk HB1 HO1 ⊢
          have HRB1 := Aside.mk (HRB.out.keep (keep_below HB1.out))
          have HLW := Aside.mk (HLD.out.below HB1.out)
          have HBK4 := Aside.mk hblk
          have hgl := blk_lt' hblk
          obtain ⟨x0, x1, x2, -, -, -⟩ := blk3 hblk
          clear hblk
          have hbw := HB1.out.size
          by_cases hk1 : k = 1
          · have f1 : (k == 1) = true := by simpa using hk1
            have HFI := Aside.mk (fint_calls x HNX.out.1.1 HNX.out.1.2 W HLW.out)
            have HT2 := Aside.mk (show (ws ++ [itoaB x]) ++ layW (l.drop (i + 1)) = T by
              have := HTX2.out
              rw [if_pos hk1] at this
              rw [← this, List.append_assoc])
            clear hk1
            go_wp2_with (first
              | (go_at_call 41; refine HFI.out.mono ?_; rintro e w5 ⟨rfl, hb⟩; have HB5 := Aside.mk (HB1.out.trans (hb.mono HB1.out.size)); have HO5 := Aside.mk (own_frame HO1.out (fun g hg => hb.block g (own_mem HO1.out g hg).2)); clear hb)
              | (at_builtin; go_must (refine list_words rfl _ _ rfl (.slice Av ws.length cv) w.heap.size ws.length (ws.map Value.string) rfl (HO5.out.alloc _) (some ⟨w5.heap.size, 0, none⟩) 1 1 [itoaB x] rfl (src_new w5 [itoaB x] rfl) (by omega) (by have := HB5.out.size; simp; omega) ?_; intro v6 w6 hown hu hloc; have HO6 := Aside.mk hown; have HB6 := Aside.mk ((HB5.out.alloc HB5.out.size (.cells #[.string (itoaB x)] 9)).trans (hu.below (by have := HB5.out.size; simp; omega) (fun g hg => (own_mem HO5.out g hg).1))); clear hown hu hloc)))
            go_roundg k1
            case measure => omega
            case rel => exact ⟨i + 1, ws ++ [itoaB x], by simp; done, ⟨by have := HI.out; omega⟩, HT2, ⟨HOK2.out.2.2⟩, ⟨by have := HO6.out; simpa using this⟩, HB6⟩
          · have f1 : (k == 1) = false := by simpa using hk1
            have HK1 := Aside.mk hk1
            clear hk1
            obtain ⟨j, hj, rfl⟩ : ∃ j : Nat, j < 29 ∧ k = 2 + (j : Int) := ⟨(k - 2).toNat, by have := HOK2.out.1; have := HK1.out; omega, by have := HOK2.out.1; have := HK1.out; omega⟩
            have hwk : IntKind.i64.wrap (2 + (j : Int) - 2) = (j : Int) := by
              rw [IntKind.wrap_i64]
              omega
            have p2 := eq_true (show 0 ≤ (j : Int) by omega)
            have q2 := eq_true (show (j : Int) < 29 by omega)
            obtain ⟨wd, hwd⟩ : ∃ wd, wd = wordOf (2 + (j : Int)) := ⟨_, rfl⟩
            have HWD := Aside.mk hwd
            have hwc2 : ∀ W : World, (W.alloc (.cells (wordsB.map Value.string).toArray 9)).cell? ⟨W.heap.size, j, none⟩ = some (.string wd) := fun W => by rw [hwd, wordOf_at j hj]; exact words_cell W j hj
            clear hwd
            have x0b : ∀ o, (W.alloc o).cell? ⟨g4, 0, none⟩ = some (.int .i64 (2 + (j : Int))) := fun o => keep_below ((Below.refl _ W).alloc (Nat.le_refl _) o) _ _ x0
            by_cases hkb : (2 + (j : Int)) = 28 ∨ (2 + (j : Int)) = 29
            · have e6 : decide ((2 + (j : Int)) = 28 ∨ (2 + (j : Int)) = 29) = true := decide_eq_true hkb
              have hbk := blockK_calls (2 + (j : Int))
              rw [e6] at hbk
              have HBK := Aside.mk hbk
              have HKB := Aside.mk hkb
              clear e6 hbk hkb
              have HT2 := Aside.mk (show (ws ++ (wd :: lb :: (layW b ++ [rb]))) ++ layW (l.drop (i + 1)) = T by
                have := HTX2.out
                rw [if_neg HK1.out, if_pos HKB.out] at this
                rw [← this, HWD.out, List.append_assoc])
              have hokb := HOK2.out.2.1 HKB.out
              have hbs : b.size ≤ 128 := by have := HGS.out; have := HSZ.out; omega
              have HC := Aside.mk (fun (W' : World) (h : Rd W' (.slice Ab b.len cb) b) (h' : Laid W') => IH.out b (.slice Ab b.len cb) (d + 1) W' (by have := HGS.out; have := HS.out; omega) h hokb.2 HNX.out.2 hbs h')
              have HLB := Aside.mk (show (layW b).length ≤ 512 by have := layW_len b; omega)
              clear hokb hbs
              have x2b : ∀ o, (W.alloc o).cell? ⟨g4, 2, none⟩ = some (.slice Ab b.len cb) := fun o => keep_below ((Below.refl _ W).alloc (Nat.le_refl _) o) _ _ x2
              have x2c : ∀ o o', ((W.alloc o).alloc o').cell? ⟨g4, 2, none⟩ = some (.slice Ab b.len cb) := fun o o' => keep_below ((Below.refl _ (W.alloc o)).alloc (Nat.le_refl _) o') _ _ (x2b o)
              go_upto_region 8 with (first | (go_at_call 35; refine (HBK.out _).mono ?_; rintro e w' ⟨rfl, hw'⟩; replace hw' := hw'.symm; subst hw'))
              go_region_law (first
                | (go_simp; go_at_call 42; refine (words_calls _ (by first | exact HLW.out | exact HLW.out.drew 1)).mono ?_; rintro e w' ⟨rfl, rfl⟩)
                | (refine step_words rfl (.tmp 34) (.tmp 41) rfl (.slice Av ws.length cv) w.heap.size ws.length (ws.map Value.string) rfl (own_frame HO1.out (fun g hg => (heap_alloc_old (W.alloc (.cells (wordsB.map Value.string).toArray 9)) (.cells #[.string wd, .string ⟨#[91]⟩] 9) (by have := (own_mem HO1.out g hg).2; simp; omega)).trans (heap_alloc_old W (.cells (wordsB.map Value.string).toArray 9) (own_mem HO1.out g hg).2))) (some ⟨W.heap.size + 1, 0, none⟩) 2 2 [wd, lb] (by rfl) (src_at (W.alloc (.cells (wordsB.map Value.string).toArray 9)) (W.heap.size + 1) [wd, lb] (by simp) rfl) (by omega) (by simp; omega) ?_
                   intro v6 w6 hown hu hloc
                   have HO6 := Aside.mk hown
                   have HB6 := Aside.mk (((HB1.out.alloc HB1.out.size (.cells (wordsB.map Value.string).toArray 9)).alloc (by simp; omega) (.cells #[.string wd, .string ⟨#[91]⟩] 9)).trans (Upd.below (S := bl (.slice Av ws.length cv)) ⟨hu.os, hu.tape, hu.output, hu.size, hu.block⟩ (by simp; omega) (fun g hg => (own_mem HO1.out g hg).1)))
                   have h64 : w6.heap[g4]? = W.heap[g4]? := (hu.block g4 (show g4 < ((W.alloc (.cells (wordsB.map Value.string).toArray 9)).alloc (.cells #[.string wd, .string ⟨#[91]⟩] 9)).heap.size by simp; omega) HGN.out).trans ((heap_alloc_old (W.alloc (.cells (wordsB.map Value.string).toArray 9)) (.cells #[.string wd, .string ⟨#[91]⟩] 9) (by simp; omega)).trans (heap_alloc_old W (.cells (wordsB.map Value.string).toArray 9) hgl))
                   have x2d := (World.cell?_of_block (a := ⟨g4, 2, none⟩) h64).trans x2
                   have HRD6 := Aside.mk (HRB.out.keep (keep_below HB6.out))
                   have HLD6 := Aside.mk (HLD.out.below HB6.out)
                   clear hown hu hloc h64)
                | (go_simp; go_at_call 31; refine (HC.out _ (by first | exact HRD6.out | exact HRD6.out.drewN _) (by first | exact HLD6.out | exact HLD6.out.drew _)).mono ?_; rintro e w7 ⟨⟨A7, c7, rfl, ho7⟩, hb7⟩; have HO7 := Aside.mk ho7; have HB7 := Aside.mk (show Below w6.heap.size w6 w7 from ⟨hb7.os, hb7.tape, hb7.output, hb7.size, hb7.block⟩); clear ho7 hb7)
                | (refine step_words rfl (.tmp 42) (.tmp 45) rfl v6 w.heap.size (ws.length + 2) (ws.map Value.string ++ [wd, lb].map Value.string) rfl (own_frame HO6.out (fun g hg => HB7.out.block g (own_mem HO6.out g hg).2)) A7 (layW b).length c7 (layW b) rfl (own_src HO7.out) (by have := HLB.out; omega) (Nat.le_trans HB6.out.size HB7.out.size) ?_
                   intro v8 w8 hown hu hloc
                   have HO8 := Aside.mk hown
                   have HU8 := Aside.mk hu
                   clear hown hu hloc))
              all_goals
                have HB8 := Aside.mk ((HB6.out.trans (HB7.out.mono HB6.out.size)).trans (HU8.out.below (Nat.le_trans HB6.out.size HB7.out.size) (fun g hg => (own_mem HO6.out g hg).1)))
                have hb8 := HB8.out.size
                have hlb := HLB.out
                go_wp2_with (first | (at_builtin; go_must (refine list_words rfl _ _ rfl v8 w.heap.size (ws.length + 2 + (layW b).length) (ws.map Value.string ++ [wd, lb].map Value.string ++ (layW b).map Value.string) rfl (own_frame HO8.out (fun g hg => heap_alloc_old w8 (.cells #[.string ⟨#[93]⟩] 9) (own_mem HO8.out g hg).2)) (some ⟨w8.heap.size, 0, none⟩) 1 1 [rb] rfl (src_at w8 w8.heap.size [rb] rfl rfl) (by omega) (Nat.le_trans hb8 (show w8.heap.size ≤ (w8.alloc (.cells #[.string ⟨#[93]⟩] 9)).heap.size by simp)) ?_; intro v9 w9 hown hu hloc; have HO9 := Aside.mk hown; have HB9 := Aside.mk ((HB8.out.alloc HB8.out.size (.cells #[.string ⟨#[93]⟩] 9)).trans (Upd.below (S := bl v8) ⟨hu.os, hu.tape, hu.output, hu.size, hu.block⟩ (by simp; omega) (fun g hg => (own_mem HO8.out g hg).1))); clear hown hu hloc)))
                go_roundg k1
                case measure => omega
                case rel => exact ⟨i + 1, ws ++ (wd :: lb :: (layW b ++ [rb])), by simp; done, ⟨by have := HI.out; omega⟩, HT2, ⟨HOK2.out.2.2⟩, ⟨own_eq HO9.out (by simp; omega) (by simp)⟩, HB9⟩
            · have e6 : decide ((2 + (j : Int)) = 28 ∨ (2 + (j : Int)) = 29) = false := decide_eq_false hkb
              have hbk := blockK_calls (2 + (j : Int))
              rw [e6] at hbk
              have HBK := Aside.mk hbk
              have HT2 := Aside.mk (show (ws ++ [wd]) ++ layW (l.drop (i + 1)) = T by
                have := HTX2.out
                rw [if_neg HK1.out, if_neg hkb] at this
                rw [← this, HWD.out, List.append_assoc])
              clear e6 hbk hkb
              go_upto_region 4 with (first | (go_at_call 35; refine (HBK.out _).mono ?_; rintro e w' ⟨rfl, hw'⟩; replace hw' := hw'.symm; subst hw'))
              go_region_law (first
                | (go_simp; go_at_call 42; refine (words_calls _ (by first | exact HLW.out | exact HLW.out.drew 1)).mono ?_; rintro e w' ⟨rfl, rfl⟩)
                | (refine step_words rfl (.tmp 11) (.tmp 18) rfl (.slice Av ws.length cv) w.heap.size ws.length (ws.map Value.string) rfl (own_frame HO1.out (fun g hg => (heap_alloc_old (W.alloc (.cells (wordsB.map Value.string).toArray 9)) (.cells #[.string wd] 9) (by have := (own_mem HO1.out g hg).2; simp; omega)).trans (heap_alloc_old W (.cells (wordsB.map Value.string).toArray 9) (own_mem HO1.out g hg).2))) (some ⟨W.heap.size + 1, 0, none⟩) 1 1 [wd] (by rfl) (src_at (W.alloc (.cells (wordsB.map Value.string).toArray 9)) (W.heap.size + 1) [wd] (by simp) rfl) (by omega) (by simp; omega) ?_
                   intro v6 w6 hown hu hloc
                   have HO6 := Aside.mk hown
                   have HU6 := Aside.mk hu
                   clear hown hu hloc))
              all_goals
                have HB6 := Aside.mk (((HB1.out.alloc HB1.out.size (.cells (wordsB.map Value.string).toArray 9)).alloc (by simp; omega) (.cells #[.string wd] 9)).trans (Upd.below (S := bl (.slice Av ws.length cv)) ⟨HU6.out.os, HU6.out.tape, HU6.out.output, HU6.out.size, HU6.out.block⟩ (by simp; omega) (fun g hg => (own_mem HO1.out g hg).1)))
                go_wp2
                go_roundg k1
                case measure => omega
                case rel => exact ⟨i + 1, ws ++ [wd], by simp; done, ⟨by have := HI.out; omega⟩, HT2, ⟨HOK2.out.2.2⟩, ⟨by have := HO6.out; simpa using this⟩, HB6⟩
        · have hib := decide_eq_false (show ¬ (i : Int) < (n : Int) by omega)
          have hib2 := decide_eq_false hi
          have HRE := Aside.mk (show ws = T by
            have := HTX.out
            rw [Ops.drop_all (by have := HNL.out; omega)] at this
            simpa [layW] using this)
          go_wp2
          go_ret
          exact ⟨⟨Av, cv, by rw [← HRE.out]; rfl, by rw [← HRE.out]; exact HOW.out⟩, HB.out⟩
end Go.Proofs.YtbadcpaopdbgnaaDoor.Lang
