/-
  The document's reader of expressions: the parts of a stretch.
-/
import Derived.Test.YtijpdbjcmnpobaaDoorEx4
namespace Go.Proofs.YtijpdbjcmnpobaaDoor
set_option linter.unusedSimpArgs false
set_option linter.unusedVariables false
set_option maxRecDepth 100000
set_option maxHeartbeats 4000000
open Go.RowKit

@[reducible] def pt2O (g : Nat) (l : List Pt) : HObj := ⟨g, l.length, 5, 109, 0, ptsF l⟩
@[reducible] def BdP (o : List Pt) : HEnd → List (Nat × HObj) → Nat → Prop := RetP (fun (_ : Nat) _ => True) (fun g' => .os 9003 g' 0 o.length) (fun g' => [(9003, pt2O g' o)])
@[reducible] def BdC (l : List Sg) (p q : Nat) (t : T) : Prop := ∀ c g (out : List Pt), out.length ≤ 2 * p → HFun Tryd.prog 65 c [.os 9003 g 0 out.length, sgsV l, intV p, intV q] [(9003, pt2O g out)] (BdP (out ++ T.flat out.length t))
@[reducible] def BdN (l : List Sg) (p q : Nat) (t : T) : Prop := ∀ c, HFun Tryd.prog 65 c [.imm (.slice none 0 0), sgsV l, intV p, intV q] [] (BdP (([] : List Pt) ++ T.flat 0 t))
theorem kz_os {kp sh : List (Nat × HObj)} {id g lo n n' : Nat} {o : HObj} (h : hget kp id = some o) (hg : o.g = g) (hn : n = n') : Kz kp sh (.os id g lo n) (.os id g lo n') := by subst hn; exact .os _ _ _ _ _ h hg
theorem okz_snoc {kp sh : List (Nat × HObj)} {o o' : List Pt} {x : Pt} {g n ty : Nat} {f : Nat → Nat → HV} (hn : n = o.length) (ho : o ++ [x] = o') (h : ∀ j, j < 5 → Fz sh (f 0 j) (ptF x j)) : OKz kp sh ⟨g, n + 1, 5, ty, 0, cat n (ptsF o) f⟩ ⟨g, o'.length, 5, ty, 0, ptsF o'⟩ := by
  subst hn; subst ho
  refine ⟨rfl, by simp, rfl, rfl, Nat.le_refl _, fun i j hi hj => .fz _ _ ?_, fun h => absurd h (Nat.not_lt_zero _)⟩
  show Fz sh (cat o.length (ptsF o) f i j) (ptF ((o ++ [x]).getD i default) j)
  by_cases h' : i < o.length
  · rw [cat_lt h', getD_app h']; exact pt_fz _ j
  · have hi' : i = o.length := by simp only at hi; omega
    subst hi'
    rw [cat_ge (Nat.le_refl _), Nat.sub_self, getD_snoc]; exact h j hj
theorem fz_pt {sh : List (Nat × HObj)} {x : Pt} {f : Nat → HV} (h0 : Fz sh (f 0) (ptF x 0)) (h1 : Fz sh (f 1) (ptF x 1)) (h2 : Fz sh (f 2) (ptF x 2)) (h3 : Fz sh (f 3) (ptF x 3)) (h4 : Fz sh (f 4) (ptF x 4)) : ∀ j, j < 5 → Fz sh (f j) (ptF x j) := fun j hj => by
  match j, hj with
  | 0, _ => exact h0
  | 1, _ => exact h1
  | 2, _ => exact h2
  | 3, _ => exact h3
  | 4, _ => exact h4
theorem fz_kids {sh : List (Nat × HObj)} {id g ty fl n : Nat} {ks : List Int} (hn : n = ks.length) : Fz ((id, ⟨g, n, 1, ty, fl, kidsF ks⟩) :: sh) (.os id g 0 n) (kidsV ks) :=
  fz_row (l := ks) (enc := fun x _ => intV x) (d := 0) (List.mem_cons_self ..) rfl hn (Nat.le_refl _) (fun i j hi hj => .imm _)
theorem sg_at {l : List Sg} {q' : Nat} {x : Int} (h : x = (q' : Int)) (hq : q' < l.length) : sgsF l x.toNat 0 = intV (kd l q') := by rw [h, Int.toNat_natCast, kd_in hq]; rfl
@[reducible] def partW (k : Int) (gk n : Nat) : Nat → Nat → HV := fun _ j => match j with | 0 => intV k | 1 => intV 0 | 2 => intV 0 | 3 => strV [] | _ => .os 7001 gk 0 n
theorem osub5 {g ty fl : Nat} {f f' : Nat → Nat → HV} (h0 : Sb (f 0 0) (f' 0 0)) (h1 : Sb (f 0 1) (f' 0 1)) (h2 : Sb (f 0 2) (f' 0 2)) (h3 : Sb (f 0 3) (f' 0 3)) (h4 : Sb (f 0 4) (f' 0 4)) (hfn : fl ≤ 1 := by exact Nat.zero_le _) : OSub ⟨g, 1, 5, ty, fl, f⟩ ⟨g, 1, 5, ty, fl, f'⟩ := .of (hfn := hfn) fun i j hi hj => by
  obtain rfl : i = 0 := by omega
  match j, hj with | 0, _ => exact h0 | 1, _ => exact h1 | 2, _ => exact h2 | 3, _ => exact h3 | 4, _ => exact h4
theorem kids_at {B : List Int} {i j : Nat} {x : Int} (hj : j = i) (h : B.getD i 0 = x) : ldv false 1 (kidsF B j) 0 = intV x := by subst hj; show intV (B.getD j 0) = _; rw [h]
theorem take_snoc {ts : List T} {i : Nat} (h : i < ts.length) : ts.take (i + 1) = ts.take i ++ [ts.getD i default] := by
  rw [List.take_add_one, List.getD_eq_getElem?_getD, List.getElem?_eq_getElem h]; rfl
/-- The kids that have been laid. -/
structure KidI (ts : List T) (out : List Pt) (i : Nat) (o : List Pt) (ks : List Int) : Prop where
  le : i ≤ ts.length
  eo : o = out ++ T.flatL out.length (ts.take i)
  ek : ks = rootsL out.length (ts.take i)
theorem kid_next {ts : List T} {out o : List Pt} {i : Nat} {ks : List Int} (h : KidI ts out i o ks) (hi : i < ts.length) : KidI ts out (i + 1) (o ++ T.flat o.length (ts.getD i default)) (ks ++ [T.root o.length (ts.getD i default)]) := by
  have hl : o.length = out.length + T.sizeL (ts.take i) := by rw [h.eo, List.length_append, T.flatL_len]
  refine ⟨hi, ?_, ?_⟩
  · rw [take_snoc hi, T.flatL_snoc, hl, h.eo, List.append_assoc]
  · rw [take_snoc hi, rootsL_snoc, hl, h.ek]
theorem kid_len {ts : List T} {out o : List Pt} {i : Nat} {ks : List Int} (h : KidI ts out i o ks) : o.length = out.length + T.sizeL (ts.take i) ∧ ks.length = i := by
  refine ⟨by rw [h.eo, List.length_append, T.flatL_len], ?_⟩
  rw [h.ek, rootsL_len, List.length_take]; have := h.le; omega
theorem kid_done {ts : List T} {out o : List Pt} {i : Nat} {ks : List Int} {k : Int} (h : KidI ts out i o ks) (hi : i = ts.length) : o ++ [⟨k, 0, 0, [], ks⟩] = out ++ T.flat out.length (.many k ts) := by
  have h1 := h.eo; have h2 := h.ek
  rw [hi, List.take_length] at h1 h2
  rw [h1, h2]; simp [T.flat]
/-- The places between pieces. -/
structure Cuts (l : List Sg) (B : List Int) (m p q : Nat) (ts : List T) (s e : Nat → Nat) : Prop where
  hlen : B.length = m + 1
  hm : m = ts.length
  htwo : 2 ≤ m
  hmb : m ≤ 2000
  hat : ∀ i, i < m → B.getD i 0 = (s i : Int)
  hle : ∀ i, i < m → s i ≤ e i ∧ e i ≤ l.length
  hout : ∀ i, i < m → T.sizeL (ts.take i) + 2 * p ≤ 2 * s i
  hsz : ∀ i, i < m → (ts.getD i default).size + 2 * s i ≤ 2 * e i
  hall : T.sizeL ts + 2 * p ≤ 2 * q
theorem bd_name (l : List Sg) (p q : Nat) (hl : l.length ≤ 1000) (h1 : kd l p = 1) (hq : q = p + 1) (hql : q ≤ l.length) (hpq : p ≤ q) {v : Nat} (hv : v ≤ 1) (hsg : Seg l v p q (.name (l.getD p default).name)) : BdC l p q (.name (l.getD p default).name) := by
  intro c g out ho
  obtain ⟨cb, hcb⟩ : ∃ cb, cb = c := ⟨_, rfl⟩
  subst hcb
  refine hfun_of Tryd.func65 rfl (by kernel_rfl) _ _ _ _ rfl 126 rfl rfl (fun X ok hX => ?_)
  refine hw_seq (fun Nh1 h1 => ?_)
  refine hw_region ?_
  refine hq_ 8 (hop_assign rfl) rfl rfl pre0 rfl rfl ?_
  refine hseq_nil ?_
  refine h1 _ ?_
  refine hw_seq (fun Nh2 h2 => ?_)
  refine hw_seq (fun Nh3 h3 => ?_)
  refine hw_region ?_
  refine hq_ 9 (hop_assign rfl) rfl rfl pre0 rfl rfl ?_
  refine hseq_nil ?_
  refine h3 _ ?_
  refine hw_block ?_
  refine hw_rounds 3 ?_
  refine hr_succ (fun NhU4 hU4 => ?_)
  refine hw_seq (fun Nh5 h5 => ?_)
  refine hw_seq (fun Nh6 h6 => ?_)
  refine hw_region ?_
  refine hq_ 14 (hop_move rfl) rfl rfl pre0 rfl rfl ?_
  refine hq_ 15 (hop_geq rfl rfl) rfl rfl pre0 rfl rfl ?_
  refine hseq_nil ?_
  refine h6 _ ?_
  refine hw_cond _ rfl (fun hc0 => ?_) (fun hc0 => ?_)
  · have hr0 := hc0; (try simp only [hcs, Int.reduceToNat] at hc0)
    refine hw_skip ?_
    refine h5 _ ?_
    refine hw_seq (fun Nh7 h7 => ?_)
    refine hw_block ?_
    refine hw_seq (fun Nh8 h8 => ?_)
    refine hw_region ?_
    refine hq_ 18 (hop_move rfl) rfl rfl pre0 rfl rfl ?_
    refine hq_ 19 (hop_move rfl) rfl rfl pre0 rfl rfl ?_
    refine hq_ 20 (hop_move rfl) rfl rfl pre0 rfl rfl ?_
    refine hq_ 21 (hop_move rfl) rfl rfl pre0 rfl rfl ?_
    refine hq_ 22 (hop_call0 (xs := [_, _, _, _]) ((show HPure Tryd.prog 87 [sgsV l, intV p, intV q, intV 3] (kidsV [(p : Int), (q : Int)]) from (by rw [← cuts_item hsg hv]; exact cuts_h l p q 3 hl hql hpq))) ⟨rfl, ⟨rfl, ⟨rfl, ⟨rfl, trivial⟩⟩⟩⟩ ⟨(Fz.eq rfl), ⟨(Fz.eq rfl), ⟨(Fz.eq rfl), ⟨(Fz.eq rfl), trivial⟩⟩⟩⟩) rfl rfl pre0 rfl rfl ?_
    refine hq_ 10 (hop_assign rfl) rfl rfl pre0 rfl rfl ?_
    refine hseq_nil ?_
    refine h8 _ ?_
    refine hw_seq (fun Nh9 h9 => ?_)
    refine hw_seq (fun Nh10 h10 => ?_)
    refine hw_region ?_
    refine hq_ 23 (hop_move rfl) rfl rfl pre0 rfl rfl ?_
    refine hq_ 24 (hop_len_sl (T := 98) rfl (elOf_spec el_98).1 rfl) rfl rfl pre0 rfl rfl ?_
    refine hq_ 25 (hop_eql rfl rfl) rfl rfl pre0 rfl rfl ?_
    refine hseq_nil ?_
    refine h10 _ ?_
    refine hw_cond _ rfl (fun hc1 => ?_) (fun hc1 => ?_)
    · have hr1 := hc1; (try simp only [hcs, Int.reduceToNat] at hc1)
      refine hw_exit ?_
      refine hq_then_exit ?_
      refine hq_block_here ?_
      refine h7 _ ?_
      refine hw_region ?_
      refine hq_ 16 (hop_move rfl) rfl rfl pre0 rfl rfl ?_
      refine hq_ 17 (hop_subi rfl rfl rfl (by omega) (by omega)) rfl rfl pre0 rfl rfl ?_
      refine hq_ 9 (hop_assign rfl) rfl rfl pre0 rfl rfl ?_
      refine hseq_nil ?_
      refine hU4 _ ?_
      refine hr_succ (fun NhU11 hU11 => ?_)
      refine hw_seq (fun Nh12 h12 => ?_)
      refine hw_seq (fun Nh13 h13 => ?_)
      refine hw_region ?_
      refine hq_ 14 (hop_move rfl) rfl rfl pre0 rfl rfl ?_
      refine hq_ 15 (hop_geq rfl rfl) rfl rfl pre0 rfl rfl ?_
      refine hseq_nil ?_
      refine h13 _ ?_
      refine hw_cond _ rfl (fun hc0 => ?_) (fun hc0 => ?_)
      · have hr0 := hc0; (try simp only [hcs, Int.reduceToNat] at hc0)
        refine hw_skip ?_
        refine h12 _ ?_
        refine hw_seq (fun Nh14 h14 => ?_)
        refine hw_block ?_
        refine hw_seq (fun Nh15 h15 => ?_)
        refine hw_region ?_
        refine hq_ 18 (hop_move rfl) rfl rfl pre0 rfl rfl ?_
        refine hq_ 19 (hop_move rfl) rfl rfl pre0 rfl rfl ?_
        refine hq_ 20 (hop_move rfl) rfl rfl pre0 rfl rfl ?_
        refine hq_ 21 (hop_move rfl) rfl rfl pre0 rfl rfl ?_
        refine hq_ 22 (hop_call0 (xs := [_, _, _, _]) ((show HPure Tryd.prog 87 [sgsV l, intV p, intV q, intV 2] (kidsV [(p : Int), (q : Int)]) from (by rw [← cuts_item hsg hv]; exact cuts_h l p q 2 hl hql hpq))) ⟨rfl, ⟨rfl, ⟨rfl, ⟨rfl, trivial⟩⟩⟩⟩ ⟨(Fz.eq rfl), ⟨(Fz.eq rfl), ⟨(Fz.eq rfl), ⟨(Fz.eq rfl), trivial⟩⟩⟩⟩) rfl rfl pre0 rfl rfl ?_
        refine hq_ 10 (hop_assign rfl) rfl rfl pre0 rfl rfl ?_
        refine hseq_nil ?_
        refine h15 _ ?_
        refine hw_seq (fun Nh16 h16 => ?_)
        refine hw_seq (fun Nh17 h17 => ?_)
        refine hw_region ?_
        refine hq_ 23 (hop_move rfl) rfl rfl pre0 rfl rfl ?_
        refine hq_ 24 (hop_len_sl (T := 98) rfl (elOf_spec el_98).1 rfl) rfl rfl pre0 rfl rfl ?_
        refine hq_ 25 (hop_eql rfl rfl) rfl rfl pre0 rfl rfl ?_
        refine hseq_nil ?_
        refine h17 _ ?_
        refine hw_cond _ rfl (fun hc1 => ?_) (fun hc1 => ?_)
        · have hr1 := hc1; (try simp only [hcs, Int.reduceToNat] at hc1)
          refine hw_exit ?_
          refine hq_then_exit ?_
          refine hq_block_here ?_
          refine h14 _ ?_
          refine hw_region ?_
          refine hq_ 16 (hop_move rfl) rfl rfl pre0 rfl rfl ?_
          refine hq_ 17 (hop_subi rfl rfl rfl (by omega) (by omega)) rfl rfl pre0 rfl rfl ?_
          refine hq_ 9 (hop_assign rfl) rfl rfl pre0 rfl rfl ?_
          refine hseq_nil ?_
          refine hU11 _ ?_
          refine hr_succ (fun NhU18 hU18 => ?_)
          refine hw_seq (fun Nh19 h19 => ?_)
          refine hw_seq (fun Nh20 h20 => ?_)
          refine hw_region ?_
          refine hq_ 14 (hop_move rfl) rfl rfl pre0 rfl rfl ?_
          refine hq_ 15 (hop_geq rfl rfl) rfl rfl pre0 rfl rfl ?_
          refine hseq_nil ?_
          refine h20 _ ?_
          refine hw_cond _ rfl (fun hc0 => ?_) (fun hc0 => ?_)
          · have hr0 := hc0; (try simp only [hcs, Int.reduceToNat] at hc0)
            exfalso; simp at hr0
          · have hr0 := hc0; (try simp only [hcs, Int.reduceToNat] at hc0)
            refine hw_exit ?_
            refine hq_then_exit ?_
            refine hq_then_exit ?_
            refine hq_block_here ?_
            refine h2 _ ?_
            refine hw_seq (fun Nh21 h21 => ?_)
            refine hw_seq (fun Nh22 h22 => ?_)
            refine hw_region ?_
            refine hq_ 71 (hop_move rfl) rfl rfl pre0 rfl rfl ?_
            refine hq_ 72 (hop_move rfl) rfl rfl pre0 rfl rfl ?_
            refine hq_ 73 (hop_subi rfl rfl rfl (by omega) (by omega)) rfl rfl pre0 rfl rfl ?_
            refine hq_ 74 (hop_ia_sl el_36 rfl rfl (by omega) (by omega) (nb rfl)) rfl rfl pre0 rfl rfl ?_
            refine hq_ 75 (hop_fa_fp fd_40_0 rfl (nb rfl)) rfl rfl pre0 rfl rfl ?_
            refine hq_ 76 (HOp.val (v' := intV (kd l p)) (hop_load_fp ty_3 rfl (nb rfl) (fun h => (by rfl))) (sg_at (by omega) (by omega))) rfl rfl pre0 rfl rfl ?_
            refine hq_ 77 (hop_eql rfl rfl) rfl rfl pre0 rfl rfl ?_
            refine hseq_nil ?_
            refine h22 _ ?_
            refine hw_cond _ rfl (fun hc4 => ?_) (fun hc4 => ?_)
            · have hr4 := hc4; (try simp only [hcs, Int.reduceToNat] at hc4)
              exfalso; omega
            · have hr4 := hc4; (try simp only [hcs, Int.reduceToNat] at hc4)
              refine hw_skip ?_
              refine h21 _ ?_
              refine hw_seq (fun Nh23 h23 => ?_)
              refine hw_seq (fun Nh24 h24 => ?_)
              refine hw_region ?_
              refine hq_ 104 (hop_move rfl) rfl rfl pre0 rfl rfl ?_
              refine hq_ 105 (hop_move rfl) rfl rfl pre0 rfl rfl ?_
              refine hq_ 106 (hop_ia_sl el_36 rfl rfl (by omega) (by omega) (nb rfl)) rfl rfl pre0 rfl rfl ?_
              refine hq_ 107 (hop_fa_fp fd_40_0 rfl (nb rfl)) rfl rfl pre0 rfl rfl ?_
              refine hq_ 108 (HOp.val (v' := intV (kd l p)) (hop_load_fp ty_3 rfl (nb rfl) (fun h => (by rfl))) (sg_at (by omega) (by omega))) rfl rfl pre0 rfl rfl ?_
              refine hq_ 109 (hop_eql rfl rfl) rfl rfl pre0 rfl rfl ?_
              refine hseq_nil ?_
              refine h24 _ ?_
              refine hw_cond _ rfl (fun hc5 => ?_) (fun hc5 => ?_)
              · have hr5 := hc5; (try simp only [hcs, Int.reduceToNat] at hc5)
                exfalso; omega
              · have hr5 := hc5; (try simp only [hcs, Int.reduceToNat] at hc5)
                refine hw_skip ?_
                refine h23 _ ?_
                refine hw_seq (fun Nh25 h25 => ?_)
                refine hw_region ?_
                refine hq_ 117 (hop_move rfl) rfl rfl pre0 rfl rfl ?_
                refine hq_ 118 (hop_move rfl) rfl rfl pre0 rfl rfl ?_
                refine hq_ 119 (hop_move rfl) rfl rfl pre0 rfl rfl ?_
                refine hq_ 120 (hop_ia_sl el_36 rfl rfl (by omega) (by omega) (nb rfl)) rfl rfl pre0 rfl rfl ?_
                refine hq_ 121 (hop_fa_fp fd_40_4 rfl (nb rfl)) rfl rfl pre0 rfl rfl ?_
                refine hq_ 122 (hop_load_fp ty_9 rfl (nb rfl) (fun h => (by rfl))) rfl rfl pre0 rfl rfl ?_
                refine hq_ 123 (hop_build (hs := [(0, 1, _), (3, 1, _)]) st_109 rfl rfl ⟨rfl, rfl, rfl, rfl, rfl, ⟨rfl, rfl, rfl, rfl, rfl, trivial⟩⟩) rfl rfl pre0 rfl rfl ?_
                refine hm_1 124 (hop_buildSlice (id := 124) (hs := [_]) ei_55 (nb rfl) rfl (nb rfl) ⟨rfl, rfl, rfl, rfl, trivial⟩) rfl rfl pre0 rfl rfl (c' := cb + 1) rfl ?_
                refine hm_1 125 (hol_append ei_55 (nb rfl) rfl (by omega) (nb rfl) (srl_os0 rfl (nb rfl)) (by omega) rfl) rfl rfl (preC rfl (pre1 rfl)) rfl rfl (c' := cb + 2) rfl ?_
                refine hq_ 8 (hop_assign rfl) rfl rfl pre0 rfl rfl ?_
                refine hseq_nil ?_
                refine h25 _ ?_
                refine hw_ret ?_
                refine hf_retR1 ok hX RetS.one rfl (rval_tmp rfl) [] rfl pre0 (_) (trivial) (by rfl) (by rfl) (kz_os rfl rfl (by simp [T.flat])) ?_
                exact ⟨⟨_, rfl, okz_snoc (o := out) (x := ⟨1, 0, 0, (l.getD p default).name, []⟩) rfl (by simp [T.flat]) (fz_pt (.imm _) (.imm _) (.imm _) (.imm _) (.nil 0 1 _ (by decide) none))⟩, trivial⟩
        · have hr1 := hc1; (try simp only [hcs, Int.reduceToNat] at hc1)
          exfalso; simp at hr1
      · have hr0 := hc0; (try simp only [hcs, Int.reduceToNat] at hc0)
        exfalso; simp at hr0
    · have hr1 := hc1; (try simp only [hcs, Int.reduceToNat] at hc1)
      exfalso; simp at hr1
  · have hr0 := hc0; (try simp only [hcs, Int.reduceToNat] at hc0)
    exfalso; simp at hr0
theorem bd_nameN (l : List Sg) (p q : Nat) (hl : l.length ≤ 1000) (h1 : kd l p = 1) (hq : q = p + 1) (hql : q ≤ l.length) (hpq : p ≤ q) {v : Nat} (hv : v ≤ 1) (hsg : Seg l v p q (.name (l.getD p default).name)) : BdN l p q (.name (l.getD p default).name) := by
  intro c
  obtain ⟨cb, hcb⟩ : ∃ cb, cb = c + 1 := ⟨_, rfl⟩
  have ho : ([] : List Pt).length ≤ 2 * p := Nat.zero_le _
  refine hfun_of Tryd.func65 rfl (by kernel_rfl) _ _ _ _ rfl 126 rfl rfl (fun X ok hX => ?_)
  refine hw_seq (fun Nh1 h1 => ?_)
  refine hw_own 0 9003 5 109 (ptsF []) rfl (by decide) rfl (c' := cb) hcb.symm ?_
  refine hw_region ?_
  refine hq_ 8 (hop_assign rfl) rfl rfl pre0 rfl rfl ?_
  refine hseq_nil ?_
  refine h1 _ ?_
  refine hw_seq (fun Nh2 h2 => ?_)
  refine hw_seq (fun Nh3 h3 => ?_)
  refine hw_region ?_
  refine hq_ 9 (hop_assign rfl) rfl rfl pre0 rfl rfl ?_
  refine hseq_nil ?_
  refine h3 _ ?_
  refine hw_block ?_
  refine hw_rounds 3 ?_
  refine hr_succ (fun NhU4 hU4 => ?_)
  refine hw_seq (fun Nh5 h5 => ?_)
  refine hw_seq (fun Nh6 h6 => ?_)
  refine hw_region ?_
  refine hq_ 14 (hop_move rfl) rfl rfl pre0 rfl rfl ?_
  refine hq_ 15 (hop_geq rfl rfl) rfl rfl pre0 rfl rfl ?_
  refine hseq_nil ?_
  refine h6 _ ?_
  refine hw_cond _ rfl (fun hc0 => ?_) (fun hc0 => ?_)
  · have hr0 := hc0; (try simp only [hcs, Int.reduceToNat] at hc0)
    refine hw_skip ?_
    refine h5 _ ?_
    refine hw_seq (fun Nh7 h7 => ?_)
    refine hw_block ?_
    refine hw_seq (fun Nh8 h8 => ?_)
    refine hw_region ?_
    refine hq_ 18 (hop_move rfl) rfl rfl pre0 rfl rfl ?_
    refine hq_ 19 (hop_move rfl) rfl rfl pre0 rfl rfl ?_
    refine hq_ 20 (hop_move rfl) rfl rfl pre0 rfl rfl ?_
    refine hq_ 21 (hop_move rfl) rfl rfl pre0 rfl rfl ?_
    refine hq_ 22 (hop_call0 (xs := [_, _, _, _]) ((show HPure Tryd.prog 87 [sgsV l, intV p, intV q, intV 3] (kidsV [(p : Int), (q : Int)]) from (by rw [← cuts_item hsg hv]; exact cuts_h l p q 3 hl hql hpq))) ⟨rfl, ⟨rfl, ⟨rfl, ⟨rfl, trivial⟩⟩⟩⟩ ⟨(Fz.eq rfl), ⟨(Fz.eq rfl), ⟨(Fz.eq rfl), ⟨(Fz.eq rfl), trivial⟩⟩⟩⟩) rfl rfl pre0 rfl rfl ?_
    refine hq_ 10 (hop_assign rfl) rfl rfl pre0 rfl rfl ?_
    refine hseq_nil ?_
    refine h8 _ ?_
    refine hw_seq (fun Nh9 h9 => ?_)
    refine hw_seq (fun Nh10 h10 => ?_)
    refine hw_region ?_
    refine hq_ 23 (hop_move rfl) rfl rfl pre0 rfl rfl ?_
    refine hq_ 24 (hop_len_sl (T := 98) rfl (elOf_spec el_98).1 rfl) rfl rfl pre0 rfl rfl ?_
    refine hq_ 25 (hop_eql rfl rfl) rfl rfl pre0 rfl rfl ?_
    refine hseq_nil ?_
    refine h10 _ ?_
    refine hw_cond _ rfl (fun hc1 => ?_) (fun hc1 => ?_)
    · have hr1 := hc1; (try simp only [hcs, Int.reduceToNat] at hc1)
      refine hw_exit ?_
      refine hq_then_exit ?_
      refine hq_block_here ?_
      refine h7 _ ?_
      refine hw_region ?_
      refine hq_ 16 (hop_move rfl) rfl rfl pre0 rfl rfl ?_
      refine hq_ 17 (hop_subi rfl rfl rfl (by omega) (by omega)) rfl rfl pre0 rfl rfl ?_
      refine hq_ 9 (hop_assign rfl) rfl rfl pre0 rfl rfl ?_
      refine hseq_nil ?_
      refine hU4 _ ?_
      refine hr_succ (fun NhU11 hU11 => ?_)
      refine hw_seq (fun Nh12 h12 => ?_)
      refine hw_seq (fun Nh13 h13 => ?_)
      refine hw_region ?_
      refine hq_ 14 (hop_move rfl) rfl rfl pre0 rfl rfl ?_
      refine hq_ 15 (hop_geq rfl rfl) rfl rfl pre0 rfl rfl ?_
      refine hseq_nil ?_
      refine h13 _ ?_
      refine hw_cond _ rfl (fun hc0 => ?_) (fun hc0 => ?_)
      · have hr0 := hc0; (try simp only [hcs, Int.reduceToNat] at hc0)
        refine hw_skip ?_
        refine h12 _ ?_
        refine hw_seq (fun Nh14 h14 => ?_)
        refine hw_block ?_
        refine hw_seq (fun Nh15 h15 => ?_)
        refine hw_region ?_
        refine hq_ 18 (hop_move rfl) rfl rfl pre0 rfl rfl ?_
        refine hq_ 19 (hop_move rfl) rfl rfl pre0 rfl rfl ?_
        refine hq_ 20 (hop_move rfl) rfl rfl pre0 rfl rfl ?_
        refine hq_ 21 (hop_move rfl) rfl rfl pre0 rfl rfl ?_
        refine hq_ 22 (hop_call0 (xs := [_, _, _, _]) ((show HPure Tryd.prog 87 [sgsV l, intV p, intV q, intV 2] (kidsV [(p : Int), (q : Int)]) from (by rw [← cuts_item hsg hv]; exact cuts_h l p q 2 hl hql hpq))) ⟨rfl, ⟨rfl, ⟨rfl, ⟨rfl, trivial⟩⟩⟩⟩ ⟨(Fz.eq rfl), ⟨(Fz.eq rfl), ⟨(Fz.eq rfl), ⟨(Fz.eq rfl), trivial⟩⟩⟩⟩) rfl rfl pre0 rfl rfl ?_
        refine hq_ 10 (hop_assign rfl) rfl rfl pre0 rfl rfl ?_
        refine hseq_nil ?_
        refine h15 _ ?_
        refine hw_seq (fun Nh16 h16 => ?_)
        refine hw_seq (fun Nh17 h17 => ?_)
        refine hw_region ?_
        refine hq_ 23 (hop_move rfl) rfl rfl pre0 rfl rfl ?_
        refine hq_ 24 (hop_len_sl (T := 98) rfl (elOf_spec el_98).1 rfl) rfl rfl pre0 rfl rfl ?_
        refine hq_ 25 (hop_eql rfl rfl) rfl rfl pre0 rfl rfl ?_
        refine hseq_nil ?_
        refine h17 _ ?_
        refine hw_cond _ rfl (fun hc1 => ?_) (fun hc1 => ?_)
        · have hr1 := hc1; (try simp only [hcs, Int.reduceToNat] at hc1)
          refine hw_exit ?_
          refine hq_then_exit ?_
          refine hq_block_here ?_
          refine h14 _ ?_
          refine hw_region ?_
          refine hq_ 16 (hop_move rfl) rfl rfl pre0 rfl rfl ?_
          refine hq_ 17 (hop_subi rfl rfl rfl (by omega) (by omega)) rfl rfl pre0 rfl rfl ?_
          refine hq_ 9 (hop_assign rfl) rfl rfl pre0 rfl rfl ?_
          refine hseq_nil ?_
          refine hU11 _ ?_
          refine hr_succ (fun NhU18 hU18 => ?_)
          refine hw_seq (fun Nh19 h19 => ?_)
          refine hw_seq (fun Nh20 h20 => ?_)
          refine hw_region ?_
          refine hq_ 14 (hop_move rfl) rfl rfl pre0 rfl rfl ?_
          refine hq_ 15 (hop_geq rfl rfl) rfl rfl pre0 rfl rfl ?_
          refine hseq_nil ?_
          refine h20 _ ?_
          refine hw_cond _ rfl (fun hc0 => ?_) (fun hc0 => ?_)
          · have hr0 := hc0; (try simp only [hcs, Int.reduceToNat] at hc0)
            exfalso; simp at hr0
          · have hr0 := hc0; (try simp only [hcs, Int.reduceToNat] at hc0)
            refine hw_exit ?_
            refine hq_then_exit ?_
            refine hq_then_exit ?_
            refine hq_block_here ?_
            refine h2 _ ?_
            refine hw_seq (fun Nh21 h21 => ?_)
            refine hw_seq (fun Nh22 h22 => ?_)
            refine hw_region ?_
            refine hq_ 71 (hop_move rfl) rfl rfl pre0 rfl rfl ?_
            refine hq_ 72 (hop_move rfl) rfl rfl pre0 rfl rfl ?_
            refine hq_ 73 (hop_subi rfl rfl rfl (by omega) (by omega)) rfl rfl pre0 rfl rfl ?_
            refine hq_ 74 (hop_ia_sl el_36 rfl rfl (by omega) (by omega) (nb rfl)) rfl rfl pre0 rfl rfl ?_
            refine hq_ 75 (hop_fa_fp fd_40_0 rfl (nb rfl)) rfl rfl pre0 rfl rfl ?_
            refine hq_ 76 (HOp.val (v' := intV (kd l p)) (hop_load_fp ty_3 rfl (nb rfl) (fun h => (by rfl))) (sg_at (by omega) (by omega))) rfl rfl pre0 rfl rfl ?_
            refine hq_ 77 (hop_eql rfl rfl) rfl rfl pre0 rfl rfl ?_
            refine hseq_nil ?_
            refine h22 _ ?_
            refine hw_cond _ rfl (fun hc4 => ?_) (fun hc4 => ?_)
            · have hr4 := hc4; (try simp only [hcs, Int.reduceToNat] at hc4)
              exfalso; omega
            · have hr4 := hc4; (try simp only [hcs, Int.reduceToNat] at hc4)
              refine hw_skip ?_
              refine h21 _ ?_
              refine hw_seq (fun Nh23 h23 => ?_)
              refine hw_seq (fun Nh24 h24 => ?_)
              refine hw_region ?_
              refine hq_ 104 (hop_move rfl) rfl rfl pre0 rfl rfl ?_
              refine hq_ 105 (hop_move rfl) rfl rfl pre0 rfl rfl ?_
              refine hq_ 106 (hop_ia_sl el_36 rfl rfl (by omega) (by omega) (nb rfl)) rfl rfl pre0 rfl rfl ?_
              refine hq_ 107 (hop_fa_fp fd_40_0 rfl (nb rfl)) rfl rfl pre0 rfl rfl ?_
              refine hq_ 108 (HOp.val (v' := intV (kd l p)) (hop_load_fp ty_3 rfl (nb rfl) (fun h => (by rfl))) (sg_at (by omega) (by omega))) rfl rfl pre0 rfl rfl ?_
              refine hq_ 109 (hop_eql rfl rfl) rfl rfl pre0 rfl rfl ?_
              refine hseq_nil ?_
              refine h24 _ ?_
              refine hw_cond _ rfl (fun hc5 => ?_) (fun hc5 => ?_)
              · have hr5 := hc5; (try simp only [hcs, Int.reduceToNat] at hc5)
                exfalso; omega
              · have hr5 := hc5; (try simp only [hcs, Int.reduceToNat] at hc5)
                refine hw_skip ?_
                refine h23 _ ?_
                refine hw_seq (fun Nh25 h25 => ?_)
                refine hw_region ?_
                refine hq_ 117 (hop_move rfl) rfl rfl pre0 rfl rfl ?_
                refine hq_ 118 (hop_move rfl) rfl rfl pre0 rfl rfl ?_
                refine hq_ 119 (hop_move rfl) rfl rfl pre0 rfl rfl ?_
                refine hq_ 120 (hop_ia_sl el_36 rfl rfl (by omega) (by omega) (nb rfl)) rfl rfl pre0 rfl rfl ?_
                refine hq_ 121 (hop_fa_fp fd_40_4 rfl (nb rfl)) rfl rfl pre0 rfl rfl ?_
                refine hq_ 122 (hop_load_fp ty_9 rfl (nb rfl) (fun h => (by rfl))) rfl rfl pre0 rfl rfl ?_
                refine hq_ 123 (hop_build (hs := [(0, 1, _), (3, 1, _)]) st_109 rfl rfl ⟨rfl, rfl, rfl, rfl, rfl, ⟨rfl, rfl, rfl, rfl, rfl, trivial⟩⟩) rfl rfl pre0 rfl rfl ?_
                refine hm_1 124 (hop_buildSlice (id := 124) (hs := [_]) ei_55 (nb rfl) rfl (nb rfl) ⟨rfl, rfl, rfl, rfl, trivial⟩) rfl rfl pre0 rfl rfl (c' := cb + 1) rfl ?_
                refine hm_1 125 (hol_append ei_55 (nb rfl) rfl (nb rfl) (nb rfl) (srl_os0 rfl (nb rfl)) (nb rfl) rfl) rfl rfl (preC rfl (pre1 rfl)) rfl rfl (c' := cb + 2) rfl ?_
                refine hq_ 8 (hop_assign rfl) rfl rfl pre0 rfl rfl ?_
                refine hseq_nil ?_
                refine h25 _ ?_
                refine hw_ret ?_
                refine hf_retR1 ok hX RetS.one rfl (rval_tmp rfl) [] rfl pre0 (_) (trivial) (by rfl) (by rfl) (kz_os rfl rfl (by simp [T.flat])) ?_
                exact ⟨⟨_, rfl, okz_snoc (o := ([] : List Pt)) (x := ⟨1, 0, 0, (l.getD p default).name, []⟩) rfl (by simp [T.flat]) (fz_pt (.imm _) (.imm _) (.imm _) (.imm _) (.nil 0 1 _ (by decide) none))⟩, trivial⟩
        · have hr1 := hc1; (try simp only [hcs, Int.reduceToNat] at hc1)
          exfalso; simp at hr1
      · have hr0 := hc0; (try simp only [hcs, Int.reduceToNat] at hc0)
        exfalso; simp at hr0
    · have hr1 := hc1; (try simp only [hcs, Int.reduceToNat] at hc1)
      exfalso; simp at hr1
  · have hr0 := hc0; (try simp only [hcs, Int.reduceToNat] at hc0)
    exfalso; simp at hr0
theorem bd_group (l : List Sg) (p q : Nat) (hl : l.length ≤ 1000) (q' : Nat) (t : T) (h2 : kd l p = 2) (h3 : kd l q' = 3) (hpq1 : p + 1 < q') (hq : q = q' + 1) (hql : q ≤ l.length) (hpq : p ≤ q) {v : Nat} (hv : v ≤ 1) (hsg : Seg l v p q t) (ih : BdC l (p + 1) q' t) : BdC l p q t := by
  intro c g out ho
  obtain ⟨cb, hcb⟩ : ∃ cb, cb = c := ⟨_, rfl⟩
  subst hcb
  refine hfun_of Tryd.func65 rfl (by kernel_rfl) _ _ _ _ rfl 126 rfl rfl (fun X ok hX => ?_)
  refine hw_seq (fun Nh1 h1 => ?_)
  refine hw_region ?_
  refine hq_ 8 (hop_assign rfl) rfl rfl pre0 rfl rfl ?_
  refine hseq_nil ?_
  refine h1 _ ?_
  refine hw_seq (fun Nh2 h2 => ?_)
  refine hw_seq (fun Nh3 h3 => ?_)
  refine hw_region ?_
  refine hq_ 9 (hop_assign rfl) rfl rfl pre0 rfl rfl ?_
  refine hseq_nil ?_
  refine h3 _ ?_
  refine hw_block ?_
  refine hw_rounds 3 ?_
  refine hr_succ (fun NhU4 hU4 => ?_)
  refine hw_seq (fun Nh5 h5 => ?_)
  refine hw_seq (fun Nh6 h6 => ?_)
  refine hw_region ?_
  refine hq_ 14 (hop_move rfl) rfl rfl pre0 rfl rfl ?_
  refine hq_ 15 (hop_geq rfl rfl) rfl rfl pre0 rfl rfl ?_
  refine hseq_nil ?_
  refine h6 _ ?_
  refine hw_cond _ rfl (fun hc0 => ?_) (fun hc0 => ?_)
  · have hr0 := hc0; (try simp only [hcs, Int.reduceToNat] at hc0)
    refine hw_skip ?_
    refine h5 _ ?_
    refine hw_seq (fun Nh7 h7 => ?_)
    refine hw_block ?_
    refine hw_seq (fun Nh8 h8 => ?_)
    refine hw_region ?_
    refine hq_ 18 (hop_move rfl) rfl rfl pre0 rfl rfl ?_
    refine hq_ 19 (hop_move rfl) rfl rfl pre0 rfl rfl ?_
    refine hq_ 20 (hop_move rfl) rfl rfl pre0 rfl rfl ?_
    refine hq_ 21 (hop_move rfl) rfl rfl pre0 rfl rfl ?_
    refine hq_ 22 (hop_call0 (xs := [_, _, _, _]) ((show HPure Tryd.prog 87 [sgsV l, intV p, intV q, intV 3] (kidsV [(p : Int), (q : Int)]) from (by rw [← cuts_item hsg hv]; exact cuts_h l p q 3 hl hql hpq))) ⟨rfl, ⟨rfl, ⟨rfl, ⟨rfl, trivial⟩⟩⟩⟩ ⟨(Fz.eq rfl), ⟨(Fz.eq rfl), ⟨(Fz.eq rfl), ⟨(Fz.eq rfl), trivial⟩⟩⟩⟩) rfl rfl pre0 rfl rfl ?_
    refine hq_ 10 (hop_assign rfl) rfl rfl pre0 rfl rfl ?_
    refine hseq_nil ?_
    refine h8 _ ?_
    refine hw_seq (fun Nh9 h9 => ?_)
    refine hw_seq (fun Nh10 h10 => ?_)
    refine hw_region ?_
    refine hq_ 23 (hop_move rfl) rfl rfl pre0 rfl rfl ?_
    refine hq_ 24 (hop_len_sl (T := 98) rfl (elOf_spec el_98).1 rfl) rfl rfl pre0 rfl rfl ?_
    refine hq_ 25 (hop_eql rfl rfl) rfl rfl pre0 rfl rfl ?_
    refine hseq_nil ?_
    refine h10 _ ?_
    refine hw_cond _ rfl (fun hc1 => ?_) (fun hc1 => ?_)
    · have hr1 := hc1; (try simp only [hcs, Int.reduceToNat] at hc1)
      refine hw_exit ?_
      refine hq_then_exit ?_
      refine hq_block_here ?_
      refine h7 _ ?_
      refine hw_region ?_
      refine hq_ 16 (hop_move rfl) rfl rfl pre0 rfl rfl ?_
      refine hq_ 17 (hop_subi rfl rfl rfl (by omega) (by omega)) rfl rfl pre0 rfl rfl ?_
      refine hq_ 9 (hop_assign rfl) rfl rfl pre0 rfl rfl ?_
      refine hseq_nil ?_
      refine hU4 _ ?_
      refine hr_succ (fun NhU11 hU11 => ?_)
      refine hw_seq (fun Nh12 h12 => ?_)
      refine hw_seq (fun Nh13 h13 => ?_)
      refine hw_region ?_
      refine hq_ 14 (hop_move rfl) rfl rfl pre0 rfl rfl ?_
      refine hq_ 15 (hop_geq rfl rfl) rfl rfl pre0 rfl rfl ?_
      refine hseq_nil ?_
      refine h13 _ ?_
      refine hw_cond _ rfl (fun hc0 => ?_) (fun hc0 => ?_)
      · have hr0 := hc0; (try simp only [hcs, Int.reduceToNat] at hc0)
        refine hw_skip ?_
        refine h12 _ ?_
        refine hw_seq (fun Nh14 h14 => ?_)
        refine hw_block ?_
        refine hw_seq (fun Nh15 h15 => ?_)
        refine hw_region ?_
        refine hq_ 18 (hop_move rfl) rfl rfl pre0 rfl rfl ?_
        refine hq_ 19 (hop_move rfl) rfl rfl pre0 rfl rfl ?_
        refine hq_ 20 (hop_move rfl) rfl rfl pre0 rfl rfl ?_
        refine hq_ 21 (hop_move rfl) rfl rfl pre0 rfl rfl ?_
        refine hq_ 22 (hop_call0 (xs := [_, _, _, _]) ((show HPure Tryd.prog 87 [sgsV l, intV p, intV q, intV 2] (kidsV [(p : Int), (q : Int)]) from (by rw [← cuts_item hsg hv]; exact cuts_h l p q 2 hl hql hpq))) ⟨rfl, ⟨rfl, ⟨rfl, ⟨rfl, trivial⟩⟩⟩⟩ ⟨(Fz.eq rfl), ⟨(Fz.eq rfl), ⟨(Fz.eq rfl), ⟨(Fz.eq rfl), trivial⟩⟩⟩⟩) rfl rfl pre0 rfl rfl ?_
        refine hq_ 10 (hop_assign rfl) rfl rfl pre0 rfl rfl ?_
        refine hseq_nil ?_
        refine h15 _ ?_
        refine hw_seq (fun Nh16 h16 => ?_)
        refine hw_seq (fun Nh17 h17 => ?_)
        refine hw_region ?_
        refine hq_ 23 (hop_move rfl) rfl rfl pre0 rfl rfl ?_
        refine hq_ 24 (hop_len_sl (T := 98) rfl (elOf_spec el_98).1 rfl) rfl rfl pre0 rfl rfl ?_
        refine hq_ 25 (hop_eql rfl rfl) rfl rfl pre0 rfl rfl ?_
        refine hseq_nil ?_
        refine h17 _ ?_
        refine hw_cond _ rfl (fun hc1 => ?_) (fun hc1 => ?_)
        · have hr1 := hc1; (try simp only [hcs, Int.reduceToNat] at hc1)
          refine hw_exit ?_
          refine hq_then_exit ?_
          refine hq_block_here ?_
          refine h14 _ ?_
          refine hw_region ?_
          refine hq_ 16 (hop_move rfl) rfl rfl pre0 rfl rfl ?_
          refine hq_ 17 (hop_subi rfl rfl rfl (by omega) (by omega)) rfl rfl pre0 rfl rfl ?_
          refine hq_ 9 (hop_assign rfl) rfl rfl pre0 rfl rfl ?_
          refine hseq_nil ?_
          refine hU11 _ ?_
          refine hr_succ (fun NhU18 hU18 => ?_)
          refine hw_seq (fun Nh19 h19 => ?_)
          refine hw_seq (fun Nh20 h20 => ?_)
          refine hw_region ?_
          refine hq_ 14 (hop_move rfl) rfl rfl pre0 rfl rfl ?_
          refine hq_ 15 (hop_geq rfl rfl) rfl rfl pre0 rfl rfl ?_
          refine hseq_nil ?_
          refine h20 _ ?_
          refine hw_cond _ rfl (fun hc0 => ?_) (fun hc0 => ?_)
          · have hr0 := hc0; (try simp only [hcs, Int.reduceToNat] at hc0)
            exfalso; simp at hr0
          · have hr0 := hc0; (try simp only [hcs, Int.reduceToNat] at hc0)
            refine hw_exit ?_
            refine hq_then_exit ?_
            refine hq_then_exit ?_
            refine hq_block_here ?_
            refine h2 _ ?_
            refine hw_seq (fun Nh21 h21 => ?_)
            refine hw_seq (fun Nh22 h22 => ?_)
            refine hw_region ?_
            refine hq_ 71 (hop_move rfl) rfl rfl pre0 rfl rfl ?_
            refine hq_ 72 (hop_move rfl) rfl rfl pre0 rfl rfl ?_
            refine hq_ 73 (hop_subi rfl rfl rfl (by omega) (by omega)) rfl rfl pre0 rfl rfl ?_
            refine hq_ 74 (hop_ia_sl el_36 rfl rfl (by omega) (by omega) (nb rfl)) rfl rfl pre0 rfl rfl ?_
            refine hq_ 75 (hop_fa_fp fd_40_0 rfl (nb rfl)) rfl rfl pre0 rfl rfl ?_
            refine hq_ 76 (HOp.val (v' := intV (kd l q')) (hop_load_fp ty_3 rfl (nb rfl) (fun h => (by rfl))) (sg_at (by omega) (by omega))) rfl rfl pre0 rfl rfl ?_
            refine hq_ 77 (hop_eql rfl rfl) rfl rfl pre0 rfl rfl ?_
            refine hseq_nil ?_
            refine h22 _ ?_
            refine hw_cond _ rfl (fun hc4 => ?_) (fun hc4 => ?_)
            · have hr4 := hc4; (try simp only [hcs, Int.reduceToNat] at hc4)
              exfalso; omega
            · have hr4 := hc4; (try simp only [hcs, Int.reduceToNat] at hc4)
              refine hw_skip ?_
              refine h21 _ ?_
              refine hw_seq (fun Nh23 h23 => ?_)
              refine hw_seq (fun Nh24 h24 => ?_)
              refine hw_region ?_
              refine hq_ 104 (hop_move rfl) rfl rfl pre0 rfl rfl ?_
              refine hq_ 105 (hop_move rfl) rfl rfl pre0 rfl rfl ?_
              refine hq_ 106 (hop_ia_sl el_36 rfl rfl (by omega) (by omega) (nb rfl)) rfl rfl pre0 rfl rfl ?_
              refine hq_ 107 (hop_fa_fp fd_40_0 rfl (nb rfl)) rfl rfl pre0 rfl rfl ?_
              refine hq_ 108 (HOp.val (v' := intV (kd l p)) (hop_load_fp ty_3 rfl (nb rfl) (fun h => (by rfl))) (sg_at (by omega) (by omega))) rfl rfl pre0 rfl rfl ?_
              refine hq_ 109 (hop_eql rfl rfl) rfl rfl pre0 rfl rfl ?_
              refine hseq_nil ?_
              refine h24 _ ?_
              refine hw_cond _ rfl (fun hc5 => ?_) (fun hc5 => ?_)
              · have hr5 := hc5; (try simp only [hcs, Int.reduceToNat] at hc5)
                refine hw_seq (fun Nh25 h25 => ?_)
                refine hw_region ?_
                refine hq_ 110 (hop_move rfl) rfl rfl pre0 rfl rfl ?_
                refine hq_ 111 (hop_move rfl) rfl rfl pre0 rfl rfl ?_
                refine hq_ 112 (hop_move rfl) rfl rfl pre0 rfl rfl ?_
                refine hq_ 113 (HOp.val (v' := intV ((p + 1 : Nat) : Int)) (hop_addi rfl rfl rfl (by omega) (by omega)) (rfl)) rfl rfl pre0 rfl rfl ?_
                refine hq_ 114 (hop_move rfl) rfl rfl pre0 rfl rfl ?_
                refine hq_ 115 (HOp.val (v' := intV (q' : Int)) (hop_subi rfl rfl rfl (by omega) (by omega)) (by rw [show (q : Int) - 1 = (q' : Int) by omega])) rfl rfl pre0 rfl rfl ?_
                refine hf_callR 116 (xs := [_, _, _, _]) (pre := [(9003, _)]) (ih _ g out (by omega)) ⟨rfl, ⟨rfl, ⟨rfl, ⟨rfl, trivial⟩⟩⟩⟩ (preC rfl pre0) rfl rfl (fun g3 c1 hx1 => ?_)
                (try dsimp only)
                refine hq_ 8 (hop_assign rfl) rfl rfl pre0 rfl rfl ?_
                refine hseq_nil ?_
                refine h25 _ ?_
                refine hw_ret ?_
                refine hq_then_ret ?_
                refine hf_retR1 ok hX RetS.one rfl (rval_tmp rfl) [] rfl pre0 (g3) (trivial) (by rfl) (by rfl) ((by first | exact .fz _ _ (.imm _) | exact .os _ _ _ _ _ rfl rfl | exact .pt _ _ _ _ _ rfl rfl | exact .nps _ _ _ rfl rfl | (dsimp only; exact .fz _ _ Frz.fz) | exact .fz _ _ (.tup 0 _ _ (fun i hi => absurd hi (Nat.not_lt_zero _))))) ?_
                exact ⟨⟨_, rfl, .of (fun i j _ _ => .fz _ _ (pt_fz _ j))⟩, trivial⟩
              · have hr5 := hc5; (try simp only [hcs, Int.reduceToNat] at hc5)
                exfalso; omega
        · have hr1 := hc1; (try simp only [hcs, Int.reduceToNat] at hc1)
          exfalso; simp at hr1
      · have hr0 := hc0; (try simp only [hcs, Int.reduceToNat] at hc0)
        exfalso; simp at hr0
    · have hr1 := hc1; (try simp only [hcs, Int.reduceToNat] at hc1)
      exfalso; simp at hr1
  · have hr0 := hc0; (try simp only [hcs, Int.reduceToNat] at hc0)
    exfalso; simp at hr0
theorem bd_groupN (l : List Sg) (p q : Nat) (hl : l.length ≤ 1000) (q' : Nat) (t : T) (h2 : kd l p = 2) (h3 : kd l q' = 3) (hpq1 : p + 1 < q') (hq : q = q' + 1) (hql : q ≤ l.length) (hpq : p ≤ q) {v : Nat} (hv : v ≤ 1) (hsg : Seg l v p q t) (ih : BdC l (p + 1) q' t) : BdN l p q t := by
  intro c
  obtain ⟨cb, hcb⟩ : ∃ cb, cb = c + 1 := ⟨_, rfl⟩
  have ho : ([] : List Pt).length ≤ 2 * p := Nat.zero_le _
  refine hfun_of Tryd.func65 rfl (by kernel_rfl) _ _ _ _ rfl 126 rfl rfl (fun X ok hX => ?_)
  refine hw_seq (fun Nh1 h1 => ?_)
  refine hw_own 0 9003 5 109 (ptsF []) rfl (by decide) rfl (c' := cb) hcb.symm ?_
  refine hw_region ?_
  refine hq_ 8 (hop_assign rfl) rfl rfl pre0 rfl rfl ?_
  refine hseq_nil ?_
  refine h1 _ ?_
  refine hw_seq (fun Nh2 h2 => ?_)
  refine hw_seq (fun Nh3 h3 => ?_)
  refine hw_region ?_
  refine hq_ 9 (hop_assign rfl) rfl rfl pre0 rfl rfl ?_
  refine hseq_nil ?_
  refine h3 _ ?_
  refine hw_block ?_
  refine hw_rounds 3 ?_
  refine hr_succ (fun NhU4 hU4 => ?_)
  refine hw_seq (fun Nh5 h5 => ?_)
  refine hw_seq (fun Nh6 h6 => ?_)
  refine hw_region ?_
  refine hq_ 14 (hop_move rfl) rfl rfl pre0 rfl rfl ?_
  refine hq_ 15 (hop_geq rfl rfl) rfl rfl pre0 rfl rfl ?_
  refine hseq_nil ?_
  refine h6 _ ?_
  refine hw_cond _ rfl (fun hc0 => ?_) (fun hc0 => ?_)
  · have hr0 := hc0; (try simp only [hcs, Int.reduceToNat] at hc0)
    refine hw_skip ?_
    refine h5 _ ?_
    refine hw_seq (fun Nh7 h7 => ?_)
    refine hw_block ?_
    refine hw_seq (fun Nh8 h8 => ?_)
    refine hw_region ?_
    refine hq_ 18 (hop_move rfl) rfl rfl pre0 rfl rfl ?_
    refine hq_ 19 (hop_move rfl) rfl rfl pre0 rfl rfl ?_
    refine hq_ 20 (hop_move rfl) rfl rfl pre0 rfl rfl ?_
    refine hq_ 21 (hop_move rfl) rfl rfl pre0 rfl rfl ?_
    refine hq_ 22 (hop_call0 (xs := [_, _, _, _]) ((show HPure Tryd.prog 87 [sgsV l, intV p, intV q, intV 3] (kidsV [(p : Int), (q : Int)]) from (by rw [← cuts_item hsg hv]; exact cuts_h l p q 3 hl hql hpq))) ⟨rfl, ⟨rfl, ⟨rfl, ⟨rfl, trivial⟩⟩⟩⟩ ⟨(Fz.eq rfl), ⟨(Fz.eq rfl), ⟨(Fz.eq rfl), ⟨(Fz.eq rfl), trivial⟩⟩⟩⟩) rfl rfl pre0 rfl rfl ?_
    refine hq_ 10 (hop_assign rfl) rfl rfl pre0 rfl rfl ?_
    refine hseq_nil ?_
    refine h8 _ ?_
    refine hw_seq (fun Nh9 h9 => ?_)
    refine hw_seq (fun Nh10 h10 => ?_)
    refine hw_region ?_
    refine hq_ 23 (hop_move rfl) rfl rfl pre0 rfl rfl ?_
    refine hq_ 24 (hop_len_sl (T := 98) rfl (elOf_spec el_98).1 rfl) rfl rfl pre0 rfl rfl ?_
    refine hq_ 25 (hop_eql rfl rfl) rfl rfl pre0 rfl rfl ?_
    refine hseq_nil ?_
    refine h10 _ ?_
    refine hw_cond _ rfl (fun hc1 => ?_) (fun hc1 => ?_)
    · have hr1 := hc1; (try simp only [hcs, Int.reduceToNat] at hc1)
      refine hw_exit ?_
      refine hq_then_exit ?_
      refine hq_block_here ?_
      refine h7 _ ?_
      refine hw_region ?_
      refine hq_ 16 (hop_move rfl) rfl rfl pre0 rfl rfl ?_
      refine hq_ 17 (hop_subi rfl rfl rfl (by omega) (by omega)) rfl rfl pre0 rfl rfl ?_
      refine hq_ 9 (hop_assign rfl) rfl rfl pre0 rfl rfl ?_
      refine hseq_nil ?_
      refine hU4 _ ?_
      refine hr_succ (fun NhU11 hU11 => ?_)
      refine hw_seq (fun Nh12 h12 => ?_)
      refine hw_seq (fun Nh13 h13 => ?_)
      refine hw_region ?_
      refine hq_ 14 (hop_move rfl) rfl rfl pre0 rfl rfl ?_
      refine hq_ 15 (hop_geq rfl rfl) rfl rfl pre0 rfl rfl ?_
      refine hseq_nil ?_
      refine h13 _ ?_
      refine hw_cond _ rfl (fun hc0 => ?_) (fun hc0 => ?_)
      · have hr0 := hc0; (try simp only [hcs, Int.reduceToNat] at hc0)
        refine hw_skip ?_
        refine h12 _ ?_
        refine hw_seq (fun Nh14 h14 => ?_)
        refine hw_block ?_
        refine hw_seq (fun Nh15 h15 => ?_)
        refine hw_region ?_
        refine hq_ 18 (hop_move rfl) rfl rfl pre0 rfl rfl ?_
        refine hq_ 19 (hop_move rfl) rfl rfl pre0 rfl rfl ?_
        refine hq_ 20 (hop_move rfl) rfl rfl pre0 rfl rfl ?_
        refine hq_ 21 (hop_move rfl) rfl rfl pre0 rfl rfl ?_
        refine hq_ 22 (hop_call0 (xs := [_, _, _, _]) ((show HPure Tryd.prog 87 [sgsV l, intV p, intV q, intV 2] (kidsV [(p : Int), (q : Int)]) from (by rw [← cuts_item hsg hv]; exact cuts_h l p q 2 hl hql hpq))) ⟨rfl, ⟨rfl, ⟨rfl, ⟨rfl, trivial⟩⟩⟩⟩ ⟨(Fz.eq rfl), ⟨(Fz.eq rfl), ⟨(Fz.eq rfl), ⟨(Fz.eq rfl), trivial⟩⟩⟩⟩) rfl rfl pre0 rfl rfl ?_
        refine hq_ 10 (hop_assign rfl) rfl rfl pre0 rfl rfl ?_
        refine hseq_nil ?_
        refine h15 _ ?_
        refine hw_seq (fun Nh16 h16 => ?_)
        refine hw_seq (fun Nh17 h17 => ?_)
        refine hw_region ?_
        refine hq_ 23 (hop_move rfl) rfl rfl pre0 rfl rfl ?_
        refine hq_ 24 (hop_len_sl (T := 98) rfl (elOf_spec el_98).1 rfl) rfl rfl pre0 rfl rfl ?_
        refine hq_ 25 (hop_eql rfl rfl) rfl rfl pre0 rfl rfl ?_
        refine hseq_nil ?_
        refine h17 _ ?_
        refine hw_cond _ rfl (fun hc1 => ?_) (fun hc1 => ?_)
        · have hr1 := hc1; (try simp only [hcs, Int.reduceToNat] at hc1)
          refine hw_exit ?_
          refine hq_then_exit ?_
          refine hq_block_here ?_
          refine h14 _ ?_
          refine hw_region ?_
          refine hq_ 16 (hop_move rfl) rfl rfl pre0 rfl rfl ?_
          refine hq_ 17 (hop_subi rfl rfl rfl (by omega) (by omega)) rfl rfl pre0 rfl rfl ?_
          refine hq_ 9 (hop_assign rfl) rfl rfl pre0 rfl rfl ?_
          refine hseq_nil ?_
          refine hU11 _ ?_
          refine hr_succ (fun NhU18 hU18 => ?_)
          refine hw_seq (fun Nh19 h19 => ?_)
          refine hw_seq (fun Nh20 h20 => ?_)
          refine hw_region ?_
          refine hq_ 14 (hop_move rfl) rfl rfl pre0 rfl rfl ?_
          refine hq_ 15 (hop_geq rfl rfl) rfl rfl pre0 rfl rfl ?_
          refine hseq_nil ?_
          refine h20 _ ?_
          refine hw_cond _ rfl (fun hc0 => ?_) (fun hc0 => ?_)
          · have hr0 := hc0; (try simp only [hcs, Int.reduceToNat] at hc0)
            exfalso; simp at hr0
          · have hr0 := hc0; (try simp only [hcs, Int.reduceToNat] at hc0)
            refine hw_exit ?_
            refine hq_then_exit ?_
            refine hq_then_exit ?_
            refine hq_block_here ?_
            refine h2 _ ?_
            refine hw_seq (fun Nh21 h21 => ?_)
            refine hw_seq (fun Nh22 h22 => ?_)
            refine hw_region ?_
            refine hq_ 71 (hop_move rfl) rfl rfl pre0 rfl rfl ?_
            refine hq_ 72 (hop_move rfl) rfl rfl pre0 rfl rfl ?_
            refine hq_ 73 (hop_subi rfl rfl rfl (by omega) (by omega)) rfl rfl pre0 rfl rfl ?_
            refine hq_ 74 (hop_ia_sl el_36 rfl rfl (by omega) (by omega) (nb rfl)) rfl rfl pre0 rfl rfl ?_
            refine hq_ 75 (hop_fa_fp fd_40_0 rfl (nb rfl)) rfl rfl pre0 rfl rfl ?_
            refine hq_ 76 (HOp.val (v' := intV (kd l q')) (hop_load_fp ty_3 rfl (nb rfl) (fun h => (by rfl))) (sg_at (by omega) (by omega))) rfl rfl pre0 rfl rfl ?_
            refine hq_ 77 (hop_eql rfl rfl) rfl rfl pre0 rfl rfl ?_
            refine hseq_nil ?_
            refine h22 _ ?_
            refine hw_cond _ rfl (fun hc4 => ?_) (fun hc4 => ?_)
            · have hr4 := hc4; (try simp only [hcs, Int.reduceToNat] at hc4)
              exfalso; omega
            · have hr4 := hc4; (try simp only [hcs, Int.reduceToNat] at hc4)
              refine hw_skip ?_
              refine h21 _ ?_
              refine hw_seq (fun Nh23 h23 => ?_)
              refine hw_seq (fun Nh24 h24 => ?_)
              refine hw_region ?_
              refine hq_ 104 (hop_move rfl) rfl rfl pre0 rfl rfl ?_
              refine hq_ 105 (hop_move rfl) rfl rfl pre0 rfl rfl ?_
              refine hq_ 106 (hop_ia_sl el_36 rfl rfl (by omega) (by omega) (nb rfl)) rfl rfl pre0 rfl rfl ?_
              refine hq_ 107 (hop_fa_fp fd_40_0 rfl (nb rfl)) rfl rfl pre0 rfl rfl ?_
              refine hq_ 108 (HOp.val (v' := intV (kd l p)) (hop_load_fp ty_3 rfl (nb rfl) (fun h => (by rfl))) (sg_at (by omega) (by omega))) rfl rfl pre0 rfl rfl ?_
              refine hq_ 109 (hop_eql rfl rfl) rfl rfl pre0 rfl rfl ?_
              refine hseq_nil ?_
              refine h24 _ ?_
              refine hw_cond _ rfl (fun hc5 => ?_) (fun hc5 => ?_)
              · have hr5 := hc5; (try simp only [hcs, Int.reduceToNat] at hc5)
                refine hw_seq (fun Nh25 h25 => ?_)
                refine hw_region ?_
                refine hq_ 110 (hop_move rfl) rfl rfl pre0 rfl rfl ?_
                refine hq_ 111 (hop_move rfl) rfl rfl pre0 rfl rfl ?_
                refine hq_ 112 (hop_move rfl) rfl rfl pre0 rfl rfl ?_
                refine hq_ 113 (HOp.val (v' := intV ((p + 1 : Nat) : Int)) (hop_addi rfl rfl rfl (by omega) (by omega)) (rfl)) rfl rfl pre0 rfl rfl ?_
                refine hq_ 114 (hop_move rfl) rfl rfl pre0 rfl rfl ?_
                refine hq_ 115 (HOp.val (v' := intV (q' : Int)) (hop_subi rfl rfl rfl (by omega) (by omega)) (by rw [show (q : Int) - 1 = (q' : Int) by omega])) rfl rfl pre0 rfl rfl ?_
                refine hf_callR 116 (xs := [_, _, _, _]) (pre := [(9003, _)]) (ih _ c ([] : List Pt) (by omega)) ⟨rfl, ⟨rfl, ⟨rfl, ⟨rfl, trivial⟩⟩⟩⟩ (preC rfl pre0) rfl rfl (fun g3 c1 hx1 => ?_)
                (try dsimp only)
                refine hq_ 8 (hop_assign rfl) rfl rfl pre0 rfl rfl ?_
                refine hseq_nil ?_
                refine h25 _ ?_
                refine hw_ret ?_
                refine hq_then_ret ?_
                refine hf_retR1 ok hX RetS.one rfl (rval_tmp rfl) [] rfl pre0 (g3) (trivial) (by rfl) (by rfl) ((by first | exact .fz _ _ (.imm _) | exact .os _ _ _ _ _ rfl rfl | exact .pt _ _ _ _ _ rfl rfl | exact .nps _ _ _ rfl rfl | (dsimp only; exact .fz _ _ Frz.fz) | exact .fz _ _ (.tup 0 _ _ (fun i hi => absurd hi (Nat.not_lt_zero _))))) ?_
                exact ⟨⟨_, rfl, .of (fun i j _ _ => .fz _ _ (pt_fz _ j))⟩, trivial⟩
              · have hr5 := hc5; (try simp only [hcs, Int.reduceToNat] at hc5)
                exfalso; omega
        · have hr1 := hc1; (try simp only [hcs, Int.reduceToNat] at hc1)
          exfalso; simp at hr1
      · have hr0 := hc0; (try simp only [hcs, Int.reduceToNat] at hc0)
        exfalso; simp at hr0
    · have hr1 := hc1; (try simp only [hcs, Int.reduceToNat] at hc1)
      exfalso; simp at hr1
  · have hr0 := hc0; (try simp only [hcs, Int.reduceToNat] at hc0)
    exfalso; simp at hr0
theorem bd_times (l : List Sg) (p q : Nat) (hl : l.length ≤ 1000) (q' : Nat) (t : T) (h5 : kd l q' = 5) (hs0 : Seg l 0 p q' t) (hpq1 : p < q') (hq : q = q' + 1) (hql : q ≤ l.length) (hpq : p ≤ q) {v : Nat} (hv : v ≤ 1) (hsg : Seg l v p q (.times (l.getD q' default).low (l.getD q' default).high t)) (ih : BdC l p q' t) : BdC l p q (.times (l.getD q' default).low (l.getD q' default).high t) := by
  intro c g out ho
  obtain ⟨cb, hcb⟩ : ∃ cb, cb = c := ⟨_, rfl⟩
  subst hcb
  refine hfun_of Tryd.func65 rfl (by kernel_rfl) _ _ _ _ rfl 126 rfl rfl (fun X ok hX => ?_)
  refine hw_seq (fun Nh1 h1 => ?_)
  refine hw_region ?_
  refine hq_ 8 (hop_assign rfl) rfl rfl pre0 rfl rfl ?_
  refine hseq_nil ?_
  refine h1 _ ?_
  refine hw_seq (fun Nh2 h2 => ?_)
  refine hw_seq (fun Nh3 h3 => ?_)
  refine hw_region ?_
  refine hq_ 9 (hop_assign rfl) rfl rfl pre0 rfl rfl ?_
  refine hseq_nil ?_
  refine h3 _ ?_
  refine hw_block ?_
  refine hw_rounds 3 ?_
  refine hr_succ (fun NhU4 hU4 => ?_)
  refine hw_seq (fun Nh5 h5 => ?_)
  refine hw_seq (fun Nh6 h6 => ?_)
  refine hw_region ?_
  refine hq_ 14 (hop_move rfl) rfl rfl pre0 rfl rfl ?_
  refine hq_ 15 (hop_geq rfl rfl) rfl rfl pre0 rfl rfl ?_
  refine hseq_nil ?_
  refine h6 _ ?_
  refine hw_cond _ rfl (fun hc0 => ?_) (fun hc0 => ?_)
  · have hr0 := hc0; (try simp only [hcs, Int.reduceToNat] at hc0)
    refine hw_skip ?_
    refine h5 _ ?_
    refine hw_seq (fun Nh7 h7 => ?_)
    refine hw_block ?_
    refine hw_seq (fun Nh8 h8 => ?_)
    refine hw_region ?_
    refine hq_ 18 (hop_move rfl) rfl rfl pre0 rfl rfl ?_
    refine hq_ 19 (hop_move rfl) rfl rfl pre0 rfl rfl ?_
    refine hq_ 20 (hop_move rfl) rfl rfl pre0 rfl rfl ?_
    refine hq_ 21 (hop_move rfl) rfl rfl pre0 rfl rfl ?_
    refine hq_ 22 (hop_call0 (xs := [_, _, _, _]) ((show HPure Tryd.prog 87 [sgsV l, intV p, intV q, intV 3] (kidsV [(p : Int), (q : Int)]) from (by rw [← cuts_item hsg hv]; exact cuts_h l p q 3 hl hql hpq))) ⟨rfl, ⟨rfl, ⟨rfl, ⟨rfl, trivial⟩⟩⟩⟩ ⟨(Fz.eq rfl), ⟨(Fz.eq rfl), ⟨(Fz.eq rfl), ⟨(Fz.eq rfl), trivial⟩⟩⟩⟩) rfl rfl pre0 rfl rfl ?_
    refine hq_ 10 (hop_assign rfl) rfl rfl pre0 rfl rfl ?_
    refine hseq_nil ?_
    refine h8 _ ?_
    refine hw_seq (fun Nh9 h9 => ?_)
    refine hw_seq (fun Nh10 h10 => ?_)
    refine hw_region ?_
    refine hq_ 23 (hop_move rfl) rfl rfl pre0 rfl rfl ?_
    refine hq_ 24 (hop_len_sl (T := 98) rfl (elOf_spec el_98).1 rfl) rfl rfl pre0 rfl rfl ?_
    refine hq_ 25 (hop_eql rfl rfl) rfl rfl pre0 rfl rfl ?_
    refine hseq_nil ?_
    refine h10 _ ?_
    refine hw_cond _ rfl (fun hc1 => ?_) (fun hc1 => ?_)
    · have hr1 := hc1; (try simp only [hcs, Int.reduceToNat] at hc1)
      refine hw_exit ?_
      refine hq_then_exit ?_
      refine hq_block_here ?_
      refine h7 _ ?_
      refine hw_region ?_
      refine hq_ 16 (hop_move rfl) rfl rfl pre0 rfl rfl ?_
      refine hq_ 17 (hop_subi rfl rfl rfl (by omega) (by omega)) rfl rfl pre0 rfl rfl ?_
      refine hq_ 9 (hop_assign rfl) rfl rfl pre0 rfl rfl ?_
      refine hseq_nil ?_
      refine hU4 _ ?_
      refine hr_succ (fun NhU11 hU11 => ?_)
      refine hw_seq (fun Nh12 h12 => ?_)
      refine hw_seq (fun Nh13 h13 => ?_)
      refine hw_region ?_
      refine hq_ 14 (hop_move rfl) rfl rfl pre0 rfl rfl ?_
      refine hq_ 15 (hop_geq rfl rfl) rfl rfl pre0 rfl rfl ?_
      refine hseq_nil ?_
      refine h13 _ ?_
      refine hw_cond _ rfl (fun hc0 => ?_) (fun hc0 => ?_)
      · have hr0 := hc0; (try simp only [hcs, Int.reduceToNat] at hc0)
        refine hw_skip ?_
        refine h12 _ ?_
        refine hw_seq (fun Nh14 h14 => ?_)
        refine hw_block ?_
        refine hw_seq (fun Nh15 h15 => ?_)
        refine hw_region ?_
        refine hq_ 18 (hop_move rfl) rfl rfl pre0 rfl rfl ?_
        refine hq_ 19 (hop_move rfl) rfl rfl pre0 rfl rfl ?_
        refine hq_ 20 (hop_move rfl) rfl rfl pre0 rfl rfl ?_
        refine hq_ 21 (hop_move rfl) rfl rfl pre0 rfl rfl ?_
        refine hq_ 22 (hop_call0 (xs := [_, _, _, _]) ((show HPure Tryd.prog 87 [sgsV l, intV p, intV q, intV 2] (kidsV [(p : Int), (q : Int)]) from (by rw [← cuts_item hsg hv]; exact cuts_h l p q 2 hl hql hpq))) ⟨rfl, ⟨rfl, ⟨rfl, ⟨rfl, trivial⟩⟩⟩⟩ ⟨(Fz.eq rfl), ⟨(Fz.eq rfl), ⟨(Fz.eq rfl), ⟨(Fz.eq rfl), trivial⟩⟩⟩⟩) rfl rfl pre0 rfl rfl ?_
        refine hq_ 10 (hop_assign rfl) rfl rfl pre0 rfl rfl ?_
        refine hseq_nil ?_
        refine h15 _ ?_
        refine hw_seq (fun Nh16 h16 => ?_)
        refine hw_seq (fun Nh17 h17 => ?_)
        refine hw_region ?_
        refine hq_ 23 (hop_move rfl) rfl rfl pre0 rfl rfl ?_
        refine hq_ 24 (hop_len_sl (T := 98) rfl (elOf_spec el_98).1 rfl) rfl rfl pre0 rfl rfl ?_
        refine hq_ 25 (hop_eql rfl rfl) rfl rfl pre0 rfl rfl ?_
        refine hseq_nil ?_
        refine h17 _ ?_
        refine hw_cond _ rfl (fun hc1 => ?_) (fun hc1 => ?_)
        · have hr1 := hc1; (try simp only [hcs, Int.reduceToNat] at hc1)
          refine hw_exit ?_
          refine hq_then_exit ?_
          refine hq_block_here ?_
          refine h14 _ ?_
          refine hw_region ?_
          refine hq_ 16 (hop_move rfl) rfl rfl pre0 rfl rfl ?_
          refine hq_ 17 (hop_subi rfl rfl rfl (by omega) (by omega)) rfl rfl pre0 rfl rfl ?_
          refine hq_ 9 (hop_assign rfl) rfl rfl pre0 rfl rfl ?_
          refine hseq_nil ?_
          refine hU11 _ ?_
          refine hr_succ (fun NhU18 hU18 => ?_)
          refine hw_seq (fun Nh19 h19 => ?_)
          refine hw_seq (fun Nh20 h20 => ?_)
          refine hw_region ?_
          refine hq_ 14 (hop_move rfl) rfl rfl pre0 rfl rfl ?_
          refine hq_ 15 (hop_geq rfl rfl) rfl rfl pre0 rfl rfl ?_
          refine hseq_nil ?_
          refine h20 _ ?_
          refine hw_cond _ rfl (fun hc0 => ?_) (fun hc0 => ?_)
          · have hr0 := hc0; (try simp only [hcs, Int.reduceToNat] at hc0)
            exfalso; simp at hr0
          · have hr0 := hc0; (try simp only [hcs, Int.reduceToNat] at hc0)
            refine hw_exit ?_
            refine hq_then_exit ?_
            refine hq_then_exit ?_
            refine hq_block_here ?_
            refine h2 _ ?_
            refine hw_seq (fun Nh21 h21 => ?_)
            refine hw_seq (fun Nh22 h22 => ?_)
            refine hw_region ?_
            refine hq_ 71 (hop_move rfl) rfl rfl pre0 rfl rfl ?_
            refine hq_ 72 (hop_move rfl) rfl rfl pre0 rfl rfl ?_
            refine hq_ 73 (hop_subi rfl rfl rfl (by omega) (by omega)) rfl rfl pre0 rfl rfl ?_
            refine hq_ 74 (hop_ia_sl el_36 rfl rfl (by omega) (by omega) (nb rfl)) rfl rfl pre0 rfl rfl ?_
            refine hq_ 75 (hop_fa_fp fd_40_0 rfl (nb rfl)) rfl rfl pre0 rfl rfl ?_
            refine hq_ 76 (HOp.val (v' := intV (kd l q')) (hop_load_fp ty_3 rfl (nb rfl) (fun h => (by rfl))) (sg_at (by omega) (by omega))) rfl rfl pre0 rfl rfl ?_
            refine hq_ 77 (hop_eql rfl rfl) rfl rfl pre0 rfl rfl ?_
            refine hseq_nil ?_
            refine h22 _ ?_
            refine hw_cond _ rfl (fun hc4 => ?_) (fun hc4 => ?_)
            · have hr4 := hc4; (try simp only [hcs, Int.reduceToNat] at hc4)
              refine hw_seq (fun Nh23 h23 => ?_)
              refine hw_region ?_
              refine hq_ 78 (hop_move rfl) rfl rfl pre0 rfl rfl ?_
              refine hq_ 79 (hop_move rfl) rfl rfl pre0 rfl rfl ?_
              refine hq_ 80 (hop_move rfl) rfl rfl pre0 rfl rfl ?_
              refine hq_ 81 (hop_move rfl) rfl rfl pre0 rfl rfl ?_
              refine hq_ 82 (HOp.val (v' := intV (q' : Int)) (hop_subi rfl rfl rfl (by omega) (by omega)) (by rw [show (q : Int) - 1 = (q' : Int) by omega])) rfl rfl pre0 rfl rfl ?_
              refine hf_callR 83 (xs := [_, _, _, _]) (pre := [(9003, _)]) (ih _ g out ho) ⟨rfl, ⟨rfl, ⟨rfl, ⟨rfl, trivial⟩⟩⟩⟩ (preC rfl pre0) rfl rfl (fun g3 c1 hx1 => ?_)
              (try dsimp only)
              refine hq_ 0 (hop_assign rfl) rfl rfl pre0 rfl rfl ?_
              refine hseq_nil ?_
              refine h23 _ ?_
              refine hw_seq (fun Nh24 h24 => ?_)
              have hfl := T.flat_len out.length t; have hsz := seg_size hs0; have hol : (out ++ T.flat out.length t).length = out.length + t.size := (by rw [List.length_append, hfl])
              refine hd_start ?_
              refine hd_q 84 (hop_move rfl) rfl rfl pre0 rfl rfl (k' := 1) rfl ?_
              refine hd_q 85 (hop_move rfl) rfl rfl pre0 rfl rfl (k' := 2) rfl ?_
              refine hd_q 86 (hop_move rfl) rfl rfl pre0 rfl rfl (k' := 3) rfl ?_
              refine hd_q 87 (hop_subi rfl rfl rfl (by omega) (by omega)) rfl rfl pre0 rfl rfl (k' := 4) rfl ?_
              refine hd_q 88 (hop_ia_sl el_36 rfl rfl (by omega) (by omega) (nb rfl)) rfl rfl pre0 rfl rfl (k' := 5) rfl ?_
              refine hd_q 89 (hop_fa_fp fd_40_2 rfl (nb rfl)) rfl rfl pre0 rfl rfl (k' := 6) rfl ?_
              refine hd_q 90 (HOp.val (v' := intV (l.getD q' default).low) (hop_load_fp ty_3 rfl (nb rfl) (fun h => (by rfl))) (by rw [show ((q : Int) - 1).toNat = q' by omega]; rfl)) rfl rfl pre0 rfl rfl (k' := 7) rfl ?_
              refine hd_q 91 (hop_move rfl) rfl rfl pre0 rfl rfl (k' := 8) rfl ?_
              refine hd_q 92 (hop_move rfl) rfl rfl pre0 rfl rfl (k' := 9) rfl ?_
              refine hd_q 93 (hop_subi rfl rfl rfl (by omega) (by omega)) rfl rfl pre0 rfl rfl (k' := 10) rfl ?_
              refine hd_q 94 (hop_ia_sl el_36 rfl rfl (by omega) (by omega) (nb rfl)) rfl rfl pre0 rfl rfl (k' := 11) rfl ?_
              refine hd_q 95 (hop_fa_fp fd_40_3 rfl (nb rfl)) rfl rfl pre0 rfl rfl (k' := 12) rfl ?_
              refine hd_q 96 (HOp.val (v' := intV (l.getD q' default).high) (hop_load_fp ty_3 rfl (nb rfl) (fun h => (by rfl))) (by rw [show ((q : Int) - 1).toNat = q' by omega]; rfl)) rfl rfl pre0 rfl rfl (k' := 13) rfl ?_
              refine hd_q 97 (hop_move rfl) rfl rfl pre0 rfl rfl (k' := 14) rfl ?_
              refine hd_q 98 (hop_len_os (T := 55) rfl (elOf_spec el_55).1 rfl) rfl rfl pre0 rfl rfl (k' := 15) rfl ?_
              refine hd_q 99 (hop_subi rfl rfl rfl (by omega) (by omega)) rfl rfl pre0 rfl rfl (k' := 16) rfl ?_
              refine hd_1 100 (hop_buildSlice (id := 100) (hs := [_]) ei_98 (nb rfl) rfl (nb rfl) ⟨rfl, rfl, rfl, rfl, trivial⟩) rfl rfl pre0 rfl rfl (k' := 17) rfl ?_
              refine hd_q 101 (hop_build (hs := [(0, 1, _), (1, 1, _), (2, 1, _), (4, 1, _)]) st_109 rfl rfl ⟨rfl, rfl, rfl, rfl, rfl, ⟨rfl, rfl, rfl, rfl, rfl, ⟨rfl, rfl, rfl, rfl, rfl, ⟨rfl, rfl, rfl, rfl, rfl, trivial⟩⟩⟩⟩) rfl rfl pre0 rfl rfl (k' := 18) rfl ?_
              refine hd_1 102 (hop_buildSlice (id := 102) (hs := [_]) ei_55 (nb rfl) rfl (nb rfl) ⟨rfl, rfl, rfl, rfl, trivial⟩) rfl rfl pre0 rfl rfl (k' := 19) rfl ?_
              refine hd_1 103 (hol_append ei_55 (nb rfl) rfl (by omega) (nb rfl) (srl_os0 rfl (nb rfl)) (by omega) rfl) rfl rfl (preC rfl (pre1 rfl)) rfl rfl (k' := 20) rfl ?_
              refine hd_q 8 (hop_assign rfl) rfl rfl pre0 rfl rfl (k' := 21) rfl ?_
              refine hd_nil (by kernel_rfl) (by kernel_rfl) (c' := c1 + 21) rfl ?_
              refine h24 _ ?_
              refine hw_ret ?_
              refine hq_then_ret ?_
              refine hf_retR1 ok hX RetS.one rfl (rval_tmp rfl) [(100, _)] rfl (preC rfl pre0) (_) (trivial) (by rfl) (by rfl) (kz_os rfl rfl (by first | (simp [T.flat]; done) | (simp [T.flat]; omega))) ?_
              exact ⟨⟨_, rfl, okz_snoc (o := out ++ T.flat out.length t) (x := ⟨4, (l.getD q' default).low, (l.getD q' default).high, [], [((out.length + t.size : Nat) : Int) - 1]⟩) rfl (by first | (simp only [T.flat, List.append_assoc]; done) | (simp [T.flat]; done) | rfl) (fz_pt (.imm _) (.imm _) (.imm _) (.imm _) (fz_row (l := [((out.length + t.size : Nat) : Int) - 1]) (enc := fun x _ => intV x) (d := 0) (List.mem_cons_self ..) rfl rfl (Nat.le_refl _) (fun i j hi hj => by obtain rfl : i = 0 := (by simpa using hi); exact fz_int (by rw [List.length_append, hfl]; rfl))))⟩, trivial⟩
            · have hr4 := hc4; (try simp only [hcs, Int.reduceToNat] at hc4)
              exfalso; omega
        · have hr1 := hc1; (try simp only [hcs, Int.reduceToNat] at hc1)
          exfalso; simp at hr1
      · have hr0 := hc0; (try simp only [hcs, Int.reduceToNat] at hc0)
        exfalso; simp at hr0
    · have hr1 := hc1; (try simp only [hcs, Int.reduceToNat] at hc1)
      exfalso; simp at hr1
  · have hr0 := hc0; (try simp only [hcs, Int.reduceToNat] at hc0)
    exfalso; simp at hr0
theorem bd_timesN (l : List Sg) (p q : Nat) (hl : l.length ≤ 1000) (q' : Nat) (t : T) (h5 : kd l q' = 5) (hs0 : Seg l 0 p q' t) (hpq1 : p < q') (hq : q = q' + 1) (hql : q ≤ l.length) (hpq : p ≤ q) {v : Nat} (hv : v ≤ 1) (hsg : Seg l v p q (.times (l.getD q' default).low (l.getD q' default).high t)) (ih : BdC l p q' t) : BdN l p q (.times (l.getD q' default).low (l.getD q' default).high t) := by
  intro c
  obtain ⟨cb, hcb⟩ : ∃ cb, cb = c + 1 := ⟨_, rfl⟩
  have ho : ([] : List Pt).length ≤ 2 * p := Nat.zero_le _
  refine hfun_of Tryd.func65 rfl (by kernel_rfl) _ _ _ _ rfl 126 rfl rfl (fun X ok hX => ?_)
  refine hw_seq (fun Nh1 h1 => ?_)
  refine hw_own 0 9003 5 109 (ptsF []) rfl (by decide) rfl (c' := cb) hcb.symm ?_
  refine hw_region ?_
  refine hq_ 8 (hop_assign rfl) rfl rfl pre0 rfl rfl ?_
  refine hseq_nil ?_
  refine h1 _ ?_
  refine hw_seq (fun Nh2 h2 => ?_)
  refine hw_seq (fun Nh3 h3 => ?_)
  refine hw_region ?_
  refine hq_ 9 (hop_assign rfl) rfl rfl pre0 rfl rfl ?_
  refine hseq_nil ?_
  refine h3 _ ?_
  refine hw_block ?_
  refine hw_rounds 3 ?_
  refine hr_succ (fun NhU4 hU4 => ?_)
  refine hw_seq (fun Nh5 h5 => ?_)
  refine hw_seq (fun Nh6 h6 => ?_)
  refine hw_region ?_
  refine hq_ 14 (hop_move rfl) rfl rfl pre0 rfl rfl ?_
  refine hq_ 15 (hop_geq rfl rfl) rfl rfl pre0 rfl rfl ?_
  refine hseq_nil ?_
  refine h6 _ ?_
  refine hw_cond _ rfl (fun hc0 => ?_) (fun hc0 => ?_)
  · have hr0 := hc0; (try simp only [hcs, Int.reduceToNat] at hc0)
    refine hw_skip ?_
    refine h5 _ ?_
    refine hw_seq (fun Nh7 h7 => ?_)
    refine hw_block ?_
    refine hw_seq (fun Nh8 h8 => ?_)
    refine hw_region ?_
    refine hq_ 18 (hop_move rfl) rfl rfl pre0 rfl rfl ?_
    refine hq_ 19 (hop_move rfl) rfl rfl pre0 rfl rfl ?_
    refine hq_ 20 (hop_move rfl) rfl rfl pre0 rfl rfl ?_
    refine hq_ 21 (hop_move rfl) rfl rfl pre0 rfl rfl ?_
    refine hq_ 22 (hop_call0 (xs := [_, _, _, _]) ((show HPure Tryd.prog 87 [sgsV l, intV p, intV q, intV 3] (kidsV [(p : Int), (q : Int)]) from (by rw [← cuts_item hsg hv]; exact cuts_h l p q 3 hl hql hpq))) ⟨rfl, ⟨rfl, ⟨rfl, ⟨rfl, trivial⟩⟩⟩⟩ ⟨(Fz.eq rfl), ⟨(Fz.eq rfl), ⟨(Fz.eq rfl), ⟨(Fz.eq rfl), trivial⟩⟩⟩⟩) rfl rfl pre0 rfl rfl ?_
    refine hq_ 10 (hop_assign rfl) rfl rfl pre0 rfl rfl ?_
    refine hseq_nil ?_
    refine h8 _ ?_
    refine hw_seq (fun Nh9 h9 => ?_)
    refine hw_seq (fun Nh10 h10 => ?_)
    refine hw_region ?_
    refine hq_ 23 (hop_move rfl) rfl rfl pre0 rfl rfl ?_
    refine hq_ 24 (hop_len_sl (T := 98) rfl (elOf_spec el_98).1 rfl) rfl rfl pre0 rfl rfl ?_
    refine hq_ 25 (hop_eql rfl rfl) rfl rfl pre0 rfl rfl ?_
    refine hseq_nil ?_
    refine h10 _ ?_
    refine hw_cond _ rfl (fun hc1 => ?_) (fun hc1 => ?_)
    · have hr1 := hc1; (try simp only [hcs, Int.reduceToNat] at hc1)
      refine hw_exit ?_
      refine hq_then_exit ?_
      refine hq_block_here ?_
      refine h7 _ ?_
      refine hw_region ?_
      refine hq_ 16 (hop_move rfl) rfl rfl pre0 rfl rfl ?_
      refine hq_ 17 (hop_subi rfl rfl rfl (by omega) (by omega)) rfl rfl pre0 rfl rfl ?_
      refine hq_ 9 (hop_assign rfl) rfl rfl pre0 rfl rfl ?_
      refine hseq_nil ?_
      refine hU4 _ ?_
      refine hr_succ (fun NhU11 hU11 => ?_)
      refine hw_seq (fun Nh12 h12 => ?_)
      refine hw_seq (fun Nh13 h13 => ?_)
      refine hw_region ?_
      refine hq_ 14 (hop_move rfl) rfl rfl pre0 rfl rfl ?_
      refine hq_ 15 (hop_geq rfl rfl) rfl rfl pre0 rfl rfl ?_
      refine hseq_nil ?_
      refine h13 _ ?_
      refine hw_cond _ rfl (fun hc0 => ?_) (fun hc0 => ?_)
      · have hr0 := hc0; (try simp only [hcs, Int.reduceToNat] at hc0)
        refine hw_skip ?_
        refine h12 _ ?_
        refine hw_seq (fun Nh14 h14 => ?_)
        refine hw_block ?_
        refine hw_seq (fun Nh15 h15 => ?_)
        refine hw_region ?_
        refine hq_ 18 (hop_move rfl) rfl rfl pre0 rfl rfl ?_
        refine hq_ 19 (hop_move rfl) rfl rfl pre0 rfl rfl ?_
        refine hq_ 20 (hop_move rfl) rfl rfl pre0 rfl rfl ?_
        refine hq_ 21 (hop_move rfl) rfl rfl pre0 rfl rfl ?_
        refine hq_ 22 (hop_call0 (xs := [_, _, _, _]) ((show HPure Tryd.prog 87 [sgsV l, intV p, intV q, intV 2] (kidsV [(p : Int), (q : Int)]) from (by rw [← cuts_item hsg hv]; exact cuts_h l p q 2 hl hql hpq))) ⟨rfl, ⟨rfl, ⟨rfl, ⟨rfl, trivial⟩⟩⟩⟩ ⟨(Fz.eq rfl), ⟨(Fz.eq rfl), ⟨(Fz.eq rfl), ⟨(Fz.eq rfl), trivial⟩⟩⟩⟩) rfl rfl pre0 rfl rfl ?_
        refine hq_ 10 (hop_assign rfl) rfl rfl pre0 rfl rfl ?_
        refine hseq_nil ?_
        refine h15 _ ?_
        refine hw_seq (fun Nh16 h16 => ?_)
        refine hw_seq (fun Nh17 h17 => ?_)
        refine hw_region ?_
        refine hq_ 23 (hop_move rfl) rfl rfl pre0 rfl rfl ?_
        refine hq_ 24 (hop_len_sl (T := 98) rfl (elOf_spec el_98).1 rfl) rfl rfl pre0 rfl rfl ?_
        refine hq_ 25 (hop_eql rfl rfl) rfl rfl pre0 rfl rfl ?_
        refine hseq_nil ?_
        refine h17 _ ?_
        refine hw_cond _ rfl (fun hc1 => ?_) (fun hc1 => ?_)
        · have hr1 := hc1; (try simp only [hcs, Int.reduceToNat] at hc1)
          refine hw_exit ?_
          refine hq_then_exit ?_
          refine hq_block_here ?_
          refine h14 _ ?_
          refine hw_region ?_
          refine hq_ 16 (hop_move rfl) rfl rfl pre0 rfl rfl ?_
          refine hq_ 17 (hop_subi rfl rfl rfl (by omega) (by omega)) rfl rfl pre0 rfl rfl ?_
          refine hq_ 9 (hop_assign rfl) rfl rfl pre0 rfl rfl ?_
          refine hseq_nil ?_
          refine hU11 _ ?_
          refine hr_succ (fun NhU18 hU18 => ?_)
          refine hw_seq (fun Nh19 h19 => ?_)
          refine hw_seq (fun Nh20 h20 => ?_)
          refine hw_region ?_
          refine hq_ 14 (hop_move rfl) rfl rfl pre0 rfl rfl ?_
          refine hq_ 15 (hop_geq rfl rfl) rfl rfl pre0 rfl rfl ?_
          refine hseq_nil ?_
          refine h20 _ ?_
          refine hw_cond _ rfl (fun hc0 => ?_) (fun hc0 => ?_)
          · have hr0 := hc0; (try simp only [hcs, Int.reduceToNat] at hc0)
            exfalso; simp at hr0
          · have hr0 := hc0; (try simp only [hcs, Int.reduceToNat] at hc0)
            refine hw_exit ?_
            refine hq_then_exit ?_
            refine hq_then_exit ?_
            refine hq_block_here ?_
            refine h2 _ ?_
            refine hw_seq (fun Nh21 h21 => ?_)
            refine hw_seq (fun Nh22 h22 => ?_)
            refine hw_region ?_
            refine hq_ 71 (hop_move rfl) rfl rfl pre0 rfl rfl ?_
            refine hq_ 72 (hop_move rfl) rfl rfl pre0 rfl rfl ?_
            refine hq_ 73 (hop_subi rfl rfl rfl (by omega) (by omega)) rfl rfl pre0 rfl rfl ?_
            refine hq_ 74 (hop_ia_sl el_36 rfl rfl (by omega) (by omega) (nb rfl)) rfl rfl pre0 rfl rfl ?_
            refine hq_ 75 (hop_fa_fp fd_40_0 rfl (nb rfl)) rfl rfl pre0 rfl rfl ?_
            refine hq_ 76 (HOp.val (v' := intV (kd l q')) (hop_load_fp ty_3 rfl (nb rfl) (fun h => (by rfl))) (sg_at (by omega) (by omega))) rfl rfl pre0 rfl rfl ?_
            refine hq_ 77 (hop_eql rfl rfl) rfl rfl pre0 rfl rfl ?_
            refine hseq_nil ?_
            refine h22 _ ?_
            refine hw_cond _ rfl (fun hc4 => ?_) (fun hc4 => ?_)
            · have hr4 := hc4; (try simp only [hcs, Int.reduceToNat] at hc4)
              refine hw_seq (fun Nh23 h23 => ?_)
              refine hw_region ?_
              refine hq_ 78 (hop_move rfl) rfl rfl pre0 rfl rfl ?_
              refine hq_ 79 (hop_move rfl) rfl rfl pre0 rfl rfl ?_
              refine hq_ 80 (hop_move rfl) rfl rfl pre0 rfl rfl ?_
              refine hq_ 81 (hop_move rfl) rfl rfl pre0 rfl rfl ?_
              refine hq_ 82 (HOp.val (v' := intV (q' : Int)) (hop_subi rfl rfl rfl (by omega) (by omega)) (by rw [show (q : Int) - 1 = (q' : Int) by omega])) rfl rfl pre0 rfl rfl ?_
              refine hf_callR 83 (xs := [_, _, _, _]) (pre := [(9003, _)]) (ih _ c ([] : List Pt) ho) ⟨rfl, ⟨rfl, ⟨rfl, ⟨rfl, trivial⟩⟩⟩⟩ (preC rfl pre0) rfl rfl (fun g3 c1 hx1 => ?_)
              (try dsimp only)
              refine hq_ 0 (hop_assign rfl) rfl rfl pre0 rfl rfl ?_
              refine hseq_nil ?_
              refine h23 _ ?_
              refine hw_seq (fun Nh24 h24 => ?_)
              have hfl := T.flat_len ([] : List Pt).length t; have hsz := seg_size hs0; have hol : (([] : List Pt) ++ T.flat ([] : List Pt).length t).length = ([] : List Pt).length + t.size := (by rw [List.length_append, hfl])
              refine hd_start ?_
              refine hd_q 84 (hop_move rfl) rfl rfl pre0 rfl rfl (k' := 1) rfl ?_
              refine hd_q 85 (hop_move rfl) rfl rfl pre0 rfl rfl (k' := 2) rfl ?_
              refine hd_q 86 (hop_move rfl) rfl rfl pre0 rfl rfl (k' := 3) rfl ?_
              refine hd_q 87 (hop_subi rfl rfl rfl (by omega) (by omega)) rfl rfl pre0 rfl rfl (k' := 4) rfl ?_
              refine hd_q 88 (hop_ia_sl el_36 rfl rfl (by omega) (by omega) (nb rfl)) rfl rfl pre0 rfl rfl (k' := 5) rfl ?_
              refine hd_q 89 (hop_fa_fp fd_40_2 rfl (nb rfl)) rfl rfl pre0 rfl rfl (k' := 6) rfl ?_
              refine hd_q 90 (HOp.val (v' := intV (l.getD q' default).low) (hop_load_fp ty_3 rfl (nb rfl) (fun h => (by rfl))) (by rw [show ((q : Int) - 1).toNat = q' by omega]; rfl)) rfl rfl pre0 rfl rfl (k' := 7) rfl ?_
              refine hd_q 91 (hop_move rfl) rfl rfl pre0 rfl rfl (k' := 8) rfl ?_
              refine hd_q 92 (hop_move rfl) rfl rfl pre0 rfl rfl (k' := 9) rfl ?_
              refine hd_q 93 (hop_subi rfl rfl rfl (by omega) (by omega)) rfl rfl pre0 rfl rfl (k' := 10) rfl ?_
              refine hd_q 94 (hop_ia_sl el_36 rfl rfl (by omega) (by omega) (nb rfl)) rfl rfl pre0 rfl rfl (k' := 11) rfl ?_
              refine hd_q 95 (hop_fa_fp fd_40_3 rfl (nb rfl)) rfl rfl pre0 rfl rfl (k' := 12) rfl ?_
              refine hd_q 96 (HOp.val (v' := intV (l.getD q' default).high) (hop_load_fp ty_3 rfl (nb rfl) (fun h => (by rfl))) (by rw [show ((q : Int) - 1).toNat = q' by omega]; rfl)) rfl rfl pre0 rfl rfl (k' := 13) rfl ?_
              refine hd_q 97 (hop_move rfl) rfl rfl pre0 rfl rfl (k' := 14) rfl ?_
              refine hd_q 98 (hop_len_os (T := 55) rfl (elOf_spec el_55).1 rfl) rfl rfl pre0 rfl rfl (k' := 15) rfl ?_
              refine hd_q 99 (hop_subi rfl rfl rfl (by omega) (by omega)) rfl rfl pre0 rfl rfl (k' := 16) rfl ?_
              refine hd_1 100 (hop_buildSlice (id := 100) (hs := [_]) ei_98 (nb rfl) rfl (nb rfl) ⟨rfl, rfl, rfl, rfl, trivial⟩) rfl rfl pre0 rfl rfl (k' := 17) rfl ?_
              refine hd_q 101 (hop_build (hs := [(0, 1, _), (1, 1, _), (2, 1, _), (4, 1, _)]) st_109 rfl rfl ⟨rfl, rfl, rfl, rfl, rfl, ⟨rfl, rfl, rfl, rfl, rfl, ⟨rfl, rfl, rfl, rfl, rfl, ⟨rfl, rfl, rfl, rfl, rfl, trivial⟩⟩⟩⟩) rfl rfl pre0 rfl rfl (k' := 18) rfl ?_
              refine hd_1 102 (hop_buildSlice (id := 102) (hs := [_]) ei_55 (nb rfl) rfl (nb rfl) ⟨rfl, rfl, rfl, rfl, trivial⟩) rfl rfl pre0 rfl rfl (k' := 19) rfl ?_
              refine hd_1 103 (hol_append ei_55 (nb rfl) rfl (by omega) (nb rfl) (srl_os0 rfl (nb rfl)) (by omega) rfl) rfl rfl (preC rfl (pre1 rfl)) rfl rfl (k' := 20) rfl ?_
              refine hd_q 8 (hop_assign rfl) rfl rfl pre0 rfl rfl (k' := 21) rfl ?_
              refine hd_nil (by kernel_rfl) (by kernel_rfl) (c' := c1 + 21) rfl ?_
              refine h24 _ ?_
              refine hw_ret ?_
              refine hq_then_ret ?_
              refine hf_retR1 ok hX RetS.one rfl (rval_tmp rfl) [(100, _)] rfl (preC rfl pre0) (_) (trivial) (by rfl) (by rfl) (kz_os rfl rfl (by first | (simp [T.flat]; done) | (simp [T.flat]; omega))) ?_
              exact ⟨⟨_, rfl, okz_snoc (o := ([] : List Pt) ++ T.flat ([] : List Pt).length t) (x := ⟨4, (l.getD q' default).low, (l.getD q' default).high, [], [((([] : List Pt).length + t.size : Nat) : Int) - 1]⟩) rfl (by first | (simp only [T.flat, List.append_assoc]; done) | (simp [T.flat]; done) | rfl) (fz_pt (.imm _) (.imm _) (.imm _) (.imm _) (fz_row (l := [((([] : List Pt).length + t.size : Nat) : Int) - 1]) (enc := fun x _ => intV x) (d := 0) (List.mem_cons_self ..) rfl rfl (Nat.le_refl _) (fun i j hi hj => by obtain rfl : i = 0 := (by simpa using hi); exact fz_int (by rw [List.length_append, hfl]; rfl))))⟩, trivial⟩
            · have hr4 := hc4; (try simp only [hcs, Int.reduceToNat] at hc4)
              exfalso; omega
        · have hr1 := hc1; (try simp only [hcs, Int.reduceToNat] at hc1)
          exfalso; simp at hr1
      · have hr0 := hc0; (try simp only [hcs, Int.reduceToNat] at hc0)
        exfalso; simp at hr0
    · have hr1 := hc1; (try simp only [hcs, Int.reduceToNat] at hc1)
      exfalso; simp at hr1
  · have hr0 := hc0; (try simp only [hcs, Int.reduceToNat] at hc0)
    exfalso; simp at hr0
theorem bd_row (l : List Sg) (p q : Nat) (hl : l.length ≤ 1000) (ts : List T) (B : List Int) (m : Nat) (s e : Nat → Nat) (hC : Cuts l B m p q ts s e) (hql : q ≤ l.length) (hpq : p ≤ q) (ih : ∀ i, i < ts.length → BdC l (s i) (e i) (ts.getD i default)) (hsg : Seg l 2 p q (.many 2 ts)) (hB : B = cutAt l p q 2 p [(p : Int)] ++ [(q : Int)]) (hend : ∀ i, i < m → B.getD (i + 1) 0 = (e i : Int)) : BdC l p q (.many 2 ts) := by
  intro c g out ho
  obtain ⟨cb, hcb⟩ : ∃ cb, cb = c := ⟨_, rfl⟩
  subst hcb
  have hCl := hC.hlen
  have hCm := hC.hm
  have hC2 := hC.htwo
  have hCb := hC.hmb
  refine hfun_of Tryd.func65 rfl (by kernel_rfl) _ _ _ _ rfl 126 rfl rfl (fun X ok hX => ?_)
  refine hw_seq (fun Nh1 h1 => ?_)
  refine hw_region ?_
  refine hq_ 8 (hop_assign rfl) rfl rfl pre0 rfl rfl ?_
  refine hseq_nil ?_
  refine h1 _ ?_
  refine hw_seq (fun Nh2 h2 => ?_)
  refine hw_seq (fun Nh3 h3 => ?_)
  refine hw_region ?_
  refine hq_ 9 (hop_assign rfl) rfl rfl pre0 rfl rfl ?_
  refine hseq_nil ?_
  refine h3 _ ?_
  refine hw_block ?_
  refine hw_rounds 3 ?_
  refine hr_succ (fun NhU4 hU4 => ?_)
  refine hw_seq (fun Nh5 h5 => ?_)
  refine hw_seq (fun Nh6 h6 => ?_)
  refine hw_region ?_
  refine hq_ 14 (hop_move rfl) rfl rfl pre0 rfl rfl ?_
  refine hq_ 15 (hop_geq rfl rfl) rfl rfl pre0 rfl rfl ?_
  refine hseq_nil ?_
  refine h6 _ ?_
  refine hw_cond _ rfl (fun hc0 => ?_) (fun hc0 => ?_)
  · have hr0 := hc0; (try simp only [hcs, Int.reduceToNat] at hc0)
    refine hw_skip ?_
    refine h5 _ ?_
    refine hw_seq (fun Nh7 h7 => ?_)
    refine hw_block ?_
    refine hw_seq (fun Nh8 h8 => ?_)
    refine hw_region ?_
    refine hq_ 18 (hop_move rfl) rfl rfl pre0 rfl rfl ?_
    refine hq_ 19 (hop_move rfl) rfl rfl pre0 rfl rfl ?_
    refine hq_ 20 (hop_move rfl) rfl rfl pre0 rfl rfl ?_
    refine hq_ 21 (hop_move rfl) rfl rfl pre0 rfl rfl ?_
    refine hq_ 22 (hop_call0 (xs := [_, _, _, _]) ((show HPure Tryd.prog 87 [sgsV l, intV p, intV q, intV 3] (kidsV [(p : Int), (q : Int)]) from (by rw [← cuts_row3 hsg]; exact cuts_h l p q 3 hl hql hpq))) ⟨rfl, ⟨rfl, ⟨rfl, ⟨rfl, trivial⟩⟩⟩⟩ ⟨(Fz.eq rfl), ⟨(Fz.eq rfl), ⟨(Fz.eq rfl), ⟨(Fz.eq rfl), trivial⟩⟩⟩⟩) rfl rfl pre0 rfl rfl ?_
    refine hq_ 10 (hop_assign rfl) rfl rfl pre0 rfl rfl ?_
    refine hseq_nil ?_
    refine h8 _ ?_
    refine hw_seq (fun Nh9 h9 => ?_)
    refine hw_seq (fun Nh10 h10 => ?_)
    refine hw_region ?_
    refine hq_ 23 (hop_move rfl) rfl rfl pre0 rfl rfl ?_
    refine hq_ 24 (hop_len_sl (T := 98) rfl (elOf_spec el_98).1 rfl) rfl rfl pre0 rfl rfl ?_
    refine hq_ 25 (hop_eql rfl rfl) rfl rfl pre0 rfl rfl ?_
    refine hseq_nil ?_
    refine h10 _ ?_
    refine hw_cond _ rfl (fun hc1 => ?_) (fun hc1 => ?_)
    · have hr1 := hc1; (try simp only [hcs, Int.reduceToNat] at hc1)
      refine hw_exit ?_
      refine hq_then_exit ?_
      refine hq_block_here ?_
      refine h7 _ ?_
      refine hw_region ?_
      refine hq_ 16 (hop_move rfl) rfl rfl pre0 rfl rfl ?_
      refine hq_ 17 (hop_subi rfl rfl rfl (by omega) (by omega)) rfl rfl pre0 rfl rfl ?_
      refine hq_ 9 (hop_assign rfl) rfl rfl pre0 rfl rfl ?_
      refine hseq_nil ?_
      refine hU4 _ ?_
      refine hr_succ (fun NhU11 hU11 => ?_)
      refine hw_seq (fun Nh12 h12 => ?_)
      refine hw_seq (fun Nh13 h13 => ?_)
      refine hw_region ?_
      refine hq_ 14 (hop_move rfl) rfl rfl pre0 rfl rfl ?_
      refine hq_ 15 (hop_geq rfl rfl) rfl rfl pre0 rfl rfl ?_
      refine hseq_nil ?_
      refine h13 _ ?_
      refine hw_cond _ rfl (fun hc0 => ?_) (fun hc0 => ?_)
      · have hr0 := hc0; (try simp only [hcs, Int.reduceToNat] at hc0)
        refine hw_skip ?_
        refine h12 _ ?_
        refine hw_seq (fun Nh14 h14 => ?_)
        refine hw_block ?_
        refine hw_seq (fun Nh15 h15 => ?_)
        refine hw_region ?_
        refine hq_ 18 (hop_move rfl) rfl rfl pre0 rfl rfl ?_
        refine hq_ 19 (hop_move rfl) rfl rfl pre0 rfl rfl ?_
        refine hq_ 20 (hop_move rfl) rfl rfl pre0 rfl rfl ?_
        refine hq_ 21 (hop_move rfl) rfl rfl pre0 rfl rfl ?_
        refine hq_ 22 (hop_call0 (xs := [_, _, _, _]) ((show HPure Tryd.prog 87 [sgsV l, intV p, intV q, intV 2] (kidsV B) from (by rw [hB]; exact cuts_h l p q 2 hl hql hpq))) ⟨rfl, ⟨rfl, ⟨rfl, ⟨rfl, trivial⟩⟩⟩⟩ ⟨(Fz.eq rfl), ⟨(Fz.eq rfl), ⟨(Fz.eq rfl), ⟨(Fz.eq rfl), trivial⟩⟩⟩⟩) rfl rfl pre0 rfl rfl ?_
        refine hq_ 10 (hop_assign rfl) rfl rfl pre0 rfl rfl ?_
        refine hseq_nil ?_
        refine h15 _ ?_
        refine hw_seq (fun Nh16 h16 => ?_)
        refine hw_seq (fun Nh17 h17 => ?_)
        refine hw_region ?_
        refine hq_ 23 (hop_move rfl) rfl rfl pre0 rfl rfl ?_
        refine hq_ 24 (hop_len_sl (T := 98) rfl (elOf_spec el_98).1 rfl) rfl rfl pre0 rfl rfl ?_
        refine hq_ 25 (hop_eql rfl rfl) rfl rfl pre0 rfl rfl ?_
        refine hseq_nil ?_
        refine h17 _ ?_
        refine hw_cond _ rfl (fun hc1 => ?_) (fun hc1 => ?_)
        · have hr1 := hc1; (try simp only [hcs, Int.reduceToNat] at hc1)
          exfalso; omega
        · have hr1 := hc1; (try simp only [hcs, Int.reduceToNat] at hc1)
          refine hw_skip ?_
          refine h16 _ ?_
          refine hw_seq (fun Nh18 h18 => ?_)
          refine hw_region ?_
          refine hq_ 26 (hop_move rfl) rfl rfl pre0 rfl rfl ?_
          refine hq_ 27 (hop_build (hs := [(0, 1, _)]) st_109 rfl rfl ⟨rfl, rfl, rfl, rfl, rfl, trivial⟩) rfl rfl pre0 rfl rfl ?_
          refine hm_1 11 (hop_alloc (id := 11) (sz := 5) zc_109 rfl rfl (nb rfl) (nb rfl)) rfl rfl pre0 rfl rfl (c' := cb + 1) rfl ?_
          refine hm_s1 (hol_storeW ty_109 rfl rfl rfl rfl) rfl rfl (pre1 rfl) (c' := cb + 2) rfl ?_
          refine hseq_nil ?_
          refine h18 _ ?_
          refine hw_seq (fun Nh19 h19 => ?_)
          refine hw_seq (fun Nh20 h20 => ?_)
          refine hw_region ?_
          refine hq_ 12 (hop_assign rfl) rfl rfl pre0 rfl rfl ?_
          refine hseq_nil ?_
          refine h20 _ ?_
          refine hw_block ?_
          refine (hsub_ownc 11 4 7001 1 3 (kidsF []) (partW 2 (cb + 2) 0) rfl rfl (fun j hj => by match j, hj with | 0, _ => exact .inr rfl | 1, _ => exact .inr rfl | 2, _ => exact .inr rfl | 3, _ => exact .inr rfl | 4, _ => exact .inl ⟨rfl, rfl⟩) (by decide) (by decide) (c' := cb + 3) rfl).wp ?_
          refine hw_loopc (α := Nat × List Pt × List Int × Nat × Nat) (fun x c => ⟨126, [(0, .v (.os 9003 x.2.2.2.1 0 x.2.1.length)), (1, .v (sgsV l)), (2, .v (intV p)), (3, .v (intV q)), (9, .v (intV 2)), (10, .v (kidsV B)), (11, .v (.pt 11 cb 0 0)), (12, .v (intV x.1))], [(9003, pt2O x.2.2.2.1 x.2.1), (11, ⟨cb, 1, 5, 109, 0, partW 2 x.2.2.2.2 x.2.2.1.length⟩), (7001, ⟨x.2.2.2.2, x.2.2.1.length, 1, 3, 0, kidsF x.2.2.1⟩)], c⟩) (fun x => KidI ts out x.1 x.2.1 x.2.2.1) (fun x => m - x.1) ((0, out, [], g, cb + 2)) (by exact ⟨Nat.zero_le _, by simp [T.flatL], rfl⟩) (hsub_of rfl (Nat.le_refl _) (TmSub.cons rfl (Sb.refl _) (TmSub.cons rfl (Sb.refl _) (TmSub.cons rfl (Sb.refl _) (TmSub.cons rfl (Sb.refl _) (TmSub.cons rfl (Sb.refl _) (TmSub.cons rfl (Sb.refl _) (TmSub.cons rfl (Sb.refl _) (TmSub.cons rfl (Sb.refl _) TmSub.nil)))))))) (HpSub.cons rfl (OSub.refl _) (HpSub.cons rfl (by exact osub5 (.refl _) (.refl _) (.refl _) (.refl _) (.refl _)) (HpSub.cons rfl (OSub.refl _) HpSub.nil)))) (fun x c hx NhL21 hL21 => ?_)
          revert hx hL21; obtain ⟨i, o, ks, gg, gk⟩ := x; intro hx hL21; dsimp only at hx hL21 ⊢
          obtain ⟨hI1, hI2, hI3⟩ := hx
          have hI : KidI ts out i o ks := ⟨hI1, hI2, hI3⟩; have hkl := kid_len hI
          refine hw_seq (fun Nh22 h22 => ?_)
          refine hw_seq (fun Nh23 h23 => ?_)
          refine hw_region ?_
          refine hq_ 28 (hop_move rfl) rfl rfl pre0 rfl rfl ?_
          refine hq_ 29 (hop_addi rfl rfl rfl (by omega) (by omega)) rfl rfl pre0 rfl rfl ?_
          refine hq_ 30 (hop_move rfl) rfl rfl pre0 rfl rfl ?_
          refine hq_ 31 (hop_len_sl (T := 98) rfl (elOf_spec el_98).1 rfl) rfl rfl pre0 rfl rfl ?_
          refine hq_ 32 (hop_lss rfl rfl) rfl rfl pre0 rfl rfl ?_
          refine hseq_nil ?_
          refine h23 _ ?_
          refine hw_cond _ rfl (fun hc2 => ?_) (fun hc2 => ?_)
          · have hr2 := hc2; (try simp only [hcs, Int.reduceToNat] at hc2)
            have him : i < ts.length := (by omega); have hin := hC.hle i (by omega); have hou := hC.hout i (by omega); have hsz := hC.hsz i (by omega)
            refine hw_skip ?_
            refine h22 _ ?_
            refine hw_seq (fun Nh24 h24 => ?_)
            refine hw_block ?_
            refine hw_seq (fun Nh25 h25 => ?_)
            refine hw_region ?_
            refine hq_ 35 (hop_move rfl) rfl rfl pre0 rfl rfl ?_
            refine hq_ 36 (hop_move rfl) rfl rfl pre0 rfl rfl ?_
            refine hq_ 37 (hop_addi rfl rfl rfl (by omega) (by omega)) rfl rfl pre0 rfl rfl ?_
            refine hq_ 38 (hop_ia_sl el_98 rfl rfl (by omega) (by omega) (nb rfl)) rfl rfl pre0 rfl rfl ?_
            refine hq_ 39 (HOp.val (v' := intV (e i : Int)) (hop_load_fp ty_3 rfl (nb rfl) (fun h => (by rfl))) (by exact kids_at (by omega) (hend i (by omega)))) rfl rfl pre0 rfl rfl ?_
            refine hq_ 13 (hop_assign rfl) rfl rfl pre0 rfl rfl ?_
            refine hseq_nil ?_
            refine h25 _ ?_
            refine hw_seq (fun Nh26 h26 => ?_)
            refine hw_seq (fun Nh27 h27 => ?_)
            refine hw_region ?_
            refine hq_ 40 (hop_move rfl) rfl rfl pre0 rfl rfl ?_
            refine hq_ 41 (hop_eql rfl rfl) rfl rfl pre0 rfl rfl ?_
            refine hq_ 42 (hop_move rfl) rfl rfl pre0 rfl rfl ?_
            refine hq_g 43 2 42 true _ (fun hb => hop_move rfl) rfl rfl rfl rfl pre0 rfl rfl rfl ?_
            refine hq_g 44 2 42 true _ (fun hb => hop_add rfl rfl) rfl rfl rfl rfl pre0 rfl rfl rfl ?_
            refine hq_g 45 2 42 true _ (fun hb => hop_move rfl) rfl rfl rfl rfl pre0 rfl rfl rfl ?_
            refine hq_g 46 2 42 true _ (fun hb => hop_len_sl (T := 98) rfl (elOf_spec el_98).1 rfl) rfl rfl rfl rfl pre0 rfl rfl rfl ?_
            refine hq_g 47 2 42 true _ (fun hb => hop_lss rfl rfl) rfl rfl rfl rfl pre0 rfl rfl rfl ?_
            refine hq_p 48 (hstep_and _ _ rfl rfl rfl) rfl rfl rfl ?_
            refine hseq_nilU (by rfl) (by simp only [dropUn, slots]; exact rfl) ?_
            refine h27 _ ?_
            refine hw_cond _ rfl (fun hc3 => ?_) (fun hc3 => ?_)
            · have hr3 := hc3; (try simp only [hcs, Int.reduceToNat] at hc3)
              exfalso; simp at hr3
            · have hr3 := hc3; (try simp only [hcs, Int.reduceToNat] at hc3)
              refine hw_skip ?_
              refine h26 _ ?_
              refine hw_seq (fun Nh28 h28 => ?_)
              refine hw_region ?_
              refine hq_ 51 (hop_move rfl) rfl rfl pre0 rfl rfl ?_
              refine hq_ 52 (hop_move rfl) rfl rfl pre0 rfl rfl ?_
              refine hq_ 53 (hop_move rfl) rfl rfl pre0 rfl rfl ?_
              refine hq_ 54 (hop_move rfl) rfl rfl pre0 rfl rfl ?_
              refine hq_ 55 (hop_ia_sl el_98 rfl rfl (by omega) (by omega) (nb rfl)) rfl rfl pre0 rfl rfl ?_
              refine hq_ 56 (HOp.val (v' := intV (s i : Int)) (hop_load_fp ty_3 rfl (nb rfl) (fun h => (by rfl))) (by exact kids_at (by omega) (hC.hat i (by omega)))) rfl rfl pre0 rfl rfl ?_
              refine hq_ 57 (hop_move rfl) rfl rfl pre0 rfl rfl ?_
              refine hf_callR 58 (xs := [_, _, _, _]) (pre := [(9003, _)]) (ih i him _ gg o (by omega)) ⟨rfl, ⟨rfl, ⟨rfl, ⟨rfl, trivial⟩⟩⟩⟩ (preC rfl pre0) rfl rfl (fun g3 c1 hx1 => ?_)
              (try dsimp only)
              refine hq_ 0 (hop_assign rfl) rfl rfl pre0 rfl rfl ?_
              refine hseq_nil ?_
              refine h28 _ ?_
              have hol : (o ++ T.flat o.length (ts.getD i default)).length = o.length + (ts.getD i default).size := (by rw [List.length_append, T.flat_len])
              refine hw_region ?_
              refine hq_ 59 (hop_fa fd_109_4 rfl) rfl rfl pre0 rfl rfl ?_
              refine hq_ 60 (hol_load ty_98 rfl (nb rfl) (nb rfl) (fun h => (by rfl))) rfl rfl (pre1 rfl) rfl rfl ?_
              refine hq_ 61 (hop_move rfl) rfl rfl pre0 rfl rfl ?_
              refine hq_ 62 (hop_len_os (T := 55) rfl (elOf_spec el_55).1 rfl) rfl rfl pre0 rfl rfl ?_
              refine hq_ 63 (hop_subi rfl rfl rfl (by omega) (by omega)) rfl rfl pre0 rfl rfl ?_
              refine hm_1 64 (hop_buildSlice (id := 64) (hs := [_]) ei_98 (nb rfl) rfl (nb rfl) ⟨rfl, rfl, rfl, rfl, trivial⟩) rfl rfl pre0 rfl rfl (c' := c1 + 1) rfl ?_
              refine hm_1 65 (hol_append ei_98 (nb rfl) rfl (by omega) (nb rfl) (srl_os0 rfl (nb rfl)) (by omega) rfl) rfl rfl (preC rfl (pre1 rfl)) rfl rfl (c' := c1 + 2) rfl ?_
              refine hq_ 66 (hop_fa fd_109_4 rfl) rfl rfl pre0 rfl rfl ?_
              refine hm_s1 (hol_store ty_98 rfl rfl rfl rfl (nb rfl) (nb rfl) (nb rfl)) rfl rfl (pre1 rfl) (c' := c1 + 3) rfl ?_
              refine hseq_nil ?_
              refine hq_block ?_
              refine h24 _ ?_
              refine hw_region ?_
              refine hq_ 33 (hop_move rfl) rfl rfl pre0 rfl rfl ?_
              refine hq_ 34 (hop_addi rfl rfl rfl (by omega) (by omega)) rfl rfl pre0 rfl rfl ?_
              refine hq_ 12 (hop_assign rfl) rfl rfl pre0 rfl rfl ?_
              refine hseq_nil ?_
              exact hL21 ((i + 1, o ++ T.flat o.length (ts.getD i default), ks ++ [T.root o.length (ts.getD i default)], g3, c1 + 1)) _ _ (by (try dsimp only); exact kid_next hI him) (by (try dsimp only); omega) (hsub_of rfl (Nat.le_refl _) (TmSub.cons rfl (Sb.refl _) (TmSub.cons rfl (Sb.refl _) (TmSub.cons rfl (Sb.refl _) (TmSub.cons rfl (Sb.refl _) (TmSub.cons rfl (Sb.refl _) (TmSub.cons rfl (Sb.refl _) (TmSub.cons rfl (Sb.refl _) (TmSub.cons rfl (Sb.refl _) TmSub.nil)))))))) (HpSub.cons rfl (OSub.refl _) (HpSub.cons rfl (by exact osub5 (.refl _) (.refl _) (.refl _) (.refl _) (sb_os (by simp))) (HpSub.cons rfl (osub_snoc (enc := fun x _ => intV x) (d := 0) rfl (fun i j _ _ => .refl _) (fun j hj => by exact sb_int (by rw [List.length_append, T.flat_len]; rfl))) HpSub.nil))))
          · have hr2 := hc2; (try simp only [hcs, Int.reduceToNat] at hc2)
            have hit : i = ts.length := (by omega); have hal := hC.hall; have hol2 : o.length = out.length + T.sizeL ts := (by rw [hkl.1, hit, List.take_length])
            refine hw_exit ?_
            refine hq_then_exit ?_
            refine hq_then_exit ?_
            refine hq_block_here ?_
            refine h19 _ ?_
            refine hw_seq (fun Nh29 h29 => ?_)
            refine hw_region ?_
            refine hq_ 67 (hop_move rfl) rfl rfl pre0 rfl rfl ?_
            refine hq_ 68 (hol_load ty_109 rfl (nb rfl) (nb rfl) (fun h => (by cases h))) rfl rfl (pre1 rfl) rfl rfl ?_
            refine (hsub_shr 68 [(7001, _)] rfl (preC rfl pre0) rfl ((show Fz [(7001, ⟨gk, ks.length, 1, 3, 0, kidsF ks⟩)] (.agg 5 (partW 2 gk ks.length 0)) (ptH ⟨2, 0, 0, [], ks⟩) from fz_agg5 (.imm _) (.imm _) (.imm _) (.imm _) (fz_kids rfl)))).seq ?_
            refine hm_1 69 (hop_buildSlice (id := 69) (hs := [_]) ei_55 (nb rfl) rfl (nb rfl) ⟨rfl, rfl, rfl, rfl, trivial⟩) rfl rfl pre0 rfl rfl (c' := c + 1) rfl ?_
            refine hm_1 70 (hol_append ei_55 (nb rfl) rfl (by omega) (nb rfl) (srl_os0 rfl (nb rfl)) (by omega) rfl) rfl rfl (preC rfl (pre1 rfl)) rfl rfl (c' := c + 2) rfl ?_
            refine hq_ 8 (hop_assign rfl) rfl rfl pre0 rfl rfl ?_
            refine hseq_nil ?_
            refine h29 _ ?_
            refine hw_ret ?_
            refine hq_block_ret ?_
            refine hq_then_ret ?_
            refine hq_then_ret ?_
            refine hq_block_ret ?_
            refine hq_then_ret ?_
            refine hf_retR1 ok hX RetS.one rfl (rval_tmp rfl) [] rfl pre0 (_) (trivial) (by rfl) (by rfl) (kz_os rfl rfl (by have e := congrArg List.length (kid_done (k := 2) hI hit); rw [List.length_append] at e; exact e)) ?_
            exact ⟨⟨_, rfl, okz_snoc (o := o) (x := ⟨2, 0, 0, [], ks⟩) rfl (kid_done hI hit) (fz_pt (.imm _) (.imm _) (.imm _) (.imm _) (.sl _ _ _ _ fun i j _ _ => .imm _))⟩, trivial⟩
      · have hr0 := hc0; (try simp only [hcs, Int.reduceToNat] at hc0)
        exfalso; simp at hr0
    · have hr1 := hc1; (try simp only [hcs, Int.reduceToNat] at hc1)
      exfalso; simp at hr1
  · have hr0 := hc0; (try simp only [hcs, Int.reduceToNat] at hc0)
    exfalso; simp at hr0
theorem bd_rowN (l : List Sg) (p q : Nat) (hl : l.length ≤ 1000) (ts : List T) (B : List Int) (m : Nat) (s e : Nat → Nat) (hC : Cuts l B m p q ts s e) (hql : q ≤ l.length) (hpq : p ≤ q) (ih : ∀ i, i < ts.length → BdC l (s i) (e i) (ts.getD i default)) (hsg : Seg l 2 p q (.many 2 ts)) (hB : B = cutAt l p q 2 p [(p : Int)] ++ [(q : Int)]) (hend : ∀ i, i < m → B.getD (i + 1) 0 = (e i : Int)) : BdN l p q (.many 2 ts) := by
  intro c
  obtain ⟨cb, hcb⟩ : ∃ cb, cb = c + 1 := ⟨_, rfl⟩
  have ho : ([] : List Pt).length ≤ 2 * p := Nat.zero_le _
  have hCl := hC.hlen
  have hCm := hC.hm
  have hC2 := hC.htwo
  have hCb := hC.hmb
  refine hfun_of Tryd.func65 rfl (by kernel_rfl) _ _ _ _ rfl 126 rfl rfl (fun X ok hX => ?_)
  refine hw_seq (fun Nh1 h1 => ?_)
  refine hw_own 0 9003 5 109 (ptsF []) rfl (by decide) rfl (c' := cb) hcb.symm ?_
  refine hw_region ?_
  refine hq_ 8 (hop_assign rfl) rfl rfl pre0 rfl rfl ?_
  refine hseq_nil ?_
  refine h1 _ ?_
  refine hw_seq (fun Nh2 h2 => ?_)
  refine hw_seq (fun Nh3 h3 => ?_)
  refine hw_region ?_
  refine hq_ 9 (hop_assign rfl) rfl rfl pre0 rfl rfl ?_
  refine hseq_nil ?_
  refine h3 _ ?_
  refine hw_block ?_
  refine hw_rounds 3 ?_
  refine hr_succ (fun NhU4 hU4 => ?_)
  refine hw_seq (fun Nh5 h5 => ?_)
  refine hw_seq (fun Nh6 h6 => ?_)
  refine hw_region ?_
  refine hq_ 14 (hop_move rfl) rfl rfl pre0 rfl rfl ?_
  refine hq_ 15 (hop_geq rfl rfl) rfl rfl pre0 rfl rfl ?_
  refine hseq_nil ?_
  refine h6 _ ?_
  refine hw_cond _ rfl (fun hc0 => ?_) (fun hc0 => ?_)
  · have hr0 := hc0; (try simp only [hcs, Int.reduceToNat] at hc0)
    refine hw_skip ?_
    refine h5 _ ?_
    refine hw_seq (fun Nh7 h7 => ?_)
    refine hw_block ?_
    refine hw_seq (fun Nh8 h8 => ?_)
    refine hw_region ?_
    refine hq_ 18 (hop_move rfl) rfl rfl pre0 rfl rfl ?_
    refine hq_ 19 (hop_move rfl) rfl rfl pre0 rfl rfl ?_
    refine hq_ 20 (hop_move rfl) rfl rfl pre0 rfl rfl ?_
    refine hq_ 21 (hop_move rfl) rfl rfl pre0 rfl rfl ?_
    refine hq_ 22 (hop_call0 (xs := [_, _, _, _]) ((show HPure Tryd.prog 87 [sgsV l, intV p, intV q, intV 3] (kidsV [(p : Int), (q : Int)]) from (by rw [← cuts_row3 hsg]; exact cuts_h l p q 3 hl hql hpq))) ⟨rfl, ⟨rfl, ⟨rfl, ⟨rfl, trivial⟩⟩⟩⟩ ⟨(Fz.eq rfl), ⟨(Fz.eq rfl), ⟨(Fz.eq rfl), ⟨(Fz.eq rfl), trivial⟩⟩⟩⟩) rfl rfl pre0 rfl rfl ?_
    refine hq_ 10 (hop_assign rfl) rfl rfl pre0 rfl rfl ?_
    refine hseq_nil ?_
    refine h8 _ ?_
    refine hw_seq (fun Nh9 h9 => ?_)
    refine hw_seq (fun Nh10 h10 => ?_)
    refine hw_region ?_
    refine hq_ 23 (hop_move rfl) rfl rfl pre0 rfl rfl ?_
    refine hq_ 24 (hop_len_sl (T := 98) rfl (elOf_spec el_98).1 rfl) rfl rfl pre0 rfl rfl ?_
    refine hq_ 25 (hop_eql rfl rfl) rfl rfl pre0 rfl rfl ?_
    refine hseq_nil ?_
    refine h10 _ ?_
    refine hw_cond _ rfl (fun hc1 => ?_) (fun hc1 => ?_)
    · have hr1 := hc1; (try simp only [hcs, Int.reduceToNat] at hc1)
      refine hw_exit ?_
      refine hq_then_exit ?_
      refine hq_block_here ?_
      refine h7 _ ?_
      refine hw_region ?_
      refine hq_ 16 (hop_move rfl) rfl rfl pre0 rfl rfl ?_
      refine hq_ 17 (hop_subi rfl rfl rfl (by omega) (by omega)) rfl rfl pre0 rfl rfl ?_
      refine hq_ 9 (hop_assign rfl) rfl rfl pre0 rfl rfl ?_
      refine hseq_nil ?_
      refine hU4 _ ?_
      refine hr_succ (fun NhU11 hU11 => ?_)
      refine hw_seq (fun Nh12 h12 => ?_)
      refine hw_seq (fun Nh13 h13 => ?_)
      refine hw_region ?_
      refine hq_ 14 (hop_move rfl) rfl rfl pre0 rfl rfl ?_
      refine hq_ 15 (hop_geq rfl rfl) rfl rfl pre0 rfl rfl ?_
      refine hseq_nil ?_
      refine h13 _ ?_
      refine hw_cond _ rfl (fun hc0 => ?_) (fun hc0 => ?_)
      · have hr0 := hc0; (try simp only [hcs, Int.reduceToNat] at hc0)
        refine hw_skip ?_
        refine h12 _ ?_
        refine hw_seq (fun Nh14 h14 => ?_)
        refine hw_block ?_
        refine hw_seq (fun Nh15 h15 => ?_)
        refine hw_region ?_
        refine hq_ 18 (hop_move rfl) rfl rfl pre0 rfl rfl ?_
        refine hq_ 19 (hop_move rfl) rfl rfl pre0 rfl rfl ?_
        refine hq_ 20 (hop_move rfl) rfl rfl pre0 rfl rfl ?_
        refine hq_ 21 (hop_move rfl) rfl rfl pre0 rfl rfl ?_
        refine hq_ 22 (hop_call0 (xs := [_, _, _, _]) ((show HPure Tryd.prog 87 [sgsV l, intV p, intV q, intV 2] (kidsV B) from (by rw [hB]; exact cuts_h l p q 2 hl hql hpq))) ⟨rfl, ⟨rfl, ⟨rfl, ⟨rfl, trivial⟩⟩⟩⟩ ⟨(Fz.eq rfl), ⟨(Fz.eq rfl), ⟨(Fz.eq rfl), ⟨(Fz.eq rfl), trivial⟩⟩⟩⟩) rfl rfl pre0 rfl rfl ?_
        refine hq_ 10 (hop_assign rfl) rfl rfl pre0 rfl rfl ?_
        refine hseq_nil ?_
        refine h15 _ ?_
        refine hw_seq (fun Nh16 h16 => ?_)
        refine hw_seq (fun Nh17 h17 => ?_)
        refine hw_region ?_
        refine hq_ 23 (hop_move rfl) rfl rfl pre0 rfl rfl ?_
        refine hq_ 24 (hop_len_sl (T := 98) rfl (elOf_spec el_98).1 rfl) rfl rfl pre0 rfl rfl ?_
        refine hq_ 25 (hop_eql rfl rfl) rfl rfl pre0 rfl rfl ?_
        refine hseq_nil ?_
        refine h17 _ ?_
        refine hw_cond _ rfl (fun hc1 => ?_) (fun hc1 => ?_)
        · have hr1 := hc1; (try simp only [hcs, Int.reduceToNat] at hc1)
          exfalso; omega
        · have hr1 := hc1; (try simp only [hcs, Int.reduceToNat] at hc1)
          refine hw_skip ?_
          refine h16 _ ?_
          refine hw_seq (fun Nh18 h18 => ?_)
          refine hw_region ?_
          refine hq_ 26 (hop_move rfl) rfl rfl pre0 rfl rfl ?_
          refine hq_ 27 (hop_build (hs := [(0, 1, _)]) st_109 rfl rfl ⟨rfl, rfl, rfl, rfl, rfl, trivial⟩) rfl rfl pre0 rfl rfl ?_
          refine hm_1 11 (hop_alloc (id := 11) (sz := 5) zc_109 rfl rfl (nb rfl) (nb rfl)) rfl rfl pre0 rfl rfl (c' := cb + 1) rfl ?_
          refine hm_s1 (hol_storeW ty_109 rfl rfl rfl rfl) rfl rfl (pre1 rfl) (c' := cb + 2) rfl ?_
          refine hseq_nil ?_
          refine h18 _ ?_
          refine hw_seq (fun Nh19 h19 => ?_)
          refine hw_seq (fun Nh20 h20 => ?_)
          refine hw_region ?_
          refine hq_ 12 (hop_assign rfl) rfl rfl pre0 rfl rfl ?_
          refine hseq_nil ?_
          refine h20 _ ?_
          refine hw_block ?_
          refine (hsub_ownc 11 4 7001 1 3 (kidsF []) (partW 2 (cb + 2) 0) rfl rfl (fun j hj => by match j, hj with | 0, _ => exact .inr rfl | 1, _ => exact .inr rfl | 2, _ => exact .inr rfl | 3, _ => exact .inr rfl | 4, _ => exact .inl ⟨rfl, rfl⟩) (by decide) (by decide) (c' := cb + 3) rfl).wp ?_
          refine hw_loopc (α := Nat × List Pt × List Int × Nat × Nat) (fun x c => ⟨126, [(0, .v (.os 9003 x.2.2.2.1 0 x.2.1.length)), (1, .v (sgsV l)), (2, .v (intV p)), (3, .v (intV q)), (9, .v (intV 2)), (10, .v (kidsV B)), (11, .v (.pt 11 cb 0 0)), (12, .v (intV x.1))], [(9003, pt2O x.2.2.2.1 x.2.1), (11, ⟨cb, 1, 5, 109, 0, partW 2 x.2.2.2.2 x.2.2.1.length⟩), (7001, ⟨x.2.2.2.2, x.2.2.1.length, 1, 3, 0, kidsF x.2.2.1⟩)], c⟩) (fun x => KidI ts ([] : List Pt) x.1 x.2.1 x.2.2.1) (fun x => m - x.1) ((0, ([] : List Pt), [], c, cb + 2)) (by exact ⟨Nat.zero_le _, by simp [T.flatL], rfl⟩) (hsub_of rfl (Nat.le_refl _) (TmSub.cons rfl (Sb.refl _) (TmSub.cons rfl (Sb.refl _) (TmSub.cons rfl (Sb.refl _) (TmSub.cons rfl (Sb.refl _) (TmSub.cons rfl (Sb.refl _) (TmSub.cons rfl (Sb.refl _) (TmSub.cons rfl (Sb.refl _) (TmSub.cons rfl (Sb.refl _) TmSub.nil)))))))) (HpSub.cons rfl (OSub.refl _) (HpSub.cons rfl (by exact osub5 (.refl _) (.refl _) (.refl _) (.refl _) (.refl _)) (HpSub.cons rfl (OSub.refl _) HpSub.nil)))) (fun x c hx NhL21 hL21 => ?_)
          revert hx hL21; obtain ⟨i, o, ks, gg, gk⟩ := x; intro hx hL21; dsimp only at hx hL21 ⊢
          obtain ⟨hI1, hI2, hI3⟩ := hx
          have hI : KidI ts ([] : List Pt) i o ks := ⟨hI1, hI2, hI3⟩; have hkl := kid_len hI
          refine hw_seq (fun Nh22 h22 => ?_)
          refine hw_seq (fun Nh23 h23 => ?_)
          refine hw_region ?_
          refine hq_ 28 (hop_move rfl) rfl rfl pre0 rfl rfl ?_
          refine hq_ 29 (hop_addi rfl rfl rfl (by omega) (by omega)) rfl rfl pre0 rfl rfl ?_
          refine hq_ 30 (hop_move rfl) rfl rfl pre0 rfl rfl ?_
          refine hq_ 31 (hop_len_sl (T := 98) rfl (elOf_spec el_98).1 rfl) rfl rfl pre0 rfl rfl ?_
          refine hq_ 32 (hop_lss rfl rfl) rfl rfl pre0 rfl rfl ?_
          refine hseq_nil ?_
          refine h23 _ ?_
          refine hw_cond _ rfl (fun hc2 => ?_) (fun hc2 => ?_)
          · have hr2 := hc2; (try simp only [hcs, Int.reduceToNat] at hc2)
            have him : i < ts.length := (by omega); have hin := hC.hle i (by omega); have hou := hC.hout i (by omega); have hsz := hC.hsz i (by omega)
            refine hw_skip ?_
            refine h22 _ ?_
            refine hw_seq (fun Nh24 h24 => ?_)
            refine hw_block ?_
            refine hw_seq (fun Nh25 h25 => ?_)
            refine hw_region ?_
            refine hq_ 35 (hop_move rfl) rfl rfl pre0 rfl rfl ?_
            refine hq_ 36 (hop_move rfl) rfl rfl pre0 rfl rfl ?_
            refine hq_ 37 (hop_addi rfl rfl rfl (by omega) (by omega)) rfl rfl pre0 rfl rfl ?_
            refine hq_ 38 (hop_ia_sl el_98 rfl rfl (by omega) (by omega) (nb rfl)) rfl rfl pre0 rfl rfl ?_
            refine hq_ 39 (HOp.val (v' := intV (e i : Int)) (hop_load_fp ty_3 rfl (nb rfl) (fun h => (by rfl))) (by exact kids_at (by omega) (hend i (by omega)))) rfl rfl pre0 rfl rfl ?_
            refine hq_ 13 (hop_assign rfl) rfl rfl pre0 rfl rfl ?_
            refine hseq_nil ?_
            refine h25 _ ?_
            refine hw_seq (fun Nh26 h26 => ?_)
            refine hw_seq (fun Nh27 h27 => ?_)
            refine hw_region ?_
            refine hq_ 40 (hop_move rfl) rfl rfl pre0 rfl rfl ?_
            refine hq_ 41 (hop_eql rfl rfl) rfl rfl pre0 rfl rfl ?_
            refine hq_ 42 (hop_move rfl) rfl rfl pre0 rfl rfl ?_
            refine hq_g 43 2 42 true _ (fun hb => hop_move rfl) rfl rfl rfl rfl pre0 rfl rfl rfl ?_
            refine hq_g 44 2 42 true _ (fun hb => hop_add rfl rfl) rfl rfl rfl rfl pre0 rfl rfl rfl ?_
            refine hq_g 45 2 42 true _ (fun hb => hop_move rfl) rfl rfl rfl rfl pre0 rfl rfl rfl ?_
            refine hq_g 46 2 42 true _ (fun hb => hop_len_sl (T := 98) rfl (elOf_spec el_98).1 rfl) rfl rfl rfl rfl pre0 rfl rfl rfl ?_
            refine hq_g 47 2 42 true _ (fun hb => hop_lss rfl rfl) rfl rfl rfl rfl pre0 rfl rfl rfl ?_
            refine hq_p 48 (hstep_and _ _ rfl rfl rfl) rfl rfl rfl ?_
            refine hseq_nilU (by rfl) (by simp only [dropUn, slots]; exact rfl) ?_
            refine h27 _ ?_
            refine hw_cond _ rfl (fun hc3 => ?_) (fun hc3 => ?_)
            · have hr3 := hc3; (try simp only [hcs, Int.reduceToNat] at hc3)
              exfalso; simp at hr3
            · have hr3 := hc3; (try simp only [hcs, Int.reduceToNat] at hc3)
              refine hw_skip ?_
              refine h26 _ ?_
              refine hw_seq (fun Nh28 h28 => ?_)
              refine hw_region ?_
              refine hq_ 51 (hop_move rfl) rfl rfl pre0 rfl rfl ?_
              refine hq_ 52 (hop_move rfl) rfl rfl pre0 rfl rfl ?_
              refine hq_ 53 (hop_move rfl) rfl rfl pre0 rfl rfl ?_
              refine hq_ 54 (hop_move rfl) rfl rfl pre0 rfl rfl ?_
              refine hq_ 55 (hop_ia_sl el_98 rfl rfl (by omega) (by omega) (nb rfl)) rfl rfl pre0 rfl rfl ?_
              refine hq_ 56 (HOp.val (v' := intV (s i : Int)) (hop_load_fp ty_3 rfl (nb rfl) (fun h => (by rfl))) (by exact kids_at (by omega) (hC.hat i (by omega)))) rfl rfl pre0 rfl rfl ?_
              refine hq_ 57 (hop_move rfl) rfl rfl pre0 rfl rfl ?_
              refine hf_callR 58 (xs := [_, _, _, _]) (pre := [(9003, _)]) (ih i him _ gg o (by omega)) ⟨rfl, ⟨rfl, ⟨rfl, ⟨rfl, trivial⟩⟩⟩⟩ (preC rfl pre0) rfl rfl (fun g3 c1 hx1 => ?_)
              (try dsimp only)
              refine hq_ 0 (hop_assign rfl) rfl rfl pre0 rfl rfl ?_
              refine hseq_nil ?_
              refine h28 _ ?_
              have hol : (o ++ T.flat o.length (ts.getD i default)).length = o.length + (ts.getD i default).size := (by rw [List.length_append, T.flat_len])
              refine hw_region ?_
              refine hq_ 59 (hop_fa fd_109_4 rfl) rfl rfl pre0 rfl rfl ?_
              refine hq_ 60 (hol_load ty_98 rfl (nb rfl) (nb rfl) (fun h => (by rfl))) rfl rfl (pre1 rfl) rfl rfl ?_
              refine hq_ 61 (hop_move rfl) rfl rfl pre0 rfl rfl ?_
              refine hq_ 62 (hop_len_os (T := 55) rfl (elOf_spec el_55).1 rfl) rfl rfl pre0 rfl rfl ?_
              refine hq_ 63 (hop_subi rfl rfl rfl (by omega) (by omega)) rfl rfl pre0 rfl rfl ?_
              refine hm_1 64 (hop_buildSlice (id := 64) (hs := [_]) ei_98 (nb rfl) rfl (nb rfl) ⟨rfl, rfl, rfl, rfl, trivial⟩) rfl rfl pre0 rfl rfl (c' := c1 + 1) rfl ?_
              refine hm_1 65 (hol_append ei_98 (nb rfl) rfl (by omega) (nb rfl) (srl_os0 rfl (nb rfl)) (by omega) rfl) rfl rfl (preC rfl (pre1 rfl)) rfl rfl (c' := c1 + 2) rfl ?_
              refine hq_ 66 (hop_fa fd_109_4 rfl) rfl rfl pre0 rfl rfl ?_
              refine hm_s1 (hol_store ty_98 rfl rfl rfl rfl (nb rfl) (nb rfl) (nb rfl)) rfl rfl (pre1 rfl) (c' := c1 + 3) rfl ?_
              refine hseq_nil ?_
              refine hq_block ?_
              refine h24 _ ?_
              refine hw_region ?_
              refine hq_ 33 (hop_move rfl) rfl rfl pre0 rfl rfl ?_
              refine hq_ 34 (hop_addi rfl rfl rfl (by omega) (by omega)) rfl rfl pre0 rfl rfl ?_
              refine hq_ 12 (hop_assign rfl) rfl rfl pre0 rfl rfl ?_
              refine hseq_nil ?_
              exact hL21 ((i + 1, o ++ T.flat o.length (ts.getD i default), ks ++ [T.root o.length (ts.getD i default)], g3, c1 + 1)) _ _ (by (try dsimp only); exact kid_next hI him) (by (try dsimp only); omega) (hsub_of rfl (Nat.le_refl _) (TmSub.cons rfl (Sb.refl _) (TmSub.cons rfl (Sb.refl _) (TmSub.cons rfl (Sb.refl _) (TmSub.cons rfl (Sb.refl _) (TmSub.cons rfl (Sb.refl _) (TmSub.cons rfl (Sb.refl _) (TmSub.cons rfl (Sb.refl _) (TmSub.cons rfl (Sb.refl _) TmSub.nil)))))))) (HpSub.cons rfl (OSub.refl _) (HpSub.cons rfl (by exact osub5 (.refl _) (.refl _) (.refl _) (.refl _) (sb_os (by simp))) (HpSub.cons rfl (osub_snoc (enc := fun x _ => intV x) (d := 0) rfl (fun i j _ _ => .refl _) (fun j hj => by exact sb_int (by rw [List.length_append, T.flat_len]; rfl))) HpSub.nil))))
          · have hr2 := hc2; (try simp only [hcs, Int.reduceToNat] at hc2)
            have hit : i = ts.length := (by omega); have hal := hC.hall; have hol2 : o.length = ([] : List Pt).length + T.sizeL ts := (by rw [hkl.1, hit, List.take_length])
            refine hw_exit ?_
            refine hq_then_exit ?_
            refine hq_then_exit ?_
            refine hq_block_here ?_
            refine h19 _ ?_
            refine hw_seq (fun Nh29 h29 => ?_)
            refine hw_region ?_
            refine hq_ 67 (hop_move rfl) rfl rfl pre0 rfl rfl ?_
            refine hq_ 68 (hol_load ty_109 rfl (nb rfl) (nb rfl) (fun h => (by cases h))) rfl rfl (pre1 rfl) rfl rfl ?_
            refine (hsub_shr 68 [(7001, _)] rfl (preC rfl pre0) rfl ((show Fz [(7001, ⟨gk, ks.length, 1, 3, 0, kidsF ks⟩)] (.agg 5 (partW 2 gk ks.length 0)) (ptH ⟨2, 0, 0, [], ks⟩) from fz_agg5 (.imm _) (.imm _) (.imm _) (.imm _) (fz_kids rfl)))).seq ?_
            refine hm_1 69 (hop_buildSlice (id := 69) (hs := [_]) ei_55 (nb rfl) rfl (nb rfl) ⟨rfl, rfl, rfl, rfl, trivial⟩) rfl rfl pre0 rfl rfl (c' := c + 1) rfl ?_
            refine hm_1 70 (hol_append ei_55 (nb rfl) rfl (by omega) (nb rfl) (srl_os0 rfl (nb rfl)) (by omega) rfl) rfl rfl (preC rfl (pre1 rfl)) rfl rfl (c' := c + 2) rfl ?_
            refine hq_ 8 (hop_assign rfl) rfl rfl pre0 rfl rfl ?_
            refine hseq_nil ?_
            refine h29 _ ?_
            refine hw_ret ?_
            refine hq_block_ret ?_
            refine hq_then_ret ?_
            refine hq_then_ret ?_
            refine hq_block_ret ?_
            refine hq_then_ret ?_
            refine hf_retR1 ok hX RetS.one rfl (rval_tmp rfl) [] rfl pre0 (_) (trivial) (by rfl) (by rfl) (kz_os rfl rfl (by have e := congrArg List.length (kid_done (k := 2) hI hit); rw [List.length_append] at e; exact e)) ?_
            exact ⟨⟨_, rfl, okz_snoc (o := o) (x := ⟨2, 0, 0, [], ks⟩) rfl (kid_done hI hit) (fz_pt (.imm _) (.imm _) (.imm _) (.imm _) (.sl _ _ _ _ fun i j _ _ => .imm _))⟩, trivial⟩
      · have hr0 := hc0; (try simp only [hcs, Int.reduceToNat] at hc0)
        exfalso; simp at hr0
    · have hr1 := hc1; (try simp only [hcs, Int.reduceToNat] at hc1)
      exfalso; simp at hr1
  · have hr0 := hc0; (try simp only [hcs, Int.reduceToNat] at hc0)
    exfalso; simp at hr0
theorem bd_choice (l : List Sg) (p q : Nat) (hl : l.length ≤ 1000) (ts : List T) (B : List Int) (m : Nat) (s e : Nat → Nat) (hC : Cuts l B m p q ts s e) (hql : q ≤ l.length) (hpq : p ≤ q) (ih : ∀ i, i < ts.length → BdC l (s i) (e i) (ts.getD i default)) (hB : B = cutAt l p q 3 p [(p : Int)] ++ [(q : Int)]) (hend : ∀ i, i + 1 < m → B.getD (i + 1) 0 = (e i : Int) + 1) (hlast : ∀ i, i + 1 = m → B.getD (i + 1) 0 = (e i : Int)) : BdC l p q (.many 3 ts) := by
  intro c g out ho
  obtain ⟨cb, hcb⟩ : ∃ cb, cb = c := ⟨_, rfl⟩
  subst hcb
  have hCl := hC.hlen
  have hCm := hC.hm
  have hC2 := hC.htwo
  have hCb := hC.hmb
  refine hfun_of Tryd.func65 rfl (by kernel_rfl) _ _ _ _ rfl 126 rfl rfl (fun X ok hX => ?_)
  refine hw_seq (fun Nh1 h1 => ?_)
  refine hw_region ?_
  refine hq_ 8 (hop_assign rfl) rfl rfl pre0 rfl rfl ?_
  refine hseq_nil ?_
  refine h1 _ ?_
  refine hw_seq (fun Nh2 h2 => ?_)
  refine hw_seq (fun Nh3 h3 => ?_)
  refine hw_region ?_
  refine hq_ 9 (hop_assign rfl) rfl rfl pre0 rfl rfl ?_
  refine hseq_nil ?_
  refine h3 _ ?_
  refine hw_block ?_
  refine hw_rounds 3 ?_
  refine hr_succ (fun NhU4 hU4 => ?_)
  refine hw_seq (fun Nh5 h5 => ?_)
  refine hw_seq (fun Nh6 h6 => ?_)
  refine hw_region ?_
  refine hq_ 14 (hop_move rfl) rfl rfl pre0 rfl rfl ?_
  refine hq_ 15 (hop_geq rfl rfl) rfl rfl pre0 rfl rfl ?_
  refine hseq_nil ?_
  refine h6 _ ?_
  refine hw_cond _ rfl (fun hc0 => ?_) (fun hc0 => ?_)
  · have hr0 := hc0; (try simp only [hcs, Int.reduceToNat] at hc0)
    refine hw_skip ?_
    refine h5 _ ?_
    refine hw_seq (fun Nh7 h7 => ?_)
    refine hw_block ?_
    refine hw_seq (fun Nh8 h8 => ?_)
    refine hw_region ?_
    refine hq_ 18 (hop_move rfl) rfl rfl pre0 rfl rfl ?_
    refine hq_ 19 (hop_move rfl) rfl rfl pre0 rfl rfl ?_
    refine hq_ 20 (hop_move rfl) rfl rfl pre0 rfl rfl ?_
    refine hq_ 21 (hop_move rfl) rfl rfl pre0 rfl rfl ?_
    refine hq_ 22 (hop_call0 (xs := [_, _, _, _]) ((show HPure Tryd.prog 87 [sgsV l, intV p, intV q, intV 3] (kidsV B) from (by rw [hB]; exact cuts_h l p q 3 hl hql hpq))) ⟨rfl, ⟨rfl, ⟨rfl, ⟨rfl, trivial⟩⟩⟩⟩ ⟨(Fz.eq rfl), ⟨(Fz.eq rfl), ⟨(Fz.eq rfl), ⟨(Fz.eq rfl), trivial⟩⟩⟩⟩) rfl rfl pre0 rfl rfl ?_
    refine hq_ 10 (hop_assign rfl) rfl rfl pre0 rfl rfl ?_
    refine hseq_nil ?_
    refine h8 _ ?_
    refine hw_seq (fun Nh9 h9 => ?_)
    refine hw_seq (fun Nh10 h10 => ?_)
    refine hw_region ?_
    refine hq_ 23 (hop_move rfl) rfl rfl pre0 rfl rfl ?_
    refine hq_ 24 (hop_len_sl (T := 98) rfl (elOf_spec el_98).1 rfl) rfl rfl pre0 rfl rfl ?_
    refine hq_ 25 (hop_eql rfl rfl) rfl rfl pre0 rfl rfl ?_
    refine hseq_nil ?_
    refine h10 _ ?_
    refine hw_cond _ rfl (fun hc1 => ?_) (fun hc1 => ?_)
    · have hr1 := hc1; (try simp only [hcs, Int.reduceToNat] at hc1)
      exfalso; omega
    · have hr1 := hc1; (try simp only [hcs, Int.reduceToNat] at hc1)
      refine hw_skip ?_
      refine h9 _ ?_
      refine hw_seq (fun Nh11 h11 => ?_)
      refine hw_region ?_
      refine hq_ 26 (hop_move rfl) rfl rfl pre0 rfl rfl ?_
      refine hq_ 27 (hop_build (hs := [(0, 1, _)]) st_109 rfl rfl ⟨rfl, rfl, rfl, rfl, rfl, trivial⟩) rfl rfl pre0 rfl rfl ?_
      refine hm_1 11 (hop_alloc (id := 11) (sz := 5) zc_109 rfl rfl (nb rfl) (nb rfl)) rfl rfl pre0 rfl rfl (c' := cb + 1) rfl ?_
      refine hm_s1 (hol_storeW ty_109 rfl rfl rfl rfl) rfl rfl (pre1 rfl) (c' := cb + 2) rfl ?_
      refine hseq_nil ?_
      refine h11 _ ?_
      refine hw_seq (fun Nh12 h12 => ?_)
      refine hw_seq (fun Nh13 h13 => ?_)
      refine hw_region ?_
      refine hq_ 12 (hop_assign rfl) rfl rfl pre0 rfl rfl ?_
      refine hseq_nil ?_
      refine h13 _ ?_
      refine hw_block ?_
      refine (hsub_ownc 11 4 7001 1 3 (kidsF []) (partW 3 (cb + 2) 0) rfl rfl (fun j hj => by match j, hj with | 0, _ => exact .inr rfl | 1, _ => exact .inr rfl | 2, _ => exact .inr rfl | 3, _ => exact .inr rfl | 4, _ => exact .inl ⟨rfl, rfl⟩) (by decide) (by decide) (c' := cb + 3) rfl).wp ?_
      refine hw_loopc (α := Nat × List Pt × List Int × Nat × Nat) (fun x c => ⟨126, [(0, .v (.os 9003 x.2.2.2.1 0 x.2.1.length)), (1, .v (sgsV l)), (2, .v (intV p)), (3, .v (intV q)), (9, .v (intV 3)), (10, .v (kidsV B)), (11, .v (.pt 11 cb 0 0)), (12, .v (intV x.1))], [(9003, pt2O x.2.2.2.1 x.2.1), (11, ⟨cb, 1, 5, 109, 0, partW 3 x.2.2.2.2 x.2.2.1.length⟩), (7001, ⟨x.2.2.2.2, x.2.2.1.length, 1, 3, 0, kidsF x.2.2.1⟩)], c⟩) (fun x => KidI ts out x.1 x.2.1 x.2.2.1) (fun x => m - x.1) ((0, out, [], g, cb + 2)) (by exact ⟨Nat.zero_le _, by simp [T.flatL], rfl⟩) (hsub_of rfl (Nat.le_refl _) (TmSub.cons rfl (Sb.refl _) (TmSub.cons rfl (Sb.refl _) (TmSub.cons rfl (Sb.refl _) (TmSub.cons rfl (Sb.refl _) (TmSub.cons rfl (Sb.refl _) (TmSub.cons rfl (Sb.refl _) (TmSub.cons rfl (Sb.refl _) (TmSub.cons rfl (Sb.refl _) TmSub.nil)))))))) (HpSub.cons rfl (OSub.refl _) (HpSub.cons rfl (by exact osub5 (.refl _) (.refl _) (.refl _) (.refl _) (.refl _)) (HpSub.cons rfl (OSub.refl _) HpSub.nil)))) (fun x c hx NhL14 hL14 => ?_)
      revert hx hL14; obtain ⟨i, o, ks, gg, gk⟩ := x; intro hx hL14; dsimp only at hx hL14 ⊢
      obtain ⟨hI1, hI2, hI3⟩ := hx
      have hI : KidI ts out i o ks := ⟨hI1, hI2, hI3⟩; have hkl := kid_len hI
      refine hw_seq (fun Nh15 h15 => ?_)
      refine hw_seq (fun Nh16 h16 => ?_)
      refine hw_region ?_
      refine hq_ 28 (hop_move rfl) rfl rfl pre0 rfl rfl ?_
      refine hq_ 29 (hop_addi rfl rfl rfl (by omega) (by omega)) rfl rfl pre0 rfl rfl ?_
      refine hq_ 30 (hop_move rfl) rfl rfl pre0 rfl rfl ?_
      refine hq_ 31 (hop_len_sl (T := 98) rfl (elOf_spec el_98).1 rfl) rfl rfl pre0 rfl rfl ?_
      refine hq_ 32 (hop_lss rfl rfl) rfl rfl pre0 rfl rfl ?_
      refine hseq_nil ?_
      refine h16 _ ?_
      refine hw_cond _ rfl (fun hc2 => ?_) (fun hc2 => ?_)
      · have hr2 := hc2; (try simp only [hcs, Int.reduceToNat] at hc2)
        have him : i < ts.length := (by omega); have hin := hC.hle i (by omega); have hou := hC.hout i (by omega); have hsz := hC.hsz i (by omega)
        refine hw_skip ?_
        refine h15 _ ?_
        refine hw_seq (fun Nh17 h17 => ?_)
        refine hw_block ?_
        refine hw_seq (fun Nh18 h18 => ?_)
        refine hw_region ?_
        refine hq_ 35 (hop_move rfl) rfl rfl pre0 rfl rfl ?_
        refine hq_ 36 (hop_move rfl) rfl rfl pre0 rfl rfl ?_
        refine hq_ 37 (hop_addi rfl rfl rfl (by omega) (by omega)) rfl rfl pre0 rfl rfl ?_
        refine hq_ 38 (hop_ia_sl el_98 rfl rfl (by omega) (by omega) (nb rfl)) rfl rfl pre0 rfl rfl ?_
        refine hq_ 39 (HOp.val (v' := intV (B.getD (i + 1) 0)) (hop_load_fp ty_3 rfl (nb rfl) (fun h => (by rfl))) (by exact kids_at (by omega) rfl)) rfl rfl pre0 rfl rfl ?_
        refine hq_ 13 (hop_assign rfl) rfl rfl pre0 rfl rfl ?_
        refine hseq_nil ?_
        refine h18 _ ?_
        refine hw_seq (fun Nh19 h19 => ?_)
        refine hw_seq (fun Nh20 h20 => ?_)
        refine hw_region ?_
        refine hq_ 40 (hop_move rfl) rfl rfl pre0 rfl rfl ?_
        refine hq_ 41 (hop_eql rfl rfl) rfl rfl pre0 rfl rfl ?_
        refine hq_ 42 (hop_move rfl) rfl rfl pre0 rfl rfl ?_
        refine hq_g 43 2 42 true _ (fun hb => hop_move rfl) rfl rfl rfl rfl pre0 rfl rfl rfl ?_
        refine hq_g 44 2 42 true _ (fun hb => hop_addi rfl rfl rfl (by (simp at hb; first | omega | (dsimp only; omega) | (simp <;> omega))) (by (simp at hb; first | omega | (dsimp only; omega) | (simp <;> omega)))) rfl rfl rfl rfl pre0 rfl rfl rfl ?_
        refine hq_g 45 2 42 true _ (fun hb => hop_move rfl) rfl rfl rfl rfl pre0 rfl rfl rfl ?_
        refine hq_g 46 2 42 true _ (fun hb => hop_len_sl (T := 98) rfl (elOf_spec el_98).1 rfl) rfl rfl rfl rfl pre0 rfl rfl rfl ?_
        refine hq_g 47 2 42 true _ (fun hb => hop_lss rfl rfl) rfl rfl rfl rfl pre0 rfl rfl rfl ?_
        refine hq_p 48 (hstep_and _ _ rfl rfl rfl) rfl rfl rfl ?_
        refine hseq_nilU (by rfl) (by simp only [dropUn, slots]; exact rfl) ?_
        refine h20 _ ?_
        refine hw_cond _ rfl (fun hc3 => ?_) (fun hc3 => ?_)
        · have hr3 := hc3; (try simp only [hcs, Int.reduceToNat] at hc3)
          have hi2 : i + 1 < m := (by have h := hr3; simp at h; omega); have hbe := hend i hi2
          refine hw_region ?_
          refine hq_ 49 (hop_move rfl) rfl rfl pre0 rfl rfl ?_
          refine hq_ 50 (HOp.val (v' := intV (e i : Int)) (hop_subi rfl rfl rfl (by omega) (by omega)) (congrArg intV (show B.getD (i + 1) 0 - 1 = (e i : Int) by omega))) rfl rfl pre0 rfl rfl ?_
          refine hq_ 13 (hop_assign rfl) rfl rfl pre0 rfl rfl ?_
          refine hseq_nil ?_
          refine h19 _ ?_
          refine hw_seq (fun Nh21 h21 => ?_)
          refine hw_region ?_
          refine hq_ 51 (hop_move rfl) rfl rfl pre0 rfl rfl ?_
          refine hq_ 52 (hop_move rfl) rfl rfl pre0 rfl rfl ?_
          refine hq_ 53 (hop_move rfl) rfl rfl pre0 rfl rfl ?_
          refine hq_ 54 (hop_move rfl) rfl rfl pre0 rfl rfl ?_
          refine hq_ 55 (hop_ia_sl el_98 rfl rfl (by omega) (by omega) (nb rfl)) rfl rfl pre0 rfl rfl ?_
          refine hq_ 56 (HOp.val (v' := intV (s i : Int)) (hop_load_fp ty_3 rfl (nb rfl) (fun h => (by rfl))) (by exact kids_at (by omega) (hC.hat i (by omega)))) rfl rfl pre0 rfl rfl ?_
          refine hq_ 57 (hop_move rfl) rfl rfl pre0 rfl rfl ?_
          refine hf_callR 58 (xs := [_, _, _, _]) (pre := [(9003, _)]) (ih i him _ gg o (by omega)) ⟨rfl, ⟨rfl, ⟨rfl, ⟨rfl, trivial⟩⟩⟩⟩ (preC rfl pre0) rfl rfl (fun g3 c1 hx1 => ?_)
          (try dsimp only)
          refine hq_ 0 (hop_assign rfl) rfl rfl pre0 rfl rfl ?_
          refine hseq_nil ?_
          refine h21 _ ?_
          have hol : (o ++ T.flat o.length (ts.getD i default)).length = o.length + (ts.getD i default).size := (by rw [List.length_append, T.flat_len])
          refine hw_region ?_
          refine hq_ 59 (hop_fa fd_109_4 rfl) rfl rfl pre0 rfl rfl ?_
          refine hq_ 60 (hol_load ty_98 rfl (nb rfl) (nb rfl) (fun h => (by rfl))) rfl rfl (pre1 rfl) rfl rfl ?_
          refine hq_ 61 (hop_move rfl) rfl rfl pre0 rfl rfl ?_
          refine hq_ 62 (hop_len_os (T := 55) rfl (elOf_spec el_55).1 rfl) rfl rfl pre0 rfl rfl ?_
          refine hq_ 63 (hop_subi rfl rfl rfl (by omega) (by omega)) rfl rfl pre0 rfl rfl ?_
          refine hm_1 64 (hop_buildSlice (id := 64) (hs := [_]) ei_98 (nb rfl) rfl (nb rfl) ⟨rfl, rfl, rfl, rfl, trivial⟩) rfl rfl pre0 rfl rfl (c' := c1 + 1) rfl ?_
          refine hm_1 65 (hol_append ei_98 (nb rfl) rfl (by omega) (nb rfl) (srl_os0 rfl (nb rfl)) (by omega) rfl) rfl rfl (preC rfl (pre1 rfl)) rfl rfl (c' := c1 + 2) rfl ?_
          refine hq_ 66 (hop_fa fd_109_4 rfl) rfl rfl pre0 rfl rfl ?_
          refine hm_s1 (hol_store ty_98 rfl rfl rfl rfl (nb rfl) (nb rfl) (nb rfl)) rfl rfl (pre1 rfl) (c' := c1 + 3) rfl ?_
          refine hseq_nil ?_
          refine hq_block ?_
          refine h17 _ ?_
          refine hw_region ?_
          refine hq_ 33 (hop_move rfl) rfl rfl pre0 rfl rfl ?_
          refine hq_ 34 (hop_addi rfl rfl rfl (by omega) (by omega)) rfl rfl pre0 rfl rfl ?_
          refine hq_ 12 (hop_assign rfl) rfl rfl pre0 rfl rfl ?_
          refine hseq_nil ?_
          exact hL14 ((i + 1, o ++ T.flat o.length (ts.getD i default), ks ++ [T.root o.length (ts.getD i default)], g3, c1 + 1)) _ _ (by (try dsimp only); exact kid_next hI him) (by (try dsimp only); omega) (hsub_of rfl (Nat.le_refl _) (TmSub.cons rfl (Sb.refl _) (TmSub.cons rfl (Sb.refl _) (TmSub.cons rfl (Sb.refl _) (TmSub.cons rfl (Sb.refl _) (TmSub.cons rfl (Sb.refl _) (TmSub.cons rfl (Sb.refl _) (TmSub.cons rfl (Sb.refl _) (TmSub.cons rfl (Sb.refl _) TmSub.nil)))))))) (HpSub.cons rfl (OSub.refl _) (HpSub.cons rfl (by exact osub5 (.refl _) (.refl _) (.refl _) (.refl _) (sb_os (by simp))) (HpSub.cons rfl (osub_snoc (enc := fun x _ => intV x) (d := 0) rfl (fun i j _ _ => .refl _) (fun j hj => by exact sb_int (by rw [List.length_append, T.flat_len]; rfl))) HpSub.nil))))
        · have hr3 := hc3; (try simp only [hcs, Int.reduceToNat] at hc3)
          have hi2 : i + 1 = m := (by have h := hr3; simp at h; omega)
          refine hw_skip ?_
          refine h19 _ ?_
          refine hw_seq (fun Nh22 h22 => ?_)
          refine hw_region ?_
          refine hq_ 51 (hop_move rfl) rfl rfl pre0 rfl rfl ?_
          refine hq_ 52 (hop_move rfl) rfl rfl pre0 rfl rfl ?_
          refine hq_ 53 (hop_move rfl) rfl rfl pre0 rfl rfl ?_
          refine hq_ 54 (hop_move rfl) rfl rfl pre0 rfl rfl ?_
          refine hq_ 55 (hop_ia_sl el_98 rfl rfl (by omega) (by omega) (nb rfl)) rfl rfl pre0 rfl rfl ?_
          refine hq_ 56 (HOp.val (v' := intV (s i : Int)) (hop_load_fp ty_3 rfl (nb rfl) (fun h => (by rfl))) (by exact kids_at (by omega) (hC.hat i (by omega)))) rfl rfl pre0 rfl rfl ?_
          refine hq_ 57 (HOp.val (v' := intV (e i : Int)) (hop_move rfl) (congrArg intV (hlast i hi2))) rfl rfl pre0 rfl rfl ?_
          refine hf_callR 58 (xs := [_, _, _, _]) (pre := [(9003, _)]) (ih i him _ gg o (by omega)) ⟨rfl, ⟨rfl, ⟨rfl, ⟨rfl, trivial⟩⟩⟩⟩ (preC rfl pre0) rfl rfl (fun g3 c2 hx2 => ?_)
          (try dsimp only)
          refine hq_ 0 (hop_assign rfl) rfl rfl pre0 rfl rfl ?_
          refine hseq_nil ?_
          refine h22 _ ?_
          have hol : (o ++ T.flat o.length (ts.getD i default)).length = o.length + (ts.getD i default).size := (by rw [List.length_append, T.flat_len])
          refine hw_region ?_
          refine hq_ 59 (hop_fa fd_109_4 rfl) rfl rfl pre0 rfl rfl ?_
          refine hq_ 60 (hol_load ty_98 rfl (nb rfl) (nb rfl) (fun h => (by rfl))) rfl rfl (pre1 rfl) rfl rfl ?_
          refine hq_ 61 (hop_move rfl) rfl rfl pre0 rfl rfl ?_
          refine hq_ 62 (hop_len_os (T := 55) rfl (elOf_spec el_55).1 rfl) rfl rfl pre0 rfl rfl ?_
          refine hq_ 63 (hop_subi rfl rfl rfl (by omega) (by omega)) rfl rfl pre0 rfl rfl ?_
          refine hm_1 64 (hop_buildSlice (id := 64) (hs := [_]) ei_98 (nb rfl) rfl (nb rfl) ⟨rfl, rfl, rfl, rfl, trivial⟩) rfl rfl pre0 rfl rfl (c' := c2 + 1) rfl ?_
          refine hm_1 65 (hol_append ei_98 (nb rfl) rfl (by omega) (nb rfl) (srl_os0 rfl (nb rfl)) (by omega) rfl) rfl rfl (preC rfl (pre1 rfl)) rfl rfl (c' := c2 + 2) rfl ?_
          refine hq_ 66 (hop_fa fd_109_4 rfl) rfl rfl pre0 rfl rfl ?_
          refine hm_s1 (hol_store ty_98 rfl rfl rfl rfl (nb rfl) (nb rfl) (nb rfl)) rfl rfl (pre1 rfl) (c' := c2 + 3) rfl ?_
          refine hseq_nil ?_
          refine hq_block ?_
          refine h17 _ ?_
          refine hw_region ?_
          refine hq_ 33 (hop_move rfl) rfl rfl pre0 rfl rfl ?_
          refine hq_ 34 (hop_addi rfl rfl rfl (by omega) (by omega)) rfl rfl pre0 rfl rfl ?_
          refine hq_ 12 (hop_assign rfl) rfl rfl pre0 rfl rfl ?_
          refine hseq_nil ?_
          exact hL14 ((i + 1, o ++ T.flat o.length (ts.getD i default), ks ++ [T.root o.length (ts.getD i default)], g3, c2 + 1)) _ _ (by (try dsimp only); exact kid_next hI him) (by (try dsimp only); omega) (hsub_of rfl (Nat.le_refl _) (TmSub.cons rfl (Sb.refl _) (TmSub.cons rfl (Sb.refl _) (TmSub.cons rfl (Sb.refl _) (TmSub.cons rfl (Sb.refl _) (TmSub.cons rfl (Sb.refl _) (TmSub.cons rfl (Sb.refl _) (TmSub.cons rfl (Sb.refl _) (TmSub.cons rfl (Sb.refl _) TmSub.nil)))))))) (HpSub.cons rfl (OSub.refl _) (HpSub.cons rfl (by exact osub5 (.refl _) (.refl _) (.refl _) (.refl _) (sb_os (by simp))) (HpSub.cons rfl (osub_snoc (enc := fun x _ => intV x) (d := 0) rfl (fun i j _ _ => .refl _) (fun j hj => by exact sb_int (by rw [List.length_append, T.flat_len]; rfl))) HpSub.nil))))
      · have hr2 := hc2; (try simp only [hcs, Int.reduceToNat] at hc2)
        have hit : i = ts.length := (by omega); have hal := hC.hall; have hol2 : o.length = out.length + T.sizeL ts := (by rw [hkl.1, hit, List.take_length])
        refine hw_exit ?_
        refine hq_then_exit ?_
        refine hq_then_exit ?_
        refine hq_block_here ?_
        refine h12 _ ?_
        refine hw_seq (fun Nh23 h23 => ?_)
        refine hw_region ?_
        refine hq_ 67 (hop_move rfl) rfl rfl pre0 rfl rfl ?_
        refine hq_ 68 (hol_load ty_109 rfl (nb rfl) (nb rfl) (fun h => (by cases h))) rfl rfl (pre1 rfl) rfl rfl ?_
        refine (hsub_shr 68 [(7001, _)] rfl (preC rfl pre0) rfl ((show Fz [(7001, ⟨gk, ks.length, 1, 3, 0, kidsF ks⟩)] (.agg 5 (partW 3 gk ks.length 0)) (ptH ⟨3, 0, 0, [], ks⟩) from fz_agg5 (.imm _) (.imm _) (.imm _) (.imm _) (fz_kids rfl)))).seq ?_
        refine hm_1 69 (hop_buildSlice (id := 69) (hs := [_]) ei_55 (nb rfl) rfl (nb rfl) ⟨rfl, rfl, rfl, rfl, trivial⟩) rfl rfl pre0 rfl rfl (c' := c + 1) rfl ?_
        refine hm_1 70 (hol_append ei_55 (nb rfl) rfl (by omega) (nb rfl) (srl_os0 rfl (nb rfl)) (by omega) rfl) rfl rfl (preC rfl (pre1 rfl)) rfl rfl (c' := c + 2) rfl ?_
        refine hq_ 8 (hop_assign rfl) rfl rfl pre0 rfl rfl ?_
        refine hseq_nil ?_
        refine h23 _ ?_
        refine hw_ret ?_
        refine hq_block_ret ?_
        refine hq_then_ret ?_
        refine hq_then_ret ?_
        refine hq_block_ret ?_
        refine hq_then_ret ?_
        refine hf_retR1 ok hX RetS.one rfl (rval_tmp rfl) [] rfl pre0 (_) (trivial) (by rfl) (by rfl) (kz_os rfl rfl (by have e := congrArg List.length (kid_done (k := 3) hI hit); rw [List.length_append] at e; exact e)) ?_
        exact ⟨⟨_, rfl, okz_snoc (o := o) (x := ⟨3, 0, 0, [], ks⟩) rfl (kid_done hI hit) (fz_pt (.imm _) (.imm _) (.imm _) (.imm _) (.sl _ _ _ _ fun i j _ _ => .imm _))⟩, trivial⟩
  · have hr0 := hc0; (try simp only [hcs, Int.reduceToNat] at hc0)
    exfalso; simp at hr0
theorem bd_choiceN (l : List Sg) (p q : Nat) (hl : l.length ≤ 1000) (ts : List T) (B : List Int) (m : Nat) (s e : Nat → Nat) (hC : Cuts l B m p q ts s e) (hql : q ≤ l.length) (hpq : p ≤ q) (ih : ∀ i, i < ts.length → BdC l (s i) (e i) (ts.getD i default)) (hB : B = cutAt l p q 3 p [(p : Int)] ++ [(q : Int)]) (hend : ∀ i, i + 1 < m → B.getD (i + 1) 0 = (e i : Int) + 1) (hlast : ∀ i, i + 1 = m → B.getD (i + 1) 0 = (e i : Int)) : BdN l p q (.many 3 ts) := by
  intro c
  obtain ⟨cb, hcb⟩ : ∃ cb, cb = c + 1 := ⟨_, rfl⟩
  have ho : ([] : List Pt).length ≤ 2 * p := Nat.zero_le _
  have hCl := hC.hlen
  have hCm := hC.hm
  have hC2 := hC.htwo
  have hCb := hC.hmb
  refine hfun_of Tryd.func65 rfl (by kernel_rfl) _ _ _ _ rfl 126 rfl rfl (fun X ok hX => ?_)
  refine hw_seq (fun Nh1 h1 => ?_)
  refine hw_own 0 9003 5 109 (ptsF []) rfl (by decide) rfl (c' := cb) hcb.symm ?_
  refine hw_region ?_
  refine hq_ 8 (hop_assign rfl) rfl rfl pre0 rfl rfl ?_
  refine hseq_nil ?_
  refine h1 _ ?_
  refine hw_seq (fun Nh2 h2 => ?_)
  refine hw_seq (fun Nh3 h3 => ?_)
  refine hw_region ?_
  refine hq_ 9 (hop_assign rfl) rfl rfl pre0 rfl rfl ?_
  refine hseq_nil ?_
  refine h3 _ ?_
  refine hw_block ?_
  refine hw_rounds 3 ?_
  refine hr_succ (fun NhU4 hU4 => ?_)
  refine hw_seq (fun Nh5 h5 => ?_)
  refine hw_seq (fun Nh6 h6 => ?_)
  refine hw_region ?_
  refine hq_ 14 (hop_move rfl) rfl rfl pre0 rfl rfl ?_
  refine hq_ 15 (hop_geq rfl rfl) rfl rfl pre0 rfl rfl ?_
  refine hseq_nil ?_
  refine h6 _ ?_
  refine hw_cond _ rfl (fun hc0 => ?_) (fun hc0 => ?_)
  · have hr0 := hc0; (try simp only [hcs, Int.reduceToNat] at hc0)
    refine hw_skip ?_
    refine h5 _ ?_
    refine hw_seq (fun Nh7 h7 => ?_)
    refine hw_block ?_
    refine hw_seq (fun Nh8 h8 => ?_)
    refine hw_region ?_
    refine hq_ 18 (hop_move rfl) rfl rfl pre0 rfl rfl ?_
    refine hq_ 19 (hop_move rfl) rfl rfl pre0 rfl rfl ?_
    refine hq_ 20 (hop_move rfl) rfl rfl pre0 rfl rfl ?_
    refine hq_ 21 (hop_move rfl) rfl rfl pre0 rfl rfl ?_
    refine hq_ 22 (hop_call0 (xs := [_, _, _, _]) ((show HPure Tryd.prog 87 [sgsV l, intV p, intV q, intV 3] (kidsV B) from (by rw [hB]; exact cuts_h l p q 3 hl hql hpq))) ⟨rfl, ⟨rfl, ⟨rfl, ⟨rfl, trivial⟩⟩⟩⟩ ⟨(Fz.eq rfl), ⟨(Fz.eq rfl), ⟨(Fz.eq rfl), ⟨(Fz.eq rfl), trivial⟩⟩⟩⟩) rfl rfl pre0 rfl rfl ?_
    refine hq_ 10 (hop_assign rfl) rfl rfl pre0 rfl rfl ?_
    refine hseq_nil ?_
    refine h8 _ ?_
    refine hw_seq (fun Nh9 h9 => ?_)
    refine hw_seq (fun Nh10 h10 => ?_)
    refine hw_region ?_
    refine hq_ 23 (hop_move rfl) rfl rfl pre0 rfl rfl ?_
    refine hq_ 24 (hop_len_sl (T := 98) rfl (elOf_spec el_98).1 rfl) rfl rfl pre0 rfl rfl ?_
    refine hq_ 25 (hop_eql rfl rfl) rfl rfl pre0 rfl rfl ?_
    refine hseq_nil ?_
    refine h10 _ ?_
    refine hw_cond _ rfl (fun hc1 => ?_) (fun hc1 => ?_)
    · have hr1 := hc1; (try simp only [hcs, Int.reduceToNat] at hc1)
      exfalso; omega
    · have hr1 := hc1; (try simp only [hcs, Int.reduceToNat] at hc1)
      refine hw_skip ?_
      refine h9 _ ?_
      refine hw_seq (fun Nh11 h11 => ?_)
      refine hw_region ?_
      refine hq_ 26 (hop_move rfl) rfl rfl pre0 rfl rfl ?_
      refine hq_ 27 (hop_build (hs := [(0, 1, _)]) st_109 rfl rfl ⟨rfl, rfl, rfl, rfl, rfl, trivial⟩) rfl rfl pre0 rfl rfl ?_
      refine hm_1 11 (hop_alloc (id := 11) (sz := 5) zc_109 rfl rfl (nb rfl) (nb rfl)) rfl rfl pre0 rfl rfl (c' := cb + 1) rfl ?_
      refine hm_s1 (hol_storeW ty_109 rfl rfl rfl rfl) rfl rfl (pre1 rfl) (c' := cb + 2) rfl ?_
      refine hseq_nil ?_
      refine h11 _ ?_
      refine hw_seq (fun Nh12 h12 => ?_)
      refine hw_seq (fun Nh13 h13 => ?_)
      refine hw_region ?_
      refine hq_ 12 (hop_assign rfl) rfl rfl pre0 rfl rfl ?_
      refine hseq_nil ?_
      refine h13 _ ?_
      refine hw_block ?_
      refine (hsub_ownc 11 4 7001 1 3 (kidsF []) (partW 3 (cb + 2) 0) rfl rfl (fun j hj => by match j, hj with | 0, _ => exact .inr rfl | 1, _ => exact .inr rfl | 2, _ => exact .inr rfl | 3, _ => exact .inr rfl | 4, _ => exact .inl ⟨rfl, rfl⟩) (by decide) (by decide) (c' := cb + 3) rfl).wp ?_
      refine hw_loopc (α := Nat × List Pt × List Int × Nat × Nat) (fun x c => ⟨126, [(0, .v (.os 9003 x.2.2.2.1 0 x.2.1.length)), (1, .v (sgsV l)), (2, .v (intV p)), (3, .v (intV q)), (9, .v (intV 3)), (10, .v (kidsV B)), (11, .v (.pt 11 cb 0 0)), (12, .v (intV x.1))], [(9003, pt2O x.2.2.2.1 x.2.1), (11, ⟨cb, 1, 5, 109, 0, partW 3 x.2.2.2.2 x.2.2.1.length⟩), (7001, ⟨x.2.2.2.2, x.2.2.1.length, 1, 3, 0, kidsF x.2.2.1⟩)], c⟩) (fun x => KidI ts ([] : List Pt) x.1 x.2.1 x.2.2.1) (fun x => m - x.1) ((0, ([] : List Pt), [], c, cb + 2)) (by exact ⟨Nat.zero_le _, by simp [T.flatL], rfl⟩) (hsub_of rfl (Nat.le_refl _) (TmSub.cons rfl (Sb.refl _) (TmSub.cons rfl (Sb.refl _) (TmSub.cons rfl (Sb.refl _) (TmSub.cons rfl (Sb.refl _) (TmSub.cons rfl (Sb.refl _) (TmSub.cons rfl (Sb.refl _) (TmSub.cons rfl (Sb.refl _) (TmSub.cons rfl (Sb.refl _) TmSub.nil)))))))) (HpSub.cons rfl (OSub.refl _) (HpSub.cons rfl (by exact osub5 (.refl _) (.refl _) (.refl _) (.refl _) (.refl _)) (HpSub.cons rfl (OSub.refl _) HpSub.nil)))) (fun x c hx NhL14 hL14 => ?_)
      revert hx hL14; obtain ⟨i, o, ks, gg, gk⟩ := x; intro hx hL14; dsimp only at hx hL14 ⊢
      obtain ⟨hI1, hI2, hI3⟩ := hx
      have hI : KidI ts ([] : List Pt) i o ks := ⟨hI1, hI2, hI3⟩; have hkl := kid_len hI
      refine hw_seq (fun Nh15 h15 => ?_)
      refine hw_seq (fun Nh16 h16 => ?_)
      refine hw_region ?_
      refine hq_ 28 (hop_move rfl) rfl rfl pre0 rfl rfl ?_
      refine hq_ 29 (hop_addi rfl rfl rfl (by omega) (by omega)) rfl rfl pre0 rfl rfl ?_
      refine hq_ 30 (hop_move rfl) rfl rfl pre0 rfl rfl ?_
      refine hq_ 31 (hop_len_sl (T := 98) rfl (elOf_spec el_98).1 rfl) rfl rfl pre0 rfl rfl ?_
      refine hq_ 32 (hop_lss rfl rfl) rfl rfl pre0 rfl rfl ?_
      refine hseq_nil ?_
      refine h16 _ ?_
      refine hw_cond _ rfl (fun hc2 => ?_) (fun hc2 => ?_)
      · have hr2 := hc2; (try simp only [hcs, Int.reduceToNat] at hc2)
        have him : i < ts.length := (by omega); have hin := hC.hle i (by omega); have hou := hC.hout i (by omega); have hsz := hC.hsz i (by omega)
        refine hw_skip ?_
        refine h15 _ ?_
        refine hw_seq (fun Nh17 h17 => ?_)
        refine hw_block ?_
        refine hw_seq (fun Nh18 h18 => ?_)
        refine hw_region ?_
        refine hq_ 35 (hop_move rfl) rfl rfl pre0 rfl rfl ?_
        refine hq_ 36 (hop_move rfl) rfl rfl pre0 rfl rfl ?_
        refine hq_ 37 (hop_addi rfl rfl rfl (by omega) (by omega)) rfl rfl pre0 rfl rfl ?_
        refine hq_ 38 (hop_ia_sl el_98 rfl rfl (by omega) (by omega) (nb rfl)) rfl rfl pre0 rfl rfl ?_
        refine hq_ 39 (HOp.val (v' := intV (B.getD (i + 1) 0)) (hop_load_fp ty_3 rfl (nb rfl) (fun h => (by rfl))) (by exact kids_at (by omega) rfl)) rfl rfl pre0 rfl rfl ?_
        refine hq_ 13 (hop_assign rfl) rfl rfl pre0 rfl rfl ?_
        refine hseq_nil ?_
        refine h18 _ ?_
        refine hw_seq (fun Nh19 h19 => ?_)
        refine hw_seq (fun Nh20 h20 => ?_)
        refine hw_region ?_
        refine hq_ 40 (hop_move rfl) rfl rfl pre0 rfl rfl ?_
        refine hq_ 41 (hop_eql rfl rfl) rfl rfl pre0 rfl rfl ?_
        refine hq_ 42 (hop_move rfl) rfl rfl pre0 rfl rfl ?_
        refine hq_g 43 2 42 true _ (fun hb => hop_move rfl) rfl rfl rfl rfl pre0 rfl rfl rfl ?_
        refine hq_g 44 2 42 true _ (fun hb => hop_addi rfl rfl rfl (by (simp at hb; first | omega | (dsimp only; omega) | (simp <;> omega))) (by (simp at hb; first | omega | (dsimp only; omega) | (simp <;> omega)))) rfl rfl rfl rfl pre0 rfl rfl rfl ?_
        refine hq_g 45 2 42 true _ (fun hb => hop_move rfl) rfl rfl rfl rfl pre0 rfl rfl rfl ?_
        refine hq_g 46 2 42 true _ (fun hb => hop_len_sl (T := 98) rfl (elOf_spec el_98).1 rfl) rfl rfl rfl rfl pre0 rfl rfl rfl ?_
        refine hq_g 47 2 42 true _ (fun hb => hop_lss rfl rfl) rfl rfl rfl rfl pre0 rfl rfl rfl ?_
        refine hq_p 48 (hstep_and _ _ rfl rfl rfl) rfl rfl rfl ?_
        refine hseq_nilU (by rfl) (by simp only [dropUn, slots]; exact rfl) ?_
        refine h20 _ ?_
        refine hw_cond _ rfl (fun hc3 => ?_) (fun hc3 => ?_)
        · have hr3 := hc3; (try simp only [hcs, Int.reduceToNat] at hc3)
          have hi2 : i + 1 < m := (by have h := hr3; simp at h; omega); have hbe := hend i hi2
          refine hw_region ?_
          refine hq_ 49 (hop_move rfl) rfl rfl pre0 rfl rfl ?_
          refine hq_ 50 (HOp.val (v' := intV (e i : Int)) (hop_subi rfl rfl rfl (by omega) (by omega)) (congrArg intV (show B.getD (i + 1) 0 - 1 = (e i : Int) by omega))) rfl rfl pre0 rfl rfl ?_
          refine hq_ 13 (hop_assign rfl) rfl rfl pre0 rfl rfl ?_
          refine hseq_nil ?_
          refine h19 _ ?_
          refine hw_seq (fun Nh21 h21 => ?_)
          refine hw_region ?_
          refine hq_ 51 (hop_move rfl) rfl rfl pre0 rfl rfl ?_
          refine hq_ 52 (hop_move rfl) rfl rfl pre0 rfl rfl ?_
          refine hq_ 53 (hop_move rfl) rfl rfl pre0 rfl rfl ?_
          refine hq_ 54 (hop_move rfl) rfl rfl pre0 rfl rfl ?_
          refine hq_ 55 (hop_ia_sl el_98 rfl rfl (by omega) (by omega) (nb rfl)) rfl rfl pre0 rfl rfl ?_
          refine hq_ 56 (HOp.val (v' := intV (s i : Int)) (hop_load_fp ty_3 rfl (nb rfl) (fun h => (by rfl))) (by exact kids_at (by omega) (hC.hat i (by omega)))) rfl rfl pre0 rfl rfl ?_
          refine hq_ 57 (hop_move rfl) rfl rfl pre0 rfl rfl ?_
          refine hf_callR 58 (xs := [_, _, _, _]) (pre := [(9003, _)]) (ih i him _ gg o (by omega)) ⟨rfl, ⟨rfl, ⟨rfl, ⟨rfl, trivial⟩⟩⟩⟩ (preC rfl pre0) rfl rfl (fun g3 c1 hx1 => ?_)
          (try dsimp only)
          refine hq_ 0 (hop_assign rfl) rfl rfl pre0 rfl rfl ?_
          refine hseq_nil ?_
          refine h21 _ ?_
          have hol : (o ++ T.flat o.length (ts.getD i default)).length = o.length + (ts.getD i default).size := (by rw [List.length_append, T.flat_len])
          refine hw_region ?_
          refine hq_ 59 (hop_fa fd_109_4 rfl) rfl rfl pre0 rfl rfl ?_
          refine hq_ 60 (hol_load ty_98 rfl (nb rfl) (nb rfl) (fun h => (by rfl))) rfl rfl (pre1 rfl) rfl rfl ?_
          refine hq_ 61 (hop_move rfl) rfl rfl pre0 rfl rfl ?_
          refine hq_ 62 (hop_len_os (T := 55) rfl (elOf_spec el_55).1 rfl) rfl rfl pre0 rfl rfl ?_
          refine hq_ 63 (hop_subi rfl rfl rfl (by omega) (by omega)) rfl rfl pre0 rfl rfl ?_
          refine hm_1 64 (hop_buildSlice (id := 64) (hs := [_]) ei_98 (nb rfl) rfl (nb rfl) ⟨rfl, rfl, rfl, rfl, trivial⟩) rfl rfl pre0 rfl rfl (c' := c1 + 1) rfl ?_
          refine hm_1 65 (hol_append ei_98 (nb rfl) rfl (by omega) (nb rfl) (srl_os0 rfl (nb rfl)) (by omega) rfl) rfl rfl (preC rfl (pre1 rfl)) rfl rfl (c' := c1 + 2) rfl ?_
          refine hq_ 66 (hop_fa fd_109_4 rfl) rfl rfl pre0 rfl rfl ?_
          refine hm_s1 (hol_store ty_98 rfl rfl rfl rfl (nb rfl) (nb rfl) (nb rfl)) rfl rfl (pre1 rfl) (c' := c1 + 3) rfl ?_
          refine hseq_nil ?_
          refine hq_block ?_
          refine h17 _ ?_
          refine hw_region ?_
          refine hq_ 33 (hop_move rfl) rfl rfl pre0 rfl rfl ?_
          refine hq_ 34 (hop_addi rfl rfl rfl (by omega) (by omega)) rfl rfl pre0 rfl rfl ?_
          refine hq_ 12 (hop_assign rfl) rfl rfl pre0 rfl rfl ?_
          refine hseq_nil ?_
          exact hL14 ((i + 1, o ++ T.flat o.length (ts.getD i default), ks ++ [T.root o.length (ts.getD i default)], g3, c1 + 1)) _ _ (by (try dsimp only); exact kid_next hI him) (by (try dsimp only); omega) (hsub_of rfl (Nat.le_refl _) (TmSub.cons rfl (Sb.refl _) (TmSub.cons rfl (Sb.refl _) (TmSub.cons rfl (Sb.refl _) (TmSub.cons rfl (Sb.refl _) (TmSub.cons rfl (Sb.refl _) (TmSub.cons rfl (Sb.refl _) (TmSub.cons rfl (Sb.refl _) (TmSub.cons rfl (Sb.refl _) TmSub.nil)))))))) (HpSub.cons rfl (OSub.refl _) (HpSub.cons rfl (by exact osub5 (.refl _) (.refl _) (.refl _) (.refl _) (sb_os (by simp))) (HpSub.cons rfl (osub_snoc (enc := fun x _ => intV x) (d := 0) rfl (fun i j _ _ => .refl _) (fun j hj => by exact sb_int (by rw [List.length_append, T.flat_len]; rfl))) HpSub.nil))))
        · have hr3 := hc3; (try simp only [hcs, Int.reduceToNat] at hc3)
          have hi2 : i + 1 = m := (by have h := hr3; simp at h; omega)
          refine hw_skip ?_
          refine h19 _ ?_
          refine hw_seq (fun Nh22 h22 => ?_)
          refine hw_region ?_
          refine hq_ 51 (hop_move rfl) rfl rfl pre0 rfl rfl ?_
          refine hq_ 52 (hop_move rfl) rfl rfl pre0 rfl rfl ?_
          refine hq_ 53 (hop_move rfl) rfl rfl pre0 rfl rfl ?_
          refine hq_ 54 (hop_move rfl) rfl rfl pre0 rfl rfl ?_
          refine hq_ 55 (hop_ia_sl el_98 rfl rfl (by omega) (by omega) (nb rfl)) rfl rfl pre0 rfl rfl ?_
          refine hq_ 56 (HOp.val (v' := intV (s i : Int)) (hop_load_fp ty_3 rfl (nb rfl) (fun h => (by rfl))) (by exact kids_at (by omega) (hC.hat i (by omega)))) rfl rfl pre0 rfl rfl ?_
          refine hq_ 57 (HOp.val (v' := intV (e i : Int)) (hop_move rfl) (congrArg intV (hlast i hi2))) rfl rfl pre0 rfl rfl ?_
          refine hf_callR 58 (xs := [_, _, _, _]) (pre := [(9003, _)]) (ih i him _ gg o (by omega)) ⟨rfl, ⟨rfl, ⟨rfl, ⟨rfl, trivial⟩⟩⟩⟩ (preC rfl pre0) rfl rfl (fun g3 c2 hx2 => ?_)
          (try dsimp only)
          refine hq_ 0 (hop_assign rfl) rfl rfl pre0 rfl rfl ?_
          refine hseq_nil ?_
          refine h22 _ ?_
          have hol : (o ++ T.flat o.length (ts.getD i default)).length = o.length + (ts.getD i default).size := (by rw [List.length_append, T.flat_len])
          refine hw_region ?_
          refine hq_ 59 (hop_fa fd_109_4 rfl) rfl rfl pre0 rfl rfl ?_
          refine hq_ 60 (hol_load ty_98 rfl (nb rfl) (nb rfl) (fun h => (by rfl))) rfl rfl (pre1 rfl) rfl rfl ?_
          refine hq_ 61 (hop_move rfl) rfl rfl pre0 rfl rfl ?_
          refine hq_ 62 (hop_len_os (T := 55) rfl (elOf_spec el_55).1 rfl) rfl rfl pre0 rfl rfl ?_
          refine hq_ 63 (hop_subi rfl rfl rfl (by omega) (by omega)) rfl rfl pre0 rfl rfl ?_
          refine hm_1 64 (hop_buildSlice (id := 64) (hs := [_]) ei_98 (nb rfl) rfl (nb rfl) ⟨rfl, rfl, rfl, rfl, trivial⟩) rfl rfl pre0 rfl rfl (c' := c2 + 1) rfl ?_
          refine hm_1 65 (hol_append ei_98 (nb rfl) rfl (by omega) (nb rfl) (srl_os0 rfl (nb rfl)) (by omega) rfl) rfl rfl (preC rfl (pre1 rfl)) rfl rfl (c' := c2 + 2) rfl ?_
          refine hq_ 66 (hop_fa fd_109_4 rfl) rfl rfl pre0 rfl rfl ?_
          refine hm_s1 (hol_store ty_98 rfl rfl rfl rfl (nb rfl) (nb rfl) (nb rfl)) rfl rfl (pre1 rfl) (c' := c2 + 3) rfl ?_
          refine hseq_nil ?_
          refine hq_block ?_
          refine h17 _ ?_
          refine hw_region ?_
          refine hq_ 33 (hop_move rfl) rfl rfl pre0 rfl rfl ?_
          refine hq_ 34 (hop_addi rfl rfl rfl (by omega) (by omega)) rfl rfl pre0 rfl rfl ?_
          refine hq_ 12 (hop_assign rfl) rfl rfl pre0 rfl rfl ?_
          refine hseq_nil ?_
          exact hL14 ((i + 1, o ++ T.flat o.length (ts.getD i default), ks ++ [T.root o.length (ts.getD i default)], g3, c2 + 1)) _ _ (by (try dsimp only); exact kid_next hI him) (by (try dsimp only); omega) (hsub_of rfl (Nat.le_refl _) (TmSub.cons rfl (Sb.refl _) (TmSub.cons rfl (Sb.refl _) (TmSub.cons rfl (Sb.refl _) (TmSub.cons rfl (Sb.refl _) (TmSub.cons rfl (Sb.refl _) (TmSub.cons rfl (Sb.refl _) (TmSub.cons rfl (Sb.refl _) (TmSub.cons rfl (Sb.refl _) TmSub.nil)))))))) (HpSub.cons rfl (OSub.refl _) (HpSub.cons rfl (by exact osub5 (.refl _) (.refl _) (.refl _) (.refl _) (sb_os (by simp))) (HpSub.cons rfl (osub_snoc (enc := fun x _ => intV x) (d := 0) rfl (fun i j _ _ => .refl _) (fun j hj => by exact sb_int (by rw [List.length_append, T.flat_len]; rfl))) HpSub.nil))))
      · have hr2 := hc2; (try simp only [hcs, Int.reduceToNat] at hc2)
        have hit : i = ts.length := (by omega); have hal := hC.hall; have hol2 : o.length = ([] : List Pt).length + T.sizeL ts := (by rw [hkl.1, hit, List.take_length])
        refine hw_exit ?_
        refine hq_then_exit ?_
        refine hq_then_exit ?_
        refine hq_block_here ?_
        refine h12 _ ?_
        refine hw_seq (fun Nh23 h23 => ?_)
        refine hw_region ?_
        refine hq_ 67 (hop_move rfl) rfl rfl pre0 rfl rfl ?_
        refine hq_ 68 (hol_load ty_109 rfl (nb rfl) (nb rfl) (fun h => (by cases h))) rfl rfl (pre1 rfl) rfl rfl ?_
        refine (hsub_shr 68 [(7001, _)] rfl (preC rfl pre0) rfl ((show Fz [(7001, ⟨gk, ks.length, 1, 3, 0, kidsF ks⟩)] (.agg 5 (partW 3 gk ks.length 0)) (ptH ⟨3, 0, 0, [], ks⟩) from fz_agg5 (.imm _) (.imm _) (.imm _) (.imm _) (fz_kids rfl)))).seq ?_
        refine hm_1 69 (hop_buildSlice (id := 69) (hs := [_]) ei_55 (nb rfl) rfl (nb rfl) ⟨rfl, rfl, rfl, rfl, trivial⟩) rfl rfl pre0 rfl rfl (c' := c + 1) rfl ?_
        refine hm_1 70 (hol_append ei_55 (nb rfl) rfl (by omega) (nb rfl) (srl_os0 rfl (nb rfl)) (by omega) rfl) rfl rfl (preC rfl (pre1 rfl)) rfl rfl (c' := c + 2) rfl ?_
        refine hq_ 8 (hop_assign rfl) rfl rfl pre0 rfl rfl ?_
        refine hseq_nil ?_
        refine h23 _ ?_
        refine hw_ret ?_
        refine hq_block_ret ?_
        refine hq_then_ret ?_
        refine hq_then_ret ?_
        refine hq_block_ret ?_
        refine hq_then_ret ?_
        refine hf_retR1 ok hX RetS.one rfl (rval_tmp rfl) [] rfl pre0 (_) (trivial) (by rfl) (by rfl) (kz_os rfl rfl (by have e := congrArg List.length (kid_done (k := 3) hI hit); rw [List.length_append] at e; exact e)) ?_
        exact ⟨⟨_, rfl, okz_snoc (o := o) (x := ⟨3, 0, 0, [], ks⟩) rfl (kid_done hI hit) (fz_pt (.imm _) (.imm _) (.imm _) (.imm _) (.sl _ _ _ _ fun i j _ _ => .imm _))⟩, trivial⟩
  · have hr0 := hc0; (try simp only [hcs, Int.reduceToNat] at hc0)
    exfalso; simp at hr0
theorem cuts_r {l : List Sg} {p q : Nat} {ts : List T} {c : Nat → Nat} (hl : l.length ≤ 1000) (h2 : 2 ≤ ts.length) (h0 : c 0 = p) (he : c ts.length = q) (hs : ∀ i, i < ts.length → Seg l 1 (c i) (c (i + 1)) (ts.getD i default)) :
    Cuts l ([(p : Int)] ++ placesF c ts.length) ts.length p q ts c (fun i => c (i + 1)) ∧ (∀ i, i < ts.length → ([(p : Int)] ++ placesF c ts.length).getD (i + 1) 0 = ((c (i + 1) : Nat) : Int)) := by
  have up := up_le (n := ts.length) (c := c) (fun i hi => (seg_lt (hs i hi)).1)
  have hsz : ∀ i, i < ts.length → (ts.getD i default).size + 2 * c i ≤ 2 * c (i + 1) := fun i hi => by have := seg_size (hs i hi); omega
  have hout : ∀ i, i ≤ ts.length → T.sizeL (ts.take i) + 2 * p ≤ 2 * c i := by
    intro i
    induction i with
    | zero => intro _; rw [sizeL_0]; omega
    | succ i ih => intro hi; have := ih (by omega); have := hsz i hi; rw [sizeL_take ts i hi]; omega
  have hg : ∀ i, i < ts.length → ([(p : Int)] ++ placesF c ts.length).getD (i + 1) 0 = ((c (i + 1) : Nat) : Int) := fun i hi => by
    simp [placesF, List.getD_eq_getElem?_getD, hi]
  have hlt : ts.length ≤ l.length := by
    have a := up 0 ts.length (by omega) (Nat.le_refl _)
    have b := (seg_lt (hs (ts.length - 1) (by omega))).2
    rw [show ts.length - 1 + 1 = ts.length by omega] at b
    omega
  refine ⟨⟨by simp [placesF], rfl, h2, by omega, fun i hi => ?_, fun i hi => ⟨Nat.le_of_lt (seg_lt (hs i hi)).1, (seg_lt (hs i hi)).2⟩, fun i hi => hout i (by omega), hsz, ?_⟩, hg⟩
  · cases i with
    | zero => rw [h0]; rfl
    | succ i => exact hg i (by omega)
  · have := hout ts.length (Nat.le_refl _); rw [List.take_length, he] at this; exact this
theorem cuts_c {l : List Sg} {p q : Nat} {ts : List T} {c e : Nat → Nat} (hl : l.length ≤ 1000) (h2 : 2 ≤ ts.length) (h0 : c 0 = p) (he : e (ts.length - 1) = q) (hs : ∀ i, i < ts.length → Seg l 2 (c i) (e i) (ts.getD i default)) (hgp : ∀ i, i + 1 < ts.length → kd l (e i) = 4 ∧ c (i + 1) = e i + 1) :
    Cuts l ([(p : Int)] ++ placesF c (ts.length - 1) ++ [(q : Int)]) ts.length p q ts c e ∧ (∀ i, i + 1 < ts.length → ([(p : Int)] ++ placesF c (ts.length - 1) ++ [(q : Int)]).getD (i + 1) 0 = (e i : Int) + 1) ∧ (∀ i, i + 1 = ts.length → ([(p : Int)] ++ placesF c (ts.length - 1) ++ [(q : Int)]).getD (i + 1) 0 = (e i : Int)) := by
  have hsz : ∀ i, i < ts.length → (ts.getD i default).size + 2 * c i ≤ 2 * e i := fun i hi => by have := seg_size (hs i hi); omega
  have hout : ∀ i, i < ts.length → T.sizeL (ts.take i) + 2 * p ≤ 2 * c i ∧ i + p ≤ c i := by
    intro i
    induction i with
    | zero => intro _; rw [sizeL_0]; omega
    | succ i ih => intro hi; have := ih (by omega); have := hsz i (by omega); have := hgp i hi; have := (seg_lt (hs i (by omega))).1; rw [sizeL_take ts i (by omega)]; omega
  have hg : ∀ i, i + 1 < ts.length → ([(p : Int)] ++ placesF c (ts.length - 1) ++ [(q : Int)]).getD (i + 1) 0 = ((c (i + 1) : Nat) : Int) := fun i hi => by
    rw [getD_app (by simp [placesF]; omega)]
    simp [placesF, List.getD_eq_getElem?_getD, show i < ts.length - 1 by omega]
  have hlt : ts.length ≤ l.length := by
    have a := (hout (ts.length - 1) (by omega)).2
    have b := (seg_lt (hs (ts.length - 1) (by omega)))
    omega
  refine ⟨⟨by simp [placesF]; omega, rfl, h2, by omega, fun i hi => ?_, fun i hi => ⟨Nat.le_of_lt (seg_lt (hs i hi)).1, (seg_lt (hs i hi)).2⟩, fun i hi => (hout i hi).1, hsz, ?_⟩, fun i hi => by rw [hg i hi, (hgp i hi).2]; rfl, fun i hi => ?_⟩
  · cases i with
    | zero => rw [h0]; rfl
    | succ i => exact hg i (by omega)
  · have a := hout (ts.length - 1) (by omega)
    have b := hsz (ts.length - 1) (by omega)
    have d := sizeL_take ts (ts.length - 1) (by omega)
    rw [show ts.length - 1 + 1 = ts.length by omega, List.take_length] at d
    rw [he] at b; omega
  · have hl1 : ([(p : Int)] ++ placesF c (ts.length - 1)).length = i + 1 := by simp [placesF]; omega
    rw [← hl1, getD_snoc, ← he, show ts.length - 1 = i by omega]
theorem build_seg (l : List Sg) (hl : l.length ≤ 1000) {v p q : Nat} {t : T} (h : Seg l v p q t) : BdC l p q t := by
  induction h with
  | name p h => exact bd_name l p (p + 1) hl h rfl (seg_lt (.name p h)).2 (by omega) (v := 0) (by decide) (.name p h)
  | group p q t h hs h3 ih => have a := seg_lt hs; have b := kd_lt (l := l) (i := q) (by rw [h3]; decide); exact bd_group l p (q + 1) hl q t h h3 a.1 rfl b (by omega) (v := 0) (by decide) (.group p q t h hs h3) ih
  | item p q t _ _ ih => exact ih
  | times p q t hs h5 ih => have a := seg_lt hs; have b := kd_lt (l := l) (i := q) (by rw [h5]; decide); exact bd_times l p (q + 1) hl q t h5 hs a.1 rfl b (by omega) (v := 1) (by decide) (.times p q t hs h5) ih
  | row1 p q t _ ih => exact ih
  | row p q ts c h2 h0 he hs ih =>
    have hseg : Seg l 2 p q (.many 2 ts) := .row p q ts c h2 h0 he hs
    have a := seg_lt hseg
    have C := cuts_r hl h2 h0 he hs
    exact bd_row l p q hl ts _ _ _ _ C.1 a.2 (by omega) ih hseg (cuts_items h0 he (by omega) hs).symm C.2
  | choice1 p q t _ ih => exact ih
  | choice p q ts c e h2 h0 he hs hg ih =>
    have a := seg_lt (.choice p q ts c e h2 h0 he hs hg)
    have C := cuts_c hl h2 h0 he hs hg
    exact bd_choice l p q hl ts _ _ _ _ C.1 a.2 (by omega) ih (cuts_rows (by omega) h0 he hs hg).symm C.2.1 C.2.2
theorem build_segN (l : List Sg) (hl : l.length ≤ 1000) {v p q : Nat} {t : T} (h : Seg l v p q t) : BdN l p q t := by
  induction h with
  | name p h => exact bd_nameN l p (p + 1) hl h rfl (seg_lt (.name p h)).2 (by omega) (v := 0) (by decide) (.name p h)
  | group p q t h hs h3 ih => have a := seg_lt hs; have b := kd_lt (l := l) (i := q) (by rw [h3]; decide); exact bd_groupN l p (q + 1) hl q t h h3 a.1 rfl b (by omega) (v := 0) (by decide) (.group p q t h hs h3) (build_seg l hl hs)
  | item p q t _ _ ih => exact ih
  | times p q t hs h5 ih => have a := seg_lt hs; have b := kd_lt (l := l) (i := q) (by rw [h5]; decide); exact bd_timesN l p (q + 1) hl q t h5 hs a.1 rfl b (by omega) (v := 1) (by decide) (.times p q t hs h5) (build_seg l hl hs)
  | row1 p q t _ ih => exact ih
  | row p q ts c h2 h0 he hs ih =>
    have hseg : Seg l 2 p q (.many 2 ts) := .row p q ts c h2 h0 he hs
    have a := seg_lt hseg
    have C := cuts_r hl h2 h0 he hs
    exact bd_rowN l p q hl ts _ _ _ _ C.1 a.2 (by omega) (fun i hi => build_seg l hl (hs i hi)) hseg (cuts_items h0 he (by omega) hs).symm C.2
  | choice1 p q t _ ih => exact ih
  | choice p q ts c e h2 h0 he hs hg ih =>
    have a := seg_lt (.choice p q ts c e h2 h0 he hs hg)
    have C := cuts_c hl h2 h0 he hs hg
    exact bd_choiceN l p q hl ts _ _ _ _ C.1 a.2 (by omega) (fun i hi => build_seg l hl (hs i hi)) (cuts_rows (by omega) h0 he hs hg).symm C.2.1 C.2.2
end Go.Proofs.YtijpdbjcmnpobaaDoor

namespace Go.Proofs.YtijpdbjcmnpobaaDoor
set_option linter.unusedSimpArgs false
set_option linter.unusedVariables false
set_option maxRecDepth 100000
open Go.RowKit

theorem refParse_h (s : List UInt8) (r : List Pt × Int × Int) (hs : s.length ≤ 1000000) (hp : ParseIs s r) (c : Nat) : HFun Tryd.prog 29 c [strV s] [] (RetP (fun (_ : Unit) _ => True) (fun _ => parseH r) (fun _ => [])) := by
  have hlen := lexO_len s
  have hlx := refLex_h s hs
  have hW : ∀ l, lexV s = .ok l → lexO (lexV s) = (l, 0, 0) := fun l h => by rw [h]; rfl
  rcases hp with ⟨e, hv⟩ | hv | ⟨l, q, hv, hne, hq, hC⟩ | ⟨l, hv, hne, hC⟩ | ⟨l, t, hv, hsg⟩
  · skip
    have he := lexV_err hv
    rw [hv] at hlx hlen
    replace hlx : HPure Tryd.prog 23 [strV s] (lexH ([], e.1, e.2)) := hlx
    refine hfun_of Tryd.func29 rfl (by kernel_rfl) _ _ _ _ rfl 42 rfl rfl (fun X ok hX => ?_)
    refine hw_seq (fun Nh1 h1 => ?_)
    refine hw_region ?_
    refine hq_ 2 (hop_assign rfl) rfl rfl pre0 rfl rfl ?_
    refine hq_ 3 (hop_assign rfl) rfl rfl pre0 rfl rfl ?_
    refine hq_ 4 (hop_assign rfl) rfl rfl pre0 rfl rfl ?_
    refine hseq_nil ?_
    refine h1 _ ?_
    refine hw_seq (fun Nh2 h2 => ?_)
    refine hw_region ?_
    refine hq_ 11 (hop_move rfl) rfl rfl pre0 rfl rfl ?_
    refine hq_ 12 (hop_call0 (xs := [_]) (hlx) ⟨rfl, trivial⟩ ⟨(Fz.eq rfl), trivial⟩) rfl rfl pre0 rfl rfl ?_
    refine hq_ 10 (hop_move rfl) rfl rfl pre0 rfl rfl ?_
    refine hq_ 13 (hop_extract rfl rfl) rfl rfl pre0 rfl rfl ?_
    refine hq_ 14 (hop_extract rfl rfl) rfl rfl pre0 rfl rfl ?_
    refine hq_ 15 (hop_extract rfl rfl) rfl rfl pre0 rfl rfl ?_
    refine hq_ 5 (hop_assign rfl) rfl rfl pre0 rfl rfl ?_
    refine hq_ 6 (hop_assign rfl) rfl rfl pre0 rfl rfl ?_
    refine hq_ 7 (hop_assign rfl) rfl rfl pre0 rfl rfl ?_
    refine hseq_nil ?_
    refine h2 _ ?_
    refine hw_seq (fun Nh3 h3 => ?_)
    refine hw_seq (fun Nh4 h4 => ?_)
    refine hw_region ?_
    refine hq_ 16 (hop_move rfl) rfl rfl pre0 rfl rfl ?_
    refine hq_ 17 (hop_neq rfl rfl) rfl rfl pre0 rfl rfl ?_
    refine hseq_nil ?_
    refine h4 _ ?_
    refine hw_cond _ rfl (fun hc0 => ?_) (fun hc0 => ?_)
    · have hr0 := hc0; (try simp only [hcs, Int.reduceToNat] at hc0)
      refine hw_seq (fun Nh5 h5 => ?_)
      refine hw_region ?_
      refine hq_ 18 (hop_move rfl) rfl rfl pre0 rfl rfl ?_
      refine hq_ 19 (hop_move rfl) rfl rfl pre0 rfl rfl ?_
      refine hq_ 2 (hop_assign rfl) rfl rfl pre0 rfl rfl ?_
      refine hq_ 3 (hop_assign rfl) rfl rfl pre0 rfl rfl ?_
      refine hq_ 4 (hop_assign rfl) rfl rfl pre0 rfl rfl ?_
      refine hseq_nil ?_
      refine h5 _ ?_
      refine hw_ret ?_
      refine hq_then_ret ?_
      refine hf_retR3 ok hX RetS.one rfl (rval_tmp rfl) (rval_tmp rfl) (rval_tmp rfl) [] rfl pre0 (()) (trivial) (by rfl) (by rfl) (kz_t3 (.fz _ _ (.nil 0 5 _ (by decide) none)) (by first | exact .fz _ _ (.imm _) | exact .os _ _ _ _ _ rfl rfl | exact .pt _ _ _ _ _ rfl rfl | exact .nps _ _ _ rfl rfl | (dsimp only; exact .fz _ _ Frz.fz) | exact .fz _ _ (.tup 0 _ _ (fun i hi => absurd hi (Nat.not_lt_zero _)))) (by first | exact .fz _ _ (.imm _) | exact .os _ _ _ _ _ rfl rfl | exact .pt _ _ _ _ _ rfl rfl | exact .nps _ _ _ rfl rfl | (dsimp only; exact .fz _ _ Frz.fz) | exact .fz _ _ (.tup 0 _ _ (fun i hi => absurd hi (Nat.not_lt_zero _))))) ?_
      exact trivial
    · have hr0 := hc0; (try simp only [hcs, Int.reduceToNat] at hc0)
      exfalso; exact he hc0
  · skip
    rw [hv] at hlx hlen
    replace hlx : HPure Tryd.prog 23 [strV s] (lexH ([], 0, 0)) := hlx
    have hC : chk ([] : List Sg) 0 0 true true = (-1, false) := by rw [chk_end (l := []) (i := 0) (Nat.le_refl _)]; rfl
    have hch := check_h [] (by decide)
    rw [hC] at hch
    refine hfun_of Tryd.func29 rfl (by kernel_rfl) _ _ _ _ rfl 42 rfl rfl (fun X ok hX => ?_)
    refine hw_seq (fun Nh1 h1 => ?_)
    refine hw_region ?_
    refine hq_ 2 (hop_assign rfl) rfl rfl pre0 rfl rfl ?_
    refine hq_ 3 (hop_assign rfl) rfl rfl pre0 rfl rfl ?_
    refine hq_ 4 (hop_assign rfl) rfl rfl pre0 rfl rfl ?_
    refine hseq_nil ?_
    refine h1 _ ?_
    refine hw_seq (fun Nh2 h2 => ?_)
    refine hw_region ?_
    refine hq_ 11 (hop_move rfl) rfl rfl pre0 rfl rfl ?_
    refine hq_ 12 (hop_call0 (xs := [_]) (hlx) ⟨rfl, trivial⟩ ⟨(Fz.eq rfl), trivial⟩) rfl rfl pre0 rfl rfl ?_
    refine hq_ 10 (hop_move rfl) rfl rfl pre0 rfl rfl ?_
    refine hq_ 13 (hop_extract rfl rfl) rfl rfl pre0 rfl rfl ?_
    refine hq_ 14 (hop_extract rfl rfl) rfl rfl pre0 rfl rfl ?_
    refine hq_ 15 (hop_extract rfl rfl) rfl rfl pre0 rfl rfl ?_
    refine hq_ 5 (hop_assign rfl) rfl rfl pre0 rfl rfl ?_
    refine hq_ 6 (hop_assign rfl) rfl rfl pre0 rfl rfl ?_
    refine hq_ 7 (hop_assign rfl) rfl rfl pre0 rfl rfl ?_
    refine hseq_nil ?_
    refine h2 _ ?_
    refine hw_seq (fun Nh3 h3 => ?_)
    refine hw_seq (fun Nh4 h4 => ?_)
    refine hw_region ?_
    refine hq_ 16 (hop_move rfl) rfl rfl pre0 rfl rfl ?_
    refine hq_ 17 (hop_neq rfl rfl) rfl rfl pre0 rfl rfl ?_
    refine hseq_nil ?_
    refine h4 _ ?_
    refine hw_cond _ rfl (fun hc0 => ?_) (fun hc0 => ?_)
    · have hr0 := hc0; (try simp only [hcs, Int.reduceToNat] at hc0)
      exfalso; first | exact hc0 rfl | exact hc0 trivial
    · have hr0 := hc0; (try simp only [hcs, Int.reduceToNat] at hc0)
      refine hw_skip ?_
      refine h3 _ ?_
      refine hw_seq (fun Nh5 h5 => ?_)
      refine hw_region ?_
      refine hq_ 21 (hop_move rfl) rfl rfl pre0 rfl rfl ?_
      refine hq_ 22 (hop_call0 (xs := [_]) (hch) ⟨rfl, trivial⟩ ⟨(Fz.eq rfl), trivial⟩) rfl rfl pre0 rfl rfl ?_
      refine hq_ 20 (hop_move rfl) rfl rfl pre0 rfl rfl ?_
      refine hq_ 23 (hop_extract rfl rfl) rfl rfl pre0 rfl rfl ?_
      refine hq_ 24 (hop_extract rfl rfl) rfl rfl pre0 rfl rfl ?_
      refine hq_ 8 (hop_assign rfl) rfl rfl pre0 rfl rfl ?_
      refine hq_ 9 (hop_assign rfl) rfl rfl pre0 rfl rfl ?_
      refine hseq_nil ?_
      refine h5 _ ?_
      refine hw_seq (fun Nh6 h6 => ?_)
      refine hw_seq (fun Nh7 h7 => ?_)
      refine hw_region ?_
      refine hq_ 25 (hop_move rfl) rfl rfl pre0 rfl rfl ?_
      refine hq_ 26 (hop_geq rfl rfl) rfl rfl pre0 rfl rfl ?_
      refine hseq_nil ?_
      refine h7 _ ?_
      refine hw_cond _ rfl (fun hc1 => ?_) (fun hc1 => ?_)
      · have hr1 := hc1; (try simp only [hcs, Int.reduceToNat] at hc1)
        exfalso; simp at hr1
      · have hr1 := hc1; (try simp only [hcs, Int.reduceToNat] at hc1)
        refine hw_skip ?_
        refine h6 _ ?_
        refine hw_seq (fun Nh8 h8 => ?_)
        refine hw_seq (fun Nh9 h9 => ?_)
        refine hw_region ?_
        refine hq_ 32 (hop_move rfl) rfl rfl pre0 rfl rfl ?_
        refine hseq_nil ?_
        refine h9 _ ?_
        refine hw_cond _ rfl (fun hc2 => ?_) (fun hc2 => ?_)
        · have hr2 := hc2; (try simp only [hcs, Int.reduceToNat] at hc2)
          exfalso; simp at hr2
        · have hr2 := hc2; (try simp only [hcs, Int.reduceToNat] at hc2)
          refine hw_skip ?_
          refine h8 _ ?_
          refine hw_seq (fun Nh10 h10 => ?_)
          refine hw_seq (fun Nh11 h11 => ?_)
          refine hw_region ?_
          refine hq_ 35 (hop_move rfl) rfl rfl pre0 rfl rfl ?_
          refine hq_ 36 (hop_len_sl (T := 36) rfl (elOf_spec el_36).1 rfl) rfl rfl pre0 rfl rfl ?_
          refine hq_ 37 (hop_eql rfl rfl) rfl rfl pre0 rfl rfl ?_
          refine hseq_nil ?_
          refine h11 _ ?_
          refine hw_cond _ rfl (fun hc3 => ?_) (fun hc3 => ?_)
          · have hr3 := hc3; (try simp only [hcs, Int.reduceToNat] at hc3)
            refine hw_seq (fun Nh12 h12 => ?_)
            refine hw_region ?_
            refine hq_ 2 (hop_assign rfl) rfl rfl pre0 rfl rfl ?_
            refine hq_ 3 (hop_assign rfl) rfl rfl pre0 rfl rfl ?_
            refine hq_ 4 (hop_assign rfl) rfl rfl pre0 rfl rfl ?_
            refine hseq_nil ?_
            refine h12 _ ?_
            refine hw_ret ?_
            refine hq_then_ret ?_
            refine hf_retR3 ok hX RetS.one rfl (rval_tmp rfl) (rval_tmp rfl) (rval_tmp rfl) [] rfl pre0 (()) (trivial) (by rfl) (by rfl) (kz_t3 (.fz _ _ (.nil 0 5 _ (by decide) none)) (by first | exact .fz _ _ (.imm _) | exact .os _ _ _ _ _ rfl rfl | exact .pt _ _ _ _ _ rfl rfl | exact .nps _ _ _ rfl rfl | (dsimp only; exact .fz _ _ Frz.fz) | exact .fz _ _ (.tup 0 _ _ (fun i hi => absurd hi (Nat.not_lt_zero _)))) (by first | exact .fz _ _ (.imm _) | exact .os _ _ _ _ _ rfl rfl | exact .pt _ _ _ _ _ rfl rfl | exact .nps _ _ _ rfl rfl | (dsimp only; exact .fz _ _ Frz.fz) | exact .fz _ _ (.tup 0 _ _ (fun i hi => absurd hi (Nat.not_lt_zero _))))) ?_
            exact trivial
          · have hr3 := hc3; (try simp only [hcs, Int.reduceToNat] at hc3)
            exfalso; exact absurd hr3 (by decide)
  · skip
    rw [hv] at hlx hlen
    have hll : l.length ≤ 200 := hlen
    replace hlx : HPure Tryd.prog 23 [strV s] (lexH (l, 0, 0)) := hlx
    clear hlen
    have hch := check_h l (by omega)
    rw [hC] at hch
    refine hfun_of Tryd.func29 rfl (by kernel_rfl) _ _ _ _ rfl 42 rfl rfl (fun X ok hX => ?_)
    refine hw_seq (fun Nh1 h1 => ?_)
    refine hw_region ?_
    refine hq_ 2 (hop_assign rfl) rfl rfl pre0 rfl rfl ?_
    refine hq_ 3 (hop_assign rfl) rfl rfl pre0 rfl rfl ?_
    refine hq_ 4 (hop_assign rfl) rfl rfl pre0 rfl rfl ?_
    refine hseq_nil ?_
    refine h1 _ ?_
    refine hw_seq (fun Nh2 h2 => ?_)
    refine hw_region ?_
    refine hq_ 11 (hop_move rfl) rfl rfl pre0 rfl rfl ?_
    refine hq_ 12 (hop_call0 (xs := [_]) (hlx) ⟨rfl, trivial⟩ ⟨(Fz.eq rfl), trivial⟩) rfl rfl pre0 rfl rfl ?_
    refine hq_ 10 (hop_move rfl) rfl rfl pre0 rfl rfl ?_
    refine hq_ 13 (hop_extract rfl rfl) rfl rfl pre0 rfl rfl ?_
    refine hq_ 14 (hop_extract rfl rfl) rfl rfl pre0 rfl rfl ?_
    refine hq_ 15 (hop_extract rfl rfl) rfl rfl pre0 rfl rfl ?_
    refine hq_ 5 (hop_assign rfl) rfl rfl pre0 rfl rfl ?_
    refine hq_ 6 (hop_assign rfl) rfl rfl pre0 rfl rfl ?_
    refine hq_ 7 (hop_assign rfl) rfl rfl pre0 rfl rfl ?_
    refine hseq_nil ?_
    refine h2 _ ?_
    refine hw_seq (fun Nh3 h3 => ?_)
    refine hw_seq (fun Nh4 h4 => ?_)
    refine hw_region ?_
    refine hq_ 16 (hop_move rfl) rfl rfl pre0 rfl rfl ?_
    refine hq_ 17 (hop_neq rfl rfl) rfl rfl pre0 rfl rfl ?_
    refine hseq_nil ?_
    refine h4 _ ?_
    refine hw_cond _ rfl (fun hc0 => ?_) (fun hc0 => ?_)
    · have hr0 := hc0; (try simp only [hcs, Int.reduceToNat] at hc0)
      exfalso; first | exact hc0 rfl | exact hc0 trivial
    · have hr0 := hc0; (try simp only [hcs, Int.reduceToNat] at hc0)
      refine hw_skip ?_
      refine h3 _ ?_
      refine hw_seq (fun Nh5 h5 => ?_)
      refine hw_region ?_
      refine hq_ 21 (hop_move rfl) rfl rfl pre0 rfl rfl ?_
      refine hq_ 22 (hop_call0 (xs := [_]) (hch) ⟨rfl, trivial⟩ ⟨(Fz.eq rfl), trivial⟩) rfl rfl pre0 rfl rfl ?_
      refine hq_ 20 (hop_move rfl) rfl rfl pre0 rfl rfl ?_
      refine hq_ 23 (hop_extract rfl rfl) rfl rfl pre0 rfl rfl ?_
      refine hq_ 24 (hop_extract rfl rfl) rfl rfl pre0 rfl rfl ?_
      refine hq_ 8 (hop_assign rfl) rfl rfl pre0 rfl rfl ?_
      refine hq_ 9 (hop_assign rfl) rfl rfl pre0 rfl rfl ?_
      refine hseq_nil ?_
      refine h5 _ ?_
      refine hw_seq (fun Nh6 h6 => ?_)
      refine hw_seq (fun Nh7 h7 => ?_)
      refine hw_region ?_
      refine hq_ 25 (hop_move rfl) rfl rfl pre0 rfl rfl ?_
      refine hq_ 26 (hop_geq rfl rfl) rfl rfl pre0 rfl rfl ?_
      refine hseq_nil ?_
      refine h7 _ ?_
      refine hw_cond _ rfl (fun hc1 => ?_) (fun hc1 => ?_)
      · have hr1 := hc1; (try simp only [hcs, Int.reduceToNat] at hc1)
        refine hw_seq (fun Nh8 h8 => ?_)
        refine hd_start ?_
        refine hd_q 27 (hop_move rfl) rfl rfl pre0 rfl rfl (k' := 1) rfl ?_
        refine hd_q 28 (hop_move rfl) rfl rfl pre0 rfl rfl (k' := 2) rfl ?_
        refine hd_q 29 (hop_ia_sl el_36 rfl rfl (by omega) (by dsimp only; omega) (nb rfl)) rfl rfl pre0 rfl rfl (k' := 3) rfl ?_
        refine hd_q 30 (hop_fa_fp fd_40_1 rfl (nb rfl)) rfl rfl pre0 rfl rfl (k' := 4) rfl ?_
        refine hd_q 31 (hop_load_fp ty_3 rfl (nb rfl) (fun h => (by rfl))) rfl rfl pre0 rfl rfl (k' := 5) rfl ?_
        refine hd_q 2 (hop_assign rfl) rfl rfl pre0 rfl rfl (k' := 6) rfl ?_
        refine hd_q 3 (hop_assign rfl) rfl rfl pre0 rfl rfl (k' := 7) rfl ?_
        refine hd_q 4 (hop_assign rfl) rfl rfl pre0 rfl rfl (k' := 8) rfl ?_
        refine hd_nil (by kernel_rfl) (by kernel_rfl) (c' := c + 8) rfl ?_
        refine h8 _ ?_
        refine hw_ret ?_
        refine hq_then_ret ?_
        refine hf_retR3 ok hX RetS.one rfl (rval_tmp rfl) (rval_tmp rfl) (rval_tmp rfl) [] rfl pre0 (()) (trivial) (by rfl) (by rfl) (kz_t3 (.fz _ _ (.nil 0 5 _ (by decide) none)) (by first | exact .fz _ _ (.imm _) | exact .os _ _ _ _ _ rfl rfl | exact .pt _ _ _ _ _ rfl rfl | exact .nps _ _ _ rfl rfl | (dsimp only; exact .fz _ _ Frz.fz) | exact .fz _ _ (.tup 0 _ _ (fun i hi => absurd hi (Nat.not_lt_zero _)))) (by first | exact .fz _ _ (.imm _) | exact .os _ _ _ _ _ rfl rfl | exact .pt _ _ _ _ _ rfl rfl | exact .nps _ _ _ rfl rfl | (dsimp only; exact .fz _ _ Frz.fz) | exact .fz _ _ (.tup 0 _ _ (fun i hi => absurd hi (Nat.not_lt_zero _))))) ?_
        exact trivial
      · have hr1 := hc1; (try simp only [hcs, Int.reduceToNat] at hc1)
        exfalso; omega
  · skip
    rw [hv] at hlx hlen
    have hll : l.length ≤ 200 := hlen
    replace hlx : HPure Tryd.prog 23 [strV s] (lexH (l, 0, 0)) := hlx
    clear hlen
    have hch := check_h l (by omega)
    rw [hC] at hch
    refine hfun_of Tryd.func29 rfl (by kernel_rfl) _ _ _ _ rfl 42 rfl rfl (fun X ok hX => ?_)
    refine hw_seq (fun Nh1 h1 => ?_)
    refine hw_region ?_
    refine hq_ 2 (hop_assign rfl) rfl rfl pre0 rfl rfl ?_
    refine hq_ 3 (hop_assign rfl) rfl rfl pre0 rfl rfl ?_
    refine hq_ 4 (hop_assign rfl) rfl rfl pre0 rfl rfl ?_
    refine hseq_nil ?_
    refine h1 _ ?_
    refine hw_seq (fun Nh2 h2 => ?_)
    refine hw_region ?_
    refine hq_ 11 (hop_move rfl) rfl rfl pre0 rfl rfl ?_
    refine hq_ 12 (hop_call0 (xs := [_]) (hlx) ⟨rfl, trivial⟩ ⟨(Fz.eq rfl), trivial⟩) rfl rfl pre0 rfl rfl ?_
    refine hq_ 10 (hop_move rfl) rfl rfl pre0 rfl rfl ?_
    refine hq_ 13 (hop_extract rfl rfl) rfl rfl pre0 rfl rfl ?_
    refine hq_ 14 (hop_extract rfl rfl) rfl rfl pre0 rfl rfl ?_
    refine hq_ 15 (hop_extract rfl rfl) rfl rfl pre0 rfl rfl ?_
    refine hq_ 5 (hop_assign rfl) rfl rfl pre0 rfl rfl ?_
    refine hq_ 6 (hop_assign rfl) rfl rfl pre0 rfl rfl ?_
    refine hq_ 7 (hop_assign rfl) rfl rfl pre0 rfl rfl ?_
    refine hseq_nil ?_
    refine h2 _ ?_
    refine hw_seq (fun Nh3 h3 => ?_)
    refine hw_seq (fun Nh4 h4 => ?_)
    refine hw_region ?_
    refine hq_ 16 (hop_move rfl) rfl rfl pre0 rfl rfl ?_
    refine hq_ 17 (hop_neq rfl rfl) rfl rfl pre0 rfl rfl ?_
    refine hseq_nil ?_
    refine h4 _ ?_
    refine hw_cond _ rfl (fun hc0 => ?_) (fun hc0 => ?_)
    · have hr0 := hc0; (try simp only [hcs, Int.reduceToNat] at hc0)
      exfalso; first | exact hc0 rfl | exact hc0 trivial
    · have hr0 := hc0; (try simp only [hcs, Int.reduceToNat] at hc0)
      refine hw_skip ?_
      refine h3 _ ?_
      refine hw_seq (fun Nh5 h5 => ?_)
      refine hw_region ?_
      refine hq_ 21 (hop_move rfl) rfl rfl pre0 rfl rfl ?_
      refine hq_ 22 (hop_call0 (xs := [_]) (hch) ⟨rfl, trivial⟩ ⟨(Fz.eq rfl), trivial⟩) rfl rfl pre0 rfl rfl ?_
      refine hq_ 20 (hop_move rfl) rfl rfl pre0 rfl rfl ?_
      refine hq_ 23 (hop_extract rfl rfl) rfl rfl pre0 rfl rfl ?_
      refine hq_ 24 (hop_extract rfl rfl) rfl rfl pre0 rfl rfl ?_
      refine hq_ 8 (hop_assign rfl) rfl rfl pre0 rfl rfl ?_
      refine hq_ 9 (hop_assign rfl) rfl rfl pre0 rfl rfl ?_
      refine hseq_nil ?_
      refine h5 _ ?_
      refine hw_seq (fun Nh6 h6 => ?_)
      refine hw_seq (fun Nh7 h7 => ?_)
      refine hw_region ?_
      refine hq_ 25 (hop_move rfl) rfl rfl pre0 rfl rfl ?_
      refine hq_ 26 (hop_geq rfl rfl) rfl rfl pre0 rfl rfl ?_
      refine hseq_nil ?_
      refine h7 _ ?_
      refine hw_cond _ rfl (fun hc1 => ?_) (fun hc1 => ?_)
      · have hr1 := hc1; (try simp only [hcs, Int.reduceToNat] at hc1)
        exfalso; simp at hr1
      · have hr1 := hc1; (try simp only [hcs, Int.reduceToNat] at hc1)
        refine hw_skip ?_
        refine h6 _ ?_
        refine hw_seq (fun Nh8 h8 => ?_)
        refine hw_seq (fun Nh9 h9 => ?_)
        refine hw_region ?_
        refine hq_ 32 (hop_move rfl) rfl rfl pre0 rfl rfl ?_
        refine hseq_nil ?_
        refine h9 _ ?_
        refine hw_cond _ rfl (fun hc2 => ?_) (fun hc2 => ?_)
        · have hr2 := hc2; (try simp only [hcs, Int.reduceToNat] at hc2)
          refine hw_seq (fun Nh10 h10 => ?_)
          refine hw_region ?_
          refine hq_ 33 (hop_move rfl) rfl rfl pre0 rfl rfl ?_
          refine hq_ 34 (hop_len_strl (T := 9) rfl (by kernel_rfl) rfl) rfl rfl pre0 rfl rfl ?_
          refine hq_ 2 (hop_assign rfl) rfl rfl pre0 rfl rfl ?_
          refine hq_ 3 (hop_assign rfl) rfl rfl pre0 rfl rfl ?_
          refine hq_ 4 (hop_assign rfl) rfl rfl pre0 rfl rfl ?_
          refine hseq_nil ?_
          refine h10 _ ?_
          refine hw_ret ?_
          refine hq_then_ret ?_
          refine hf_retR3 ok hX RetS.one rfl (rval_tmp rfl) (rval_tmp rfl) (rval_tmp rfl) [] rfl pre0 (()) (trivial) (by rfl) (by rfl) (kz_t3 (.fz _ _ (.nil 0 5 _ (by decide) none)) (by first | exact .fz _ _ (.imm _) | exact .os _ _ _ _ _ rfl rfl | exact .pt _ _ _ _ _ rfl rfl | exact .nps _ _ _ rfl rfl | (dsimp only; exact .fz _ _ Frz.fz) | exact .fz _ _ (.tup 0 _ _ (fun i hi => absurd hi (Nat.not_lt_zero _)))) (by first | exact .fz _ _ (.imm _) | exact .os _ _ _ _ _ rfl rfl | exact .pt _ _ _ _ _ rfl rfl | exact .nps _ _ _ rfl rfl | (dsimp only; exact .fz _ _ Frz.fz) | exact .fz _ _ (.tup 0 _ _ (fun i hi => absurd hi (Nat.not_lt_zero _))))) ?_
          exact trivial
        · have hr2 := hc2; (try simp only [hcs, Int.reduceToNat] at hc2)
          exfalso; simp at hr2
  · skip
    rw [hv] at hlx hlen
    have hll : l.length ≤ 200 := hlen
    replace hlx : HPure Tryd.prog 23 [strV s] (lexH (l, 0, 0)) := hlx
    clear hlen
    have hch := check_h l (by omega)
    rw [all_good hsg] at hch
    have hlt := seg_lt hsg
    refine hfun_of Tryd.func29 rfl (by kernel_rfl) _ _ _ _ rfl 42 rfl rfl (fun X ok hX => ?_)
    refine hw_seq (fun Nh1 h1 => ?_)
    refine hw_region ?_
    refine hq_ 2 (hop_assign rfl) rfl rfl pre0 rfl rfl ?_
    refine hq_ 3 (hop_assign rfl) rfl rfl pre0 rfl rfl ?_
    refine hq_ 4 (hop_assign rfl) rfl rfl pre0 rfl rfl ?_
    refine hseq_nil ?_
    refine h1 _ ?_
    refine hw_seq (fun Nh2 h2 => ?_)
    refine hw_region ?_
    refine hq_ 11 (hop_move rfl) rfl rfl pre0 rfl rfl ?_
    refine hq_ 12 (hop_call0 (xs := [_]) (hlx) ⟨rfl, trivial⟩ ⟨(Fz.eq rfl), trivial⟩) rfl rfl pre0 rfl rfl ?_
    refine hq_ 10 (hop_move rfl) rfl rfl pre0 rfl rfl ?_
    refine hq_ 13 (hop_extract rfl rfl) rfl rfl pre0 rfl rfl ?_
    refine hq_ 14 (hop_extract rfl rfl) rfl rfl pre0 rfl rfl ?_
    refine hq_ 15 (hop_extract rfl rfl) rfl rfl pre0 rfl rfl ?_
    refine hq_ 5 (hop_assign rfl) rfl rfl pre0 rfl rfl ?_
    refine hq_ 6 (hop_assign rfl) rfl rfl pre0 rfl rfl ?_
    refine hq_ 7 (hop_assign rfl) rfl rfl pre0 rfl rfl ?_
    refine hseq_nil ?_
    refine h2 _ ?_
    refine hw_seq (fun Nh3 h3 => ?_)
    refine hw_seq (fun Nh4 h4 => ?_)
    refine hw_region ?_
    refine hq_ 16 (hop_move rfl) rfl rfl pre0 rfl rfl ?_
    refine hq_ 17 (hop_neq rfl rfl) rfl rfl pre0 rfl rfl ?_
    refine hseq_nil ?_
    refine h4 _ ?_
    refine hw_cond _ rfl (fun hc0 => ?_) (fun hc0 => ?_)
    · have hr0 := hc0; (try simp only [hcs, Int.reduceToNat] at hc0)
      exfalso; first | exact hc0 rfl | exact hc0 trivial
    · have hr0 := hc0; (try simp only [hcs, Int.reduceToNat] at hc0)
      refine hw_skip ?_
      refine h3 _ ?_
      refine hw_seq (fun Nh5 h5 => ?_)
      refine hw_region ?_
      refine hq_ 21 (hop_move rfl) rfl rfl pre0 rfl rfl ?_
      refine hq_ 22 (hop_call0 (xs := [_]) (hch) ⟨rfl, trivial⟩ ⟨(Fz.eq rfl), trivial⟩) rfl rfl pre0 rfl rfl ?_
      refine hq_ 20 (hop_move rfl) rfl rfl pre0 rfl rfl ?_
      refine hq_ 23 (hop_extract rfl rfl) rfl rfl pre0 rfl rfl ?_
      refine hq_ 24 (hop_extract rfl rfl) rfl rfl pre0 rfl rfl ?_
      refine hq_ 8 (hop_assign rfl) rfl rfl pre0 rfl rfl ?_
      refine hq_ 9 (hop_assign rfl) rfl rfl pre0 rfl rfl ?_
      refine hseq_nil ?_
      refine h5 _ ?_
      refine hw_seq (fun Nh6 h6 => ?_)
      refine hw_seq (fun Nh7 h7 => ?_)
      refine hw_region ?_
      refine hq_ 25 (hop_move rfl) rfl rfl pre0 rfl rfl ?_
      refine hq_ 26 (hop_geq rfl rfl) rfl rfl pre0 rfl rfl ?_
      refine hseq_nil ?_
      refine h7 _ ?_
      refine hw_cond _ rfl (fun hc1 => ?_) (fun hc1 => ?_)
      · have hr1 := hc1; (try simp only [hcs, Int.reduceToNat] at hc1)
        exfalso; simp at hr1
      · have hr1 := hc1; (try simp only [hcs, Int.reduceToNat] at hc1)
        refine hw_skip ?_
        refine h6 _ ?_
        refine hw_seq (fun Nh8 h8 => ?_)
        refine hw_seq (fun Nh9 h9 => ?_)
        refine hw_region ?_
        refine hq_ 32 (hop_move rfl) rfl rfl pre0 rfl rfl ?_
        refine hseq_nil ?_
        refine h9 _ ?_
        refine hw_cond _ rfl (fun hc2 => ?_) (fun hc2 => ?_)
        · have hr2 := hc2; (try simp only [hcs, Int.reduceToNat] at hc2)
          exfalso; simp at hr2
        · have hr2 := hc2; (try simp only [hcs, Int.reduceToNat] at hc2)
          refine hw_skip ?_
          refine h8 _ ?_
          refine hw_seq (fun Nh10 h10 => ?_)
          refine hw_seq (fun Nh11 h11 => ?_)
          refine hw_region ?_
          refine hq_ 35 (hop_move rfl) rfl rfl pre0 rfl rfl ?_
          refine hq_ 36 (hop_len_sl (T := 36) rfl (elOf_spec el_36).1 rfl) rfl rfl pre0 rfl rfl ?_
          refine hq_ 37 (hop_eql rfl rfl) rfl rfl pre0 rfl rfl ?_
          refine hseq_nil ?_
          refine h11 _ ?_
          refine hw_cond _ rfl (fun hc3 => ?_) (fun hc3 => ?_)
          · have hr3 := hc3; (try simp only [hcs, Int.reduceToNat] at hc3)
            exfalso; have h := hr3; simp at h; omega
          · have hr3 := hc3; (try simp only [hcs, Int.reduceToNat] at hc3)
            refine hw_skip ?_
            refine h10 _ ?_
            refine hw_seq (fun Nh12 h12 => ?_)
            refine hw_region ?_
            refine hq_ 38 (hop_move rfl) rfl rfl pre0 rfl rfl ?_
            refine hq_ 39 (hop_move rfl) rfl rfl pre0 rfl rfl ?_
            refine hq_ 40 (hop_len_sl (T := 36) rfl (elOf_spec el_36).1 rfl) rfl rfl pre0 rfl rfl ?_
            refine hf_callR 41 (xs := [_, _, _, _]) (pre := []) (build_segN l (by omega) hsg _) ⟨rfl, ⟨rfl, ⟨rfl, ⟨rfl, trivial⟩⟩⟩⟩ pre0 rfl rfl (fun g3 c1 hx1 => ?_)
            (try dsimp only)
            refine hq_ 2 (hop_assign rfl) rfl rfl pre0 rfl rfl ?_
            refine hq_ 3 (hop_assign rfl) rfl rfl pre0 rfl rfl ?_
            refine hq_ 4 (hop_assign rfl) rfl rfl pre0 rfl rfl ?_
            refine hseq_nil ?_
            refine h12 _ ?_
            refine hw_ret ?_
            refine hf_retR3 ok hX RetS.one rfl (rval_tmp rfl) (rval_tmp rfl) (rval_tmp rfl) [(9003, _)] rfl (preC rfl pre0) (()) (trivial) (by rfl) (by rfl) (kz_t3 (.fz _ _ (fz_row (l := T.flat 0 t) (enc := ptF) (d := default) (List.mem_cons_self ..) rfl rfl (Nat.le_refl _) (fun i j hi hj => pt_fz _ j))) (by first | exact .fz _ _ (.imm _) | exact .os _ _ _ _ _ rfl rfl | exact .pt _ _ _ _ _ rfl rfl | exact .nps _ _ _ rfl rfl | (dsimp only; exact .fz _ _ Frz.fz) | exact .fz _ _ (.tup 0 _ _ (fun i hi => absurd hi (Nat.not_lt_zero _)))) (by first | exact .fz _ _ (.imm _) | exact .os _ _ _ _ _ rfl rfl | exact .pt _ _ _ _ _ rfl rfl | exact .nps _ _ _ rfl rfl | (dsimp only; exact .fz _ _ Frz.fz) | exact .fz _ _ (.tup 0 _ _ (fun i hi => absurd hi (Nat.not_lt_zero _))))) ?_
            exact trivial
end Go.Proofs.YtijpdbjcmnpobaaDoor

namespace Go.Proofs.YtijpdbjcmnpobaaDoor
set_option linter.unusedSimpArgs false
set_option linter.unusedVariables false

def nameV (s : List UInt8) : Bool := match lexV s with | .ok [x] => decide (x.kind = 1) && decide (x.name = s) | _ => false
def aloneV (x : Pt) : Bool :=
  if x.kind = 1 then decide (x.kids.length = 0) && decide (x.low = 0) && decide (x.high = 0) && nameV x.name
  else if x.kind = 2 ∨ x.kind = 3 then decide (1 < x.kids.length) && decide (x.low = 0) && decide (x.high = 0) && decide (x.name = [])
  else if x.kind = 4 then decide (x.kids.length = 1) && decide (0 ≤ x.low) && decide (x.low ≤ 20) && (decide (x.high = -1) || decide ((if 1 > x.low then 1 else x.low) ≤ x.high) && decide (x.high ≤ 20)) && decide (x.name = [])
  else false
/-- The stack of what isn't yet a kid. -/
def rightL (n : Nat) : Nat → List Pt → List Int → Bool
  | _, [], op => decide (op.length = 1) || decide (n = 0)
  | i, x :: r, op => (aloneV x && (decide (x.kids.length ≤ op.length) && decide (op.drop (op.length - x.kids.length) = x.kids))) && rightL n (i + 1) r (op.take (op.length - x.kids.length) ++ [(i : Int)])
def rightV (e : List Pt) : Bool := rightL e.length 0 e []
mutual
/-- A tree whose parts may be. -/
def T.ok : T → Bool
  | .name s => nameV s
  | .times lo hi t => decide (0 ≤ lo) && decide (lo ≤ 20) && (decide (hi = -1) || decide ((if 1 > lo then 1 else lo) ≤ hi) && decide (hi ≤ 20)) && T.ok t
  | .many k ts => (decide (k = 2) || decide (k = 3)) && decide (2 ≤ ts.length) && T.okL ts
def T.okL : List T → Bool
  | [] => true
  | t :: ts => T.ok t && T.okL ts
end
theorem drop_app_len {α : Type} (a b : List α) : (a ++ b).drop ((a ++ b).length - b.length) = b := by
  rw [List.length_append, Nat.add_sub_cancel]; simp
theorem take_app_len {α : Type} (a b : List α) : (a ++ b).take ((a ++ b).length - b.length) = a := by
  rw [List.length_append, Nat.add_sub_cancel]; simp
mutual
/-- A tree's parts leave its root on the stack. -/
theorem right_flat (n : Nat) : ∀ (t : T) (b : Nat) (r : List Pt) (op : List Int), t.ok = true → rightL n b (T.flat b t ++ r) op = rightL n (b + t.size) r (op ++ [T.root b t])
  | .name s, b, r, op, h => by
    simp only [T.ok] at h
    simp only [T.flat, List.singleton_append, rightL, aloneV, if_true, h, T.size, T.root]
    simp
  | .times lo hi t, b, r, op, h => by
    simp only [T.ok, Bool.and_eq_true] at h
    have e := right_flat n t b ([⟨4, lo, hi, [], [((b + t.size : Nat) : Int) - 1]⟩] ++ r) op h.2
    simp only [T.flat, List.append_assoc]
    rw [e]
    simp only [List.singleton_append, rightL]
    have ha : aloneV ⟨4, lo, hi, [], [((b + t.size : Nat) : Int) - 1]⟩ = true := by
      unfold aloneV
      rw [if_neg (show ¬ (4 : Int) = 1 by decide), if_neg (show ¬ ((4 : Int) = 2 ∨ (4 : Int) = 3) by decide), if_pos rfl]
      simp only [Bool.and_eq_true]
      exact ⟨⟨⟨⟨rfl, h.1.1.1⟩, h.1.1.2⟩, h.1.2⟩, rfl⟩
    have e1 := drop_app_len op [T.root b t]
    have e2 := take_app_len op [T.root b t]
    rw [show ([((b + t.size : Nat) : Int) - 1] : List Int) = [T.root b t] from rfl] at ha ⊢
    rw [ha, e1, e2]
    rw [decide_eq_true (by simp), decide_eq_true rfl]
    simp only [Bool.true_and, T.size, T.root]
    have e3 : ((b + (t.size + 1) : Nat) : Int) - 1 = ((b + t.size : Nat) : Int) := by omega
    have e4 : b + t.size + 1 = b + (t.size + 1) := by omega
    rw [e3, e4]
  | .many k ts, b, r, op, h => by
    simp only [T.ok, Bool.and_eq_true, Bool.or_eq_true, decide_eq_true_eq] at h
    have e := right_flatL n ts b ([⟨k, 0, 0, [], rootsL b ts⟩] ++ r) op h.2
    simp only [T.flat, List.append_assoc]
    rw [e]
    simp only [List.singleton_append, rightL]
    have hl := rootsL_len ts b
    have ha : aloneV ⟨k, 0, 0, [], rootsL b ts⟩ = true := by
      unfold aloneV
      rw [if_neg (by show ¬ k = 1; omega), if_pos (by show k = 2 ∨ k = 3; exact h.1.1)]
      simp only [hl]
      rw [decide_eq_true (show 1 < ts.length by omega)]; rfl
    have e1 := drop_app_len op (rootsL b ts)
    have e2 := take_app_len op (rootsL b ts)
    rw [ha, e1, e2]
    rw [decide_eq_true (by simp), decide_eq_true rfl]
    simp only [Bool.true_and, T.size, T.root]
    have e3 : ((b + (T.sizeL ts + 1) : Nat) : Int) - 1 = ((b + T.sizeL ts : Nat) : Int) := by omega
    have e4 : b + T.sizeL ts + 1 = b + (T.sizeL ts + 1) := by omega
    rw [e3, e4]
theorem right_flatL (n : Nat) : ∀ (ts : List T) (b : Nat) (r : List Pt) (op : List Int), T.okL ts = true → rightL n b (T.flatL b ts ++ r) op = rightL n (b + T.sizeL ts) r (op ++ rootsL b ts)
  | [], b, r, op, h => by simp [T.flatL, T.sizeL, rootsL]
  | t :: ts, b, r, op, h => by
    simp only [T.okL, Bool.and_eq_true] at h
    simp only [T.flatL, List.append_assoc]
    rw [right_flat n t b _ op h.1, right_flatL n ts _ r _ h.2]
    simp [T.sizeL, rootsL, T.root, Nat.add_assoc]
end
theorem right_of_ok {t : T} (h : t.ok = true) : rightV (T.flat 0 t) = true := by
  have := right_flat (T.flat 0 t).length t 0 [] [] h
  rw [List.append_nil] at this
  unfold rightV
  rw [this]
  simp [rightL]
/-- A name is read as one. -/
theorem nameV_of {p : Int} {n : List UInt8} (h : SgW ⟨1, p, 0, 0, n⟩) : nameV n = true := by
  have := lex_show (l := [⟨1, 0, 0, 0, n⟩]) (f := true) (p := []) (out := []) (by
    intro x hx
    simp only [List.mem_singleton] at hx
    subst hx
    cases h with
    | name h1 h2 h3 => exact .name h1 h2 h3) (by simp)
  obtain ⟨l', e, hs⟩ := this
  have e : lexV n = .ok l' := by
    simpa [showG, sepL, pieceL, ← lexV_at] using e
  unfold nameV
  rw [e]
  match l', hs with
  | [y], hs => 
    have := hs.1
    simp only at this ⊢
    rw [this]; simp
theorem sgW_at {l : List Sg} (h : ∀ x ∈ l, SgW x) {i : Nat} (hi : i < l.length) : SgW (l.getD i default) := by
  rw [List.getD_eq_getElem?_getD, List.getElem?_eq_getElem hi]; exact h _ (List.getElem_mem hi)
theorem okL_of {ts : List T} (h : ∀ i, i < ts.length → (ts.getD i default).ok = true) : T.okL ts = true := by
  induction ts with
  | nil => rfl
  | cons t ts ih =>
    simp only [T.okL, Bool.and_eq_true]
    exact ⟨h 0 (by simp), ih fun i hi => by have := h (i + 1) (by simpa using hi); simpa using this⟩
theorem okL_at {ts : List T} (h : T.okL ts = true) : ∀ i, i < ts.length → (ts.getD i default).ok = true := by
  induction ts with
  | nil => intro i hi; exact absurd hi (Nat.not_lt_zero _)
  | cons t ts ih =>
    simp only [T.okL, Bool.and_eq_true] at h
    intro i hi
    cases i with
    | zero => exact h.1
    | succ i => have := ih h.2 i (by simpa using hi); simpa using this
/-- What has been read may be. -/
theorem kd1 {x : Sg} (hw : SgW x) (h : x.kind = 1) : SgW ⟨1, 0, 0, 0, x.name⟩ := by
  cases hw with
  | @name a n h1 h2 h3 => exact .name h1 h2 h3
  | open_ => exact absurd (show (2 : Int) = 1 from h) (by decide)
  | shut => exact absurd (show (3 : Int) = 1 from h) (by decide)
  | or_ => exact absurd (show (4 : Int) = 1 from h) (by decide)
  | times _ => exact absurd (show (5 : Int) = 1 from h) (by decide)
theorem kd5 {x : Sg} (hw : SgW x) (h : x.kind = 5) : TimesOk x.low x.high := by
  cases hw with
  | name _ _ _ => exact absurd (show (1 : Int) = 5 from h) (by decide)
  | open_ => exact absurd (show (2 : Int) = 5 from h) (by decide)
  | shut => exact absurd (show (3 : Int) = 5 from h) (by decide)
  | or_ => exact absurd (show (4 : Int) = 5 from h) (by decide)
  | times h' => exact h'
theorem seg_ok {l : List Sg} (hW : ∀ x ∈ l, SgW x) {v p q : Nat} {t : T} (h : Seg l v p q t) : t.ok = true := by
  induction h with
  | name p h =>
    have hp := kd_lt (l := l) (i := p) (by rw [h]; decide)
    have hw := sgW_at hW hp
    rw [kd_in hp] at h
    exact nameV_of (kd1 hw h)
  | group _ _ _ _ _ _ ih => exact ih
  | item _ _ _ _ _ ih => exact ih
  | times p q t hs h5 ih =>
    have hp := kd_lt (l := l) (i := q) (by rw [h5]; decide)
    have hw := sgW_at hW hp
    rw [kd_in hp] at h5
    obtain ⟨⟨h1, h2⟩, h3⟩ := kd5 hw h5
    simp only [T.ok, Bool.and_eq_true, Bool.or_eq_true, decide_eq_true_eq]
    refine ⟨⟨⟨h1, h2⟩, ?_⟩, ih⟩
    rcases h3 with h3 | h3
    · exact .inl h3
    · right; split <;> omega
  | row1 _ _ _ _ ih => exact ih
  | row p q ts c h2 _ _ _ ih =>
    simp only [T.ok, Bool.and_eq_true, Bool.or_eq_true, decide_eq_true_eq]
    exact ⟨⟨.inl trivial, h2⟩, okL_of ih⟩
  | choice1 _ _ _ _ ih => exact ih
  | choice p q ts c e h2 _ _ _ _ ih =>
    simp only [T.ok, Bool.and_eq_true, Bool.or_eq_true, decide_eq_true_eq]
    exact ⟨⟨.inr trivial, h2⟩, okL_of ih⟩
end Go.Proofs.YtijpdbjcmnpobaaDoor

namespace Go.Proofs.YtijpdbjcmnpobaaDoor
set_option linter.unusedSimpArgs false
set_option linter.unusedVariables false
set_option maxRecDepth 100000
set_option maxHeartbeats 1000000
open Go.RowKit

theorem ext_getD {α : Type} (d : α) {a b : List α} (hl : a.length = b.length) (h : ∀ j, j < a.length → a.getD j d = b.getD j d) : a = b := by
  apply List.ext_getElem hl
  intro i h1 h2
  have := h i h1
  rwa [List.getD_eq_getElem?_getD, List.getD_eq_getElem?_getD, List.getElem?_eq_getElem h1, List.getElem?_eq_getElem h2] at this
theorem sameInts_h (a b : List Int) (ha : a.length ≤ 1000000) (hb : b.length ≤ 1000000) : HPure Tryd.prog 66 [kidsV a, kidsV b] (boolV (decide (a = b))) := by
  refine hpure_of Tryd.func66 rfl (by kernel_rfl) _ _ _ rfl 26 rfl rfl (fun w F => ?_)
  refine hw_seq (fun Nh1 h1 => ?_)
  refine hw_region ?_
  refine hq_ 4 (hop_assign rfl) rfl rfl pre0 rfl rfl ?_
  refine hseq_nil ?_
  refine h1 _ ?_
  refine hw_seq (fun Nh2 h2 => ?_)
  refine hw_seq (fun Nh3 h3 => ?_)
  refine hw_region ?_
  refine hq_ 6 (hop_move rfl) rfl rfl pre0 rfl rfl ?_
  refine hq_ 7 (hop_len_sl (T := 98) rfl (elOf_spec el_98).1 rfl) rfl rfl pre0 rfl rfl ?_
  refine hq_ 8 (hop_move rfl) rfl rfl pre0 rfl rfl ?_
  refine hq_ 9 (hop_len_sl (T := 98) rfl (elOf_spec el_98).1 rfl) rfl rfl pre0 rfl rfl ?_
  refine hq_ 10 (hop_neq rfl rfl) rfl rfl pre0 rfl rfl ?_
  refine hseq_nil ?_
  refine h3 _ ?_
  refine hw_cond _ rfl (fun hc0 => ?_) (fun hc0 => ?_)
  · have hr0 := hc0; (try simp only [hcs, Int.reduceToNat] at hc0)
    refine hw_seq (fun Nh4 h4 => ?_)
    refine hw_region ?_
    refine hq_ 4 (hop_assign rfl) rfl rfl pre0 rfl rfl ?_
    refine hseq_nil ?_
    refine h4 _ ?_
    refine hw_ret ?_
    refine hq_then_ret ?_
    refine hq_ret1 rfl (rval_tmp rfl) [] rfl pre0 ?_
    rw [decide_eq_false (fun h => hc0 (by rw [h]))]; exact .imm _
  · have hr0 := hc0; (try simp only [hcs, Int.reduceToNat] at hc0)
    refine hw_skip ?_
    refine h2 _ ?_
    refine hw_seq (fun Nh5 h5 => ?_)
    refine hw_seq (fun Nh6 h6 => ?_)
    refine hw_region ?_
    refine hq_ 5 (hop_assign rfl) rfl rfl pre0 rfl rfl ?_
    refine hseq_nil ?_
    refine h6 _ ?_
    refine hw_block ?_
    refine hw_loopc (α := Nat) (fun x c => ⟨26, [(0, .v (kidsV a)), (1, .v (kidsV b)), (5, .v (intV x))], [], c⟩) (fun x => x ≤ a.length ∧ ∀ j, j < x → a.getD j 0 = b.getD j 0) (fun x => a.length - x) (0) (by exact ⟨Nat.zero_le _, fun j hj => absurd hj (Nat.not_lt_zero _)⟩) (hsub_of rfl (Nat.le_refl _) (TmSub.cons rfl (Sb.refl _) (TmSub.cons rfl (Sb.refl _) (TmSub.cons rfl (Sb.refl _) TmSub.nil))) HpSub.nil) (fun k c hx NhL7 hL7 => ?_)
    (try dsimp only at hx hL7 ⊢)
    obtain ⟨hk, hE⟩ := hx
    refine hw_seq (fun Nh8 h8 => ?_)
    refine hw_seq (fun Nh9 h9 => ?_)
    refine hw_region ?_
    refine hq_ 11 (hop_move rfl) rfl rfl pre0 rfl rfl ?_
    refine hq_ 12 (hop_move rfl) rfl rfl pre0 rfl rfl ?_
    refine hq_ 13 (hop_len_sl (T := 98) rfl (elOf_spec el_98).1 rfl) rfl rfl pre0 rfl rfl ?_
    refine hq_ 14 (hop_lss rfl rfl) rfl rfl pre0 rfl rfl ?_
    refine hseq_nil ?_
    refine h9 _ ?_
    refine hw_cond _ rfl (fun hc1 => ?_) (fun hc1 => ?_)
    · have hr1 := hc1; (try simp only [hcs, Int.reduceToNat] at hc1)
      refine hw_skip ?_
      refine h8 _ ?_
      refine hw_seq (fun Nh10 h10 => ?_)
      refine hw_block ?_
      refine hw_seq (fun Nh11 h11 => ?_)
      refine hd_start ?_
      refine hd_q 17 (hop_move rfl) rfl rfl pre0 rfl rfl (k' := 1) rfl ?_
      refine hd_q 18 (hop_move rfl) rfl rfl pre0 rfl rfl (k' := 2) rfl ?_
      refine hd_q 19 (hop_ia_sl el_98 rfl rfl (by omega) (by omega) (nb rfl)) rfl rfl pre0 rfl rfl (k' := 3) rfl ?_
      refine hd_q 20 (HOp.val (v' := intV (a.getD k 0)) (hop_load_fp ty_3 rfl (nb rfl) (fun h => (by rfl))) (rfl)) rfl rfl pre0 rfl rfl (k' := 4) rfl ?_
      refine hd_q 21 (hop_move rfl) rfl rfl pre0 rfl rfl (k' := 5) rfl ?_
      refine hd_q 22 (hop_move rfl) rfl rfl pre0 rfl rfl (k' := 6) rfl ?_
      refine hd_q 23 (hop_ia_sl el_98 rfl rfl (by omega) (by omega) (nb rfl)) rfl rfl pre0 rfl rfl (k' := 7) rfl ?_
      refine hd_q 24 (HOp.val (v' := intV (b.getD k 0)) (hop_load_fp ty_3 rfl (nb rfl) (fun h => (by rfl))) (rfl)) rfl rfl pre0 rfl rfl (k' := 8) rfl ?_
      refine hd_q 25 (hop_neq rfl rfl) rfl rfl pre0 rfl rfl (k' := 9) rfl ?_
      refine hd_nil (by kernel_rfl) (by kernel_rfl) (c' := c + 9) rfl ?_
      refine h11 _ ?_
      refine hw_cond _ rfl (fun hc2 => ?_) (fun hc2 => ?_)
      · have hr2 := hc2; (try simp only [hcs, Int.reduceToNat] at hc2)
        refine hw_seq (fun Nh12 h12 => ?_)
        refine hw_region ?_
        refine hq_ 4 (hop_assign rfl) rfl rfl pre0 rfl rfl ?_
        refine hseq_nil ?_
        refine h12 _ ?_
        refine hw_ret ?_
        refine hq_block_ret ?_
        refine hq_then_ret ?_
        refine hq_then_ret ?_
        refine hq_block_ret ?_
        refine hq_then_ret ?_
        refine hq_ret1 rfl (rval_tmp rfl) [] rfl pre0 ?_
        rw [decide_eq_false (fun h => hc2 (by rw [h]))]; exact .imm _
      · have hr2 := hc2; (try simp only [hcs, Int.reduceToNat] at hc2)
        refine hw_skip ?_
        refine hq_block ?_
        refine h10 _ ?_
        refine hw_region ?_
        refine hq_ 15 (hop_move rfl) rfl rfl pre0 rfl rfl ?_
        refine hq_ 16 (hop_addi rfl rfl rfl (by omega) (by omega)) rfl rfl pre0 rfl rfl ?_
        refine hq_ 5 (hop_assign rfl) rfl rfl pre0 rfl rfl ?_
        refine hseq_nil ?_
        exact hL7 (k + 1) _ _ (by (try dsimp only); exact ⟨by omega, fun j hj => by by_cases e : j = k; (· subst e; exact hc2); exact hE j (by omega)⟩) (by (try dsimp only); omega) (hsub_of rfl (Nat.le_refl _) (TmSub.cons rfl (Sb.refl _) (TmSub.cons rfl (Sb.refl _) (TmSub.cons rfl (Sb.refl _) TmSub.nil))) HpSub.nil)
    · have hr1 := hc1; (try simp only [hcs, Int.reduceToNat] at hc1)
      refine hw_exit ?_
      refine hq_then_exit ?_
      refine hq_then_exit ?_
      refine hq_block_here ?_
      refine h5 _ ?_
      refine hw_seq (fun Nh13 h13 => ?_)
      refine hw_region ?_
      refine hq_ 4 (hop_assign rfl) rfl rfl pre0 rfl rfl ?_
      refine hseq_nil ?_
      refine h13 _ ?_
      refine hw_ret ?_
      refine hq_ret1 rfl (rval_tmp rfl) [] rfl pre0 ?_
      rw [decide_eq_true (ext_getD 0 (by omega) (fun j hj => hE j (by omega)))]; exact .imm _
theorem pt_ext {x y : Pt} (h0 : x.kind = y.kind) (h1 : x.low = y.low) (h2 : x.high = y.high) (h3 : x.name = y.name) (h4 : x.kids = y.kids) : x = y := by
  cases x; cases y; simp only at *; subst h0; subst h1; subst h2; subst h3; subst h4; rfl
/-- Parts that aren't too long. -/
@[reducible] def PtB (l : List Pt) : Prop := l.length ≤ 100000 ∧ ∀ i, i < l.length → (l.getD i default).kids.length ≤ 100000 ∧ (l.getD i default).name.length ≤ 1000000
theorem samePts_h (a b : List Pt) (ha : PtB a) (hb : PtB b) : HPure Tryd.prog 30 [ptsV a, ptsV b] (boolV (decide (a = b))) := by
  have hla := ha.1
  have hlb := hb.1
  refine hpure_of Tryd.func30 rfl (by kernel_rfl) _ _ _ rfl 81 rfl rfl (fun w F => ?_)
  refine hw_seq (fun Nh1 h1 => ?_)
  refine hw_region ?_
  refine hq_ 4 (hop_assign rfl) rfl rfl pre0 rfl rfl ?_
  refine hseq_nil ?_
  refine h1 _ ?_
  refine hw_seq (fun Nh2 h2 => ?_)
  refine hw_seq (fun Nh3 h3 => ?_)
  refine hw_region ?_
  refine hq_ 6 (hop_move rfl) rfl rfl pre0 rfl rfl ?_
  refine hq_ 7 (hop_len_sl (T := 55) rfl (elOf_spec el_55).1 rfl) rfl rfl pre0 rfl rfl ?_
  refine hq_ 8 (hop_move rfl) rfl rfl pre0 rfl rfl ?_
  refine hq_ 9 (hop_len_sl (T := 55) rfl (elOf_spec el_55).1 rfl) rfl rfl pre0 rfl rfl ?_
  refine hq_ 10 (hop_neq rfl rfl) rfl rfl pre0 rfl rfl ?_
  refine hseq_nil ?_
  refine h3 _ ?_
  refine hw_cond _ rfl (fun hc0 => ?_) (fun hc0 => ?_)
  · have hr0 := hc0; (try simp only [hcs, Int.reduceToNat] at hc0)
    refine hw_seq (fun Nh4 h4 => ?_)
    refine hw_region ?_
    refine hq_ 4 (hop_assign rfl) rfl rfl pre0 rfl rfl ?_
    refine hseq_nil ?_
    refine h4 _ ?_
    refine hw_ret ?_
    refine hq_then_ret ?_
    refine hq_ret1 rfl (rval_tmp rfl) [] rfl pre0 ?_
    rw [decide_eq_false (fun h => hc0 (by rw [h]))]; exact .imm _
  · have hr0 := hc0; (try simp only [hcs, Int.reduceToNat] at hc0)
    refine hw_skip ?_
    refine h2 _ ?_
    refine hw_seq (fun Nh5 h5 => ?_)
    refine hw_seq (fun Nh6 h6 => ?_)
    refine hw_region ?_
    refine hq_ 5 (hop_assign rfl) rfl rfl pre0 rfl rfl ?_
    refine hseq_nil ?_
    refine h6 _ ?_
    refine hw_block ?_
    refine hw_loopc (α := Nat) (fun x c => ⟨81, [(0, .v (ptsV a)), (1, .v (ptsV b)), (5, .v (intV x))], [], c⟩) (fun x => x ≤ a.length ∧ ∀ j, j < x → a.getD j default = b.getD j default) (fun x => a.length - x) (0) (by exact ⟨Nat.zero_le _, fun j hj => absurd hj (Nat.not_lt_zero _)⟩) (hsub_of rfl (Nat.le_refl _) (TmSub.cons rfl (Sb.refl _) (TmSub.cons rfl (Sb.refl _) (TmSub.cons rfl (Sb.refl _) TmSub.nil))) HpSub.nil) (fun k c hx NhL7 hL7 => ?_)
    (try dsimp only at hx hL7 ⊢)
    obtain ⟨hk, hE⟩ := hx
    refine hw_seq (fun Nh8 h8 => ?_)
    refine hw_seq (fun Nh9 h9 => ?_)
    refine hw_region ?_
    refine hq_ 11 (hop_move rfl) rfl rfl pre0 rfl rfl ?_
    refine hq_ 12 (hop_move rfl) rfl rfl pre0 rfl rfl ?_
    refine hq_ 13 (hop_len_sl (T := 55) rfl (elOf_spec el_55).1 rfl) rfl rfl pre0 rfl rfl ?_
    refine hq_ 14 (hop_lss rfl rfl) rfl rfl pre0 rfl rfl ?_
    refine hseq_nil ?_
    refine h9 _ ?_
    refine hw_cond _ rfl (fun hc1 => ?_) (fun hc1 => ?_)
    · have hr1 := hc1; (try simp only [hcs, Int.reduceToNat] at hc1)
      have hka := ha.2 k (by omega); have hkb := hb.2 k (by omega)
      refine hw_skip ?_
      refine h8 _ ?_
      refine hw_seq (fun Nh10 h10 => ?_)
      refine hw_block ?_
      refine hw_seq (fun Nh11 h11 => ?_)
      refine hd_start ?_
      refine hd_q 17 (hop_move rfl) rfl rfl pre0 rfl rfl (k' := 1) rfl ?_
      refine hd_q 18 (hop_move rfl) rfl rfl pre0 rfl rfl (k' := 2) rfl ?_
      refine hd_q 19 (hop_ia_sl el_55 rfl rfl (by omega) (by omega) (nb rfl)) rfl rfl pre0 rfl rfl (k' := 3) rfl ?_
      refine hd_q 20 (hop_fa_fp fd_109_0 rfl (nb rfl)) rfl rfl pre0 rfl rfl (k' := 4) rfl ?_
      refine hd_q 21 (HOp.val (v' := intV (a.getD k default).kind) (hop_load_fp ty_3 rfl (nb rfl) (fun h => (by rfl))) (rfl)) rfl rfl pre0 rfl rfl (k' := 5) rfl ?_
      refine hd_q 22 (hop_move rfl) rfl rfl pre0 rfl rfl (k' := 6) rfl ?_
      refine hd_q 23 (hop_move rfl) rfl rfl pre0 rfl rfl (k' := 7) rfl ?_
      refine hd_q 24 (hop_ia_sl el_55 rfl rfl (by omega) (by omega) (nb rfl)) rfl rfl pre0 rfl rfl (k' := 8) rfl ?_
      refine hd_q 25 (hop_fa_fp fd_109_0 rfl (nb rfl)) rfl rfl pre0 rfl rfl (k' := 9) rfl ?_
      refine hd_q 26 (HOp.val (v' := intV (b.getD k default).kind) (hop_load_fp ty_3 rfl (nb rfl) (fun h => (by rfl))) (rfl)) rfl rfl pre0 rfl rfl (k' := 10) rfl ?_
      refine hd_q 27 (hop_neq rfl rfl) rfl rfl pre0 rfl rfl (k' := 11) rfl ?_
      refine hd_q 28 (hop_move rfl) rfl rfl pre0 rfl rfl (k' := 12) rfl ?_
      refine hd_g 29 11 28 false _ (fun hb => hop_move rfl) rfl rfl rfl rfl pre0 rfl rfl rfl (k' := 13) rfl ?_
      refine hd_g 30 11 28 false _ (fun hb => hop_move rfl) rfl rfl rfl rfl pre0 rfl rfl rfl (k' := 14) rfl ?_
      refine hd_g 31 11 28 false _ (fun hb => hop_ia_sl el_55 rfl rfl (by (simp at hb; first | omega | (dsimp only; omega) | (simp <;> omega))) (by (simp at hb; first | omega | (dsimp only; omega) | (simp <;> omega))) (nb rfl)) rfl rfl rfl rfl pre0 rfl rfl rfl (k' := 15) rfl ?_
      refine hd_g 32 11 28 false _ (fun hb => hop_fa_fp fd_109_1 rfl (nb rfl)) rfl rfl rfl rfl pre0 rfl rfl rfl (k' := 16) rfl ?_
      refine hd_g 33 11 28 false _ (fun hb => HOp.val (v' := intV (a.getD k default).low) (hop_load_fp ty_3 rfl (nb rfl) (fun h => (by rfl))) (rfl)) rfl rfl rfl rfl pre0 rfl rfl rfl (k' := 17) rfl ?_
      refine hd_g 34 11 28 false _ (fun hb => hop_move rfl) rfl rfl rfl rfl pre0 rfl rfl rfl (k' := 18) rfl ?_
      refine hd_g 35 11 28 false _ (fun hb => hop_move rfl) rfl rfl rfl rfl pre0 rfl rfl rfl (k' := 19) rfl ?_
      refine hd_g 36 11 28 false _ (fun hb => hop_ia_sl el_55 rfl rfl (by (simp at hb; first | omega | (dsimp only; omega) | (simp <;> omega))) (by (simp at hb; first | omega | (dsimp only; omega) | (simp <;> omega))) (nb rfl)) rfl rfl rfl rfl pre0 rfl rfl rfl (k' := 20) rfl ?_
      refine hd_g 37 11 28 false _ (fun hb => hop_fa_fp fd_109_1 rfl (nb rfl)) rfl rfl rfl rfl pre0 rfl rfl rfl (k' := 21) rfl ?_
      refine hd_g 38 11 28 false _ (fun hb => HOp.val (v' := intV (b.getD k default).low) (hop_load_fp ty_3 rfl (nb rfl) (fun h => (by rfl))) (rfl)) rfl rfl rfl rfl pre0 rfl rfl rfl (k' := 22) rfl ?_
      refine hd_g 39 11 28 false _ (fun hb => hop_neq rfl rfl) rfl rfl rfl rfl pre0 rfl rfl rfl (k' := 23) rfl ?_
      refine hd_p 40 (hstep_or _ _ rfl rfl rfl) rfl rfl rfl (k' := 24) rfl ?_
      refine hd_q 41 (hop_move rfl) rfl rfl pre0 rfl rfl (k' := 25) rfl ?_
      refine hd_g 42 24 41 false _ (fun hb => hop_move rfl) rfl rfl rfl rfl pre0 rfl rfl rfl (k' := 26) rfl ?_
      refine hd_g 43 24 41 false _ (fun hb => hop_move rfl) rfl rfl rfl rfl pre0 rfl rfl rfl (k' := 27) rfl ?_
      refine hd_g 44 24 41 false _ (fun hb => hop_ia_sl el_55 rfl rfl (by (simp at hb; first | omega | (dsimp only; omega) | (simp <;> omega))) (by (simp at hb; first | omega | (dsimp only; omega) | (simp <;> omega))) (nb rfl)) rfl rfl rfl rfl pre0 rfl rfl rfl (k' := 28) rfl ?_
      refine hd_g 45 24 41 false _ (fun hb => hop_fa_fp fd_109_2 rfl (nb rfl)) rfl rfl rfl rfl pre0 rfl rfl rfl (k' := 29) rfl ?_
      refine hd_g 46 24 41 false _ (fun hb => HOp.val (v' := intV (a.getD k default).high) (hop_load_fp ty_3 rfl (nb rfl) (fun h => (by rfl))) (rfl)) rfl rfl rfl rfl pre0 rfl rfl rfl (k' := 30) rfl ?_
      refine hd_g 47 24 41 false _ (fun hb => hop_move rfl) rfl rfl rfl rfl pre0 rfl rfl rfl (k' := 31) rfl ?_
      refine hd_g 48 24 41 false _ (fun hb => hop_move rfl) rfl rfl rfl rfl pre0 rfl rfl rfl (k' := 32) rfl ?_
      refine hd_g 49 24 41 false _ (fun hb => hop_ia_sl el_55 rfl rfl (by (simp at hb; first | omega | (dsimp only; omega) | (simp <;> omega))) (by (simp at hb; first | omega | (dsimp only; omega) | (simp <;> omega))) (nb rfl)) rfl rfl rfl rfl pre0 rfl rfl rfl (k' := 33) rfl ?_
      refine hd_g 50 24 41 false _ (fun hb => hop_fa_fp fd_109_2 rfl (nb rfl)) rfl rfl rfl rfl pre0 rfl rfl rfl (k' := 34) rfl ?_
      refine hd_g 51 24 41 false _ (fun hb => HOp.val (v' := intV (b.getD k default).high) (hop_load_fp ty_3 rfl (nb rfl) (fun h => (by rfl))) (rfl)) rfl rfl rfl rfl pre0 rfl rfl rfl (k' := 35) rfl ?_
      refine hd_g 52 24 41 false _ (fun hb => hop_neq rfl rfl) rfl rfl rfl rfl pre0 rfl rfl rfl (k' := 36) rfl ?_
      refine hd_p 53 (hstep_or _ _ rfl rfl rfl) rfl rfl rfl (k' := 37) rfl ?_
      refine hd_q 54 (hop_move rfl) rfl rfl pre0 rfl rfl (k' := 38) rfl ?_
      refine hd_g 55 37 54 false _ (fun hb => hop_move rfl) rfl rfl rfl rfl pre0 rfl rfl rfl (k' := 39) rfl ?_
      refine hd_g 56 37 54 false _ (fun hb => hop_move rfl) rfl rfl rfl rfl pre0 rfl rfl rfl (k' := 40) rfl ?_
      refine hd_g 57 37 54 false _ (fun hb => hop_ia_sl el_55 rfl rfl (by (simp at hb; first | omega | (dsimp only; omega) | (simp <;> omega))) (by (simp at hb; first | omega | (dsimp only; omega) | (simp <;> omega))) (nb rfl)) rfl rfl rfl rfl pre0 rfl rfl rfl (k' := 41) rfl ?_
      refine hd_g 58 37 54 false _ (fun hb => hop_fa_fp fd_109_3 rfl (nb rfl)) rfl rfl rfl rfl pre0 rfl rfl rfl (k' := 42) rfl ?_
      refine hd_g 59 37 54 false _ (fun hb => HOp.val (v' := strV (a.getD k default).name) (hop_load_fp ty_9 rfl (nb rfl) (fun h => (by rfl))) (rfl)) rfl rfl rfl rfl pre0 rfl rfl rfl (k' := 43) rfl ?_
      refine hd_g 60 37 54 false _ (fun hb => hop_move rfl) rfl rfl rfl rfl pre0 rfl rfl rfl (k' := 44) rfl ?_
      refine hd_g 61 37 54 false _ (fun hb => hop_move rfl) rfl rfl rfl rfl pre0 rfl rfl rfl (k' := 45) rfl ?_
      refine hd_g 62 37 54 false _ (fun hb => hop_ia_sl el_55 rfl rfl (by (simp at hb; first | omega | (dsimp only; omega) | (simp <;> omega))) (by (simp at hb; first | omega | (dsimp only; omega) | (simp <;> omega))) (nb rfl)) rfl rfl rfl rfl pre0 rfl rfl rfl (k' := 46) rfl ?_
      refine hd_g 63 37 54 false _ (fun hb => hop_fa_fp fd_109_3 rfl (nb rfl)) rfl rfl rfl rfl pre0 rfl rfl rfl (k' := 47) rfl ?_
      refine hd_g 64 37 54 false _ (fun hb => HOp.val (v' := strV (b.getD k default).name) (hop_load_fp ty_9 rfl (nb rfl) (fun h => (by rfl))) (rfl)) rfl rfl rfl rfl pre0 rfl rfl rfl (k' := 48) rfl ?_
      refine hd_g 65 37 54 false _ (fun hb => hop_sne_l rfl rfl) rfl rfl rfl rfl pre0 rfl rfl rfl (k' := 49) rfl ?_
      refine hd_p 66 (hstep_or _ _ rfl rfl rfl) rfl rfl rfl (k' := 50) rfl ?_
      refine hd_q 67 (hop_move rfl) rfl rfl pre0 rfl rfl (k' := 51) rfl ?_
      refine hd_g 68 50 67 false _ (fun hb => hop_move rfl) rfl rfl rfl rfl pre0 rfl rfl rfl (k' := 52) rfl ?_
      refine hd_g 69 50 67 false _ (fun hb => hop_move rfl) rfl rfl rfl rfl pre0 rfl rfl rfl (k' := 53) rfl ?_
      refine hd_g 70 50 67 false _ (fun hb => hop_ia_sl el_55 rfl rfl (by (simp at hb; first | omega | (dsimp only; omega) | (simp <;> omega))) (by (simp at hb; first | omega | (dsimp only; omega) | (simp <;> omega))) (nb rfl)) rfl rfl rfl rfl pre0 rfl rfl rfl (k' := 54) rfl ?_
      refine hd_g 71 50 67 false _ (fun hb => hop_fa_fp fd_109_4 rfl (nb rfl)) rfl rfl rfl rfl pre0 rfl rfl rfl (k' := 55) rfl ?_
      refine hd_g 72 50 67 false _ (fun hb => HOp.val (v' := kidsV (a.getD k default).kids) (hop_load_fp ty_98 rfl (nb rfl) (fun h => (by rfl))) (rfl)) rfl rfl rfl rfl pre0 rfl rfl rfl (k' := 56) rfl ?_
      refine hd_g 73 50 67 false _ (fun hb => hop_move rfl) rfl rfl rfl rfl pre0 rfl rfl rfl (k' := 57) rfl ?_
      refine hd_g 74 50 67 false _ (fun hb => hop_move rfl) rfl rfl rfl rfl pre0 rfl rfl rfl (k' := 58) rfl ?_
      refine hd_g 75 50 67 false _ (fun hb => hop_ia_sl el_55 rfl rfl (by (simp at hb; first | omega | (dsimp only; omega) | (simp <;> omega))) (by (simp at hb; first | omega | (dsimp only; omega) | (simp <;> omega))) (nb rfl)) rfl rfl rfl rfl pre0 rfl rfl rfl (k' := 59) rfl ?_
      refine hd_g 76 50 67 false _ (fun hb => hop_fa_fp fd_109_4 rfl (nb rfl)) rfl rfl rfl rfl pre0 rfl rfl rfl (k' := 60) rfl ?_
      refine hd_g 77 50 67 false _ (fun hb => HOp.val (v' := kidsV (b.getD k default).kids) (hop_load_fp ty_98 rfl (nb rfl) (fun h => (by rfl))) (rfl)) rfl rfl rfl rfl pre0 rfl rfl rfl (k' := 61) rfl ?_
      refine hd_g 78 50 67 false _ (fun hb => hop_call0 (xs := [_, _]) (sameInts_h _ _ (by omega) (by omega)) ⟨rfl, ⟨rfl, trivial⟩⟩ ⟨(Fz.eq rfl), ⟨(Fz.eq rfl), trivial⟩⟩) rfl rfl rfl rfl pre0 rfl rfl rfl (k' := 62) rfl ?_
      refine hd_g 79 50 67 false _ (fun hb => hop_not rfl) rfl rfl rfl rfl pre0 rfl rfl rfl (k' := 63) rfl ?_
      refine hd_p 80 (hstep_or _ _ rfl rfl rfl) rfl rfl rfl (k' := 64) rfl ?_
      refine hd_nil (by kernel_rfl) (by kernel_rfl) (c' := c + 64) rfl ?_
      refine h11 _ ?_
      refine hw_cond _ rfl (fun hc2 => ?_) (fun hc2 => ?_)
      · have hr2 := hc2; (try simp only [hcs, Int.reduceToNat] at hc2)
        refine hw_seq (fun Nh12 h12 => ?_)
        refine hw_region ?_
        refine hq_ 4 (hop_assign rfl) rfl rfl pre0 rfl rfl ?_
        refine hseq_nil ?_
        refine h12 _ ?_
        refine hw_ret ?_
        refine hq_block_ret ?_
        refine hq_then_ret ?_
        refine hq_then_ret ?_
        refine hq_block_ret ?_
        refine hq_then_ret ?_
        refine hq_ret1 rfl (rval_tmp rfl) [] rfl pre0 ?_
        rw [decide_eq_false (fun h => by rw [h] at hr2; simp at hr2)]; exact .imm _
      · have hr2 := hc2; (try simp only [hcs, Int.reduceToNat] at hc2)
        have hn : (a.getD k default).kind = (b.getD k default).kind ∧ (a.getD k default).low = (b.getD k default).low ∧ (a.getD k default).high = (b.getD k default).high ∧ (a.getD k default).name = (b.getD k default).name ∧ (a.getD k default).kids = (b.getD k default).kids := (by have h := hr2; simp at h; exact ⟨h.1.1.1.1, h.1.1.1.2, h.1.1.2, h.1.2, h.2⟩)
        refine hw_skip ?_
        refine hq_block ?_
        refine h10 _ ?_
        refine hw_region ?_
        refine hq_ 15 (hop_move rfl) rfl rfl pre0 rfl rfl ?_
        refine hq_ 16 (hop_addi rfl rfl rfl (by omega) (by omega)) rfl rfl pre0 rfl rfl ?_
        refine hq_ 5 (hop_assign rfl) rfl rfl pre0 rfl rfl ?_
        refine hseq_nil ?_
        exact hL7 (k + 1) _ _ (by (try dsimp only); exact ⟨by omega, fun j hj => by by_cases e : j = k; (· subst e; exact pt_ext hn.1 hn.2.1 hn.2.2.1 hn.2.2.2.1 hn.2.2.2.2); exact hE j (by omega)⟩) (by (try dsimp only); omega) (hsub_of rfl (Nat.le_refl _) (TmSub.cons rfl (Sb.refl _) (TmSub.cons rfl (Sb.refl _) (TmSub.cons rfl (Sb.refl _) TmSub.nil))) HpSub.nil)
    · have hr1 := hc1; (try simp only [hcs, Int.reduceToNat] at hc1)
      refine hw_exit ?_
      refine hq_then_exit ?_
      refine hq_then_exit ?_
      refine hq_block_here ?_
      refine h5 _ ?_
      refine hw_seq (fun Nh13 h13 => ?_)
      refine hw_region ?_
      refine hq_ 4 (hop_assign rfl) rfl rfl pre0 rfl rfl ?_
      refine hseq_nil ?_
      refine h13 _ ?_
      refine hw_ret ?_
      refine hq_ret1 rfl (rval_tmp rfl) [] rfl pre0 ?_
      rw [decide_eq_true (ext_getD default (by omega) (fun j hj => hE j (by omega)))]; exact .imm _
theorem take_succ_pt (l : List Pt) {i : Nat} (h : i < l.length) : l.take (i + 1) = l.take i ++ [l.getD i default] := by
  rw [List.take_add_one, List.getD_eq_getElem?_getD, List.getElem?_eq_getElem h]; rfl
theorem sb_take {l : List Pt} {i : Nat} {g ty : Nat} {f : Nat → Nat → HV} (hil : i < l.length) (h : ∀ j, j < 5 → Sb (f 0 j) (ptF (l.getD i default) j)) : OSub ⟨g, i + 1, 5, ty, 0, cat i (ptsF (l.take i)) f⟩ ⟨g, i + 1, 5, ty, 0, ptsF (l.take (i + 1))⟩ := .of fun a j ha hj => by
  rw [take_succ_pt l hil]
  exact sb_cat (l := l.take i) (k := [l.getD i default]) (enc := ptF) (d := default) (by rw [List.length_take]; omega) (fun i j _ _ => .refl _) (sb_one (x := l.getD i default) (enc := ptF) (d := default) h) a j (by rw [List.length_append, List.length_take]; show a < min i l.length + 1; omega) hj
theorem ours_h (e : List Pt) (he : e.length ≤ 100000) : HPure Tryd.prog 31 [ptsV e] (ptsV e) := by
  refine hpure_of Tryd.func31 rfl (by kernel_rfl) _ _ _ rfl 19 rfl rfl (fun w F => ?_)
  refine hw_seq (fun Nh1 h1 => ?_)
  refine hw_region ?_
  refine hq_ 2 (hop_assign rfl) rfl rfl pre0 rfl rfl ?_
  refine hseq_nil ?_
  refine h1 _ ?_
  refine hw_seq (fun Nh2 h2 => ?_)
  refine hw_region ?_
  refine hq_ 3 (hop_assign rfl) rfl rfl pre0 rfl rfl ?_
  refine hseq_nil ?_
  refine h2 _ ?_
  refine hw_seq (fun Nh3 h3 => ?_)
  refine hw_seq (fun Nh4 h4 => ?_)
  refine hw_region ?_
  refine hq_ 4 (hop_assign rfl) rfl rfl pre0 rfl rfl ?_
  refine hseq_nil ?_
  refine h4 _ ?_
  refine hw_block ?_
  refine hw_own 3 3 5 109 ((ptsF [])) rfl (by decide) rfl (c' := 1) rfl ?_
  refine hw_loopc (α := Nat × Nat) (fun x c => ⟨19, [(0, .v (ptsV e)), (3, .v (.os 3 x.2 0 x.1)), (4, .v (intV x.1))], [(3, ⟨x.2, x.1, 5, 109, 0, ptsF (e.take x.1)⟩)], c⟩) (fun x => x.1 ≤ e.length) (fun x => e.length - x.1) ((0, 0)) (by exact Nat.zero_le _) (hsub_of rfl (Nat.le_refl _) (TmSub.cons rfl (Sb.refl _) (TmSub.cons rfl (Sb.refl _) (TmSub.cons rfl (Sb.refl _) TmSub.nil))) (HpSub.cons rfl (OSub.refl _) HpSub.nil)) (fun x c hx NhL5 hL5 => ?_)
  revert hx hL5; obtain ⟨i, g⟩ := x; intro hx hL5; dsimp only at hx hL5 ⊢
  refine hw_seq (fun Nh6 h6 => ?_)
  refine hw_seq (fun Nh7 h7 => ?_)
  refine hw_region ?_
  refine hq_ 5 (hop_move rfl) rfl rfl pre0 rfl rfl ?_
  refine hq_ 6 (hop_move rfl) rfl rfl pre0 rfl rfl ?_
  refine hq_ 7 (hop_len_sl (T := 52) rfl (elOf_spec el_52).1 rfl) rfl rfl pre0 rfl rfl ?_
  refine hq_ 8 (hop_lss rfl rfl) rfl rfl pre0 rfl rfl ?_
  refine hseq_nil ?_
  refine h7 _ ?_
  refine hw_cond _ rfl (fun hc0 => ?_) (fun hc0 => ?_)
  · have hr0 := hc0; (try simp only [hcs, Int.reduceToNat] at hc0)
    refine hw_skip ?_
    refine h6 _ ?_
    refine hw_seq (fun Nh8 h8 => ?_)
    refine hw_block ?_
    refine hw_region ?_
    refine hq_ 11 (hop_move rfl) rfl rfl pre0 rfl rfl ?_
    refine hq_ 12 (hop_move rfl) rfl rfl pre0 rfl rfl ?_
    refine hq_ 13 (hop_move rfl) rfl rfl pre0 rfl rfl ?_
    refine hq_ 14 (hop_ia_sl el_52 rfl rfl (by omega) (by omega) (nb rfl)) rfl rfl pre0 rfl rfl ?_
    refine hq_ 15 (hop_load_fp ty_100 rfl (nb rfl) (fun h => (by cases h))) rfl rfl pre0 rfl rfl ?_
    refine hm_1 16 (hop_buildSlice (id := 16) (hs := [_]) ei_55 (nb rfl) rfl (nb rfl) ⟨rfl, rfl, rfl, rfl, trivial⟩) rfl rfl pre0 rfl rfl (c' := c + 1) rfl ?_
    refine hm_1 17 (hol_append ei_55 (nb rfl) rfl (by omega) (nb rfl) (srl_os0 rfl (nb rfl)) (by omega) rfl) rfl rfl (preC rfl (pre1 rfl)) rfl rfl (c' := c + 2) rfl ?_
    refine hq_ 3 (hop_assign rfl) rfl rfl pre0 rfl rfl ?_
    refine hseq_nil ?_
    refine hq_block ?_
    refine h8 _ ?_
    refine hw_region ?_
    refine hq_ 9 (hop_move rfl) rfl rfl pre0 rfl rfl ?_
    refine hq_ 10 (hop_addi rfl rfl rfl (by omega) (by omega)) rfl rfl pre0 rfl rfl ?_
    refine hq_ 4 (hop_assign rfl) rfl rfl pre0 rfl rfl ?_
    refine hseq_nil ?_
    exact hL5 ((i + 1, c + 1)) _ _ (by (try dsimp only); omega) (by (try dsimp only); omega) (hsub_of rfl (Nat.le_refl _) (TmSub.cons rfl (Sb.refl _) (TmSub.cons rfl (Sb.refl _) (TmSub.cons rfl (Sb.refl _) TmSub.nil))) (HpSub.cons rfl (sb_take (by omega) (sb_pt (.refl _) (.refl _) (.refl _) (.refl _) (.refl _))) HpSub.nil))
  · have hr0 := hc0; (try simp only [hcs, Int.reduceToNat] at hc0)
    refine hw_exit ?_
    refine hq_then_exit ?_
    refine hq_then_exit ?_
    refine hq_block_here ?_
    refine h3 _ ?_
    refine hw_seq (fun Nh9 h9 => ?_)
    obtain rfl : i = e.length := (by omega)
    refine hw_region ?_
    refine hq_ 18 (hop_move rfl) rfl rfl pre0 rfl rfl ?_
    refine hq_ 2 (hop_assign rfl) rfl rfl pre0 rfl rfl ?_
    refine hseq_nil ?_
    refine h9 _ ?_
    refine hw_ret ?_
    refine hq_ret1 rfl (rval_tmp rfl) [(3, _)] rfl (preC rfl pre0) ?_
    exact fz_row (l := e) (enc := ptF) (d := default) (List.mem_cons_self ..) rfl rfl (Nat.le_refl _) (fun i j hi hj => by show Fz _ (ptF ((e.take e.length).getD i default) j) _; rw [List.take_length]; exact pt_fz _ j)
end Go.Proofs.YtijpdbjcmnpobaaDoor

namespace Go.Proofs.YtijpdbjcmnpobaaDoor
set_option linter.unusedSimpArgs false
set_option linter.unusedVariables false
set_option maxRecDepth 100000
set_option maxHeartbeats 1000000
open Go.RowKit

theorem getD_cut (a : List Int) {lo n k : Nat} (hk : k < n) (h : lo + n ≤ a.length) : ((a.drop lo).take n).getD k 0 = a.getD (lo + k) 0 := by
  rw [List.getD_eq_getElem?_getD, List.getD_eq_getElem?_getD, List.getElem?_take, if_pos hk, List.getElem?_drop]
theorem equal_h (g lo n : Nat) (a b : List Int) (ha : a.length ≤ 1000000) (hb : b.length ≤ 1000000) (hn : lo + n ≤ a.length) : HFunD Tryd.prog 68 [.os 8001 g lo n, kidsV b] [(8001, ⟨g, a.length, 1, 3, 0, kidsF a⟩)] (boolV (decide ((a.drop lo).take n = b))) [(8001, ⟨g, a.length, 1, 3, 0, kidsF a⟩)] := by
  have hcl : ((a.drop lo).take n).length = n := by rw [List.length_take, List.length_drop]; omega
  intro c
  refine hfun_of Tryd.func68 rfl (by kernel_rfl) _ _ _ _ rfl 26 rfl rfl (fun X ok hX => ?_)
  refine hw_seq (fun Nh1 h1 => ?_)
  refine hw_region ?_
  refine hq_ 4 (hop_assign rfl) rfl rfl pre0 rfl rfl ?_
  refine hseq_nil ?_
  refine h1 _ ?_
  refine hw_seq (fun Nh2 h2 => ?_)
  refine hw_seq (fun Nh3 h3 => ?_)
  refine hw_region ?_
  refine hq_ 6 (hop_move rfl) rfl rfl pre0 rfl rfl ?_
  refine hq_ 7 (hop_len_os (T := 98) rfl (elOf_spec el_98).1 rfl) rfl rfl pre0 rfl rfl ?_
  refine hq_ 8 (hop_move rfl) rfl rfl pre0 rfl rfl ?_
  refine hq_ 9 (hop_len_sl (T := 98) rfl (elOf_spec el_98).1 rfl) rfl rfl pre0 rfl rfl ?_
  refine hq_ 10 (hop_neq rfl rfl) rfl rfl pre0 rfl rfl ?_
  refine hseq_nil ?_
  refine h3 _ ?_
  refine hw_cond _ rfl (fun hc0 => ?_) (fun hc0 => ?_)
  · have hr0 := hc0; (try simp only [hcs, Int.reduceToNat] at hc0)
    refine hw_seq (fun Nh4 h4 => ?_)
    refine hw_region ?_
    refine hq_ 4 (hop_assign rfl) rfl rfl pre0 rfl rfl ?_
    refine hseq_nil ?_
    refine h4 _ ?_
    refine hw_ret ?_
    refine hq_then_ret ?_
    refine hf_retR1 ok hX RetS.one rfl (rval_tmp rfl) [] rfl pre0 (()) (trivial) (by rfl) (by rfl) (by rw [decide_eq_false (fun h => hc0 (by rw [← h, hcl]))]; exact (by first | exact .fz _ _ (.imm _) | exact .os _ _ _ _ _ rfl rfl | exact .pt _ _ _ _ _ rfl rfl | exact .nps _ _ _ rfl rfl | (dsimp only; exact .fz _ _ Frz.fz) | exact .fz _ _ (.tup 0 _ _ (fun i hi => absurd hi (Nat.not_lt_zero _))))) ?_
    exact ⟨⟨_, rfl, .of (fun i j _ _ => .fz _ _ (.imm _))⟩, trivial⟩
  · have hr0 := hc0; (try simp only [hcs, Int.reduceToNat] at hc0)
    refine hw_skip ?_
    refine h2 _ ?_
    refine hw_seq (fun Nh5 h5 => ?_)
    refine hw_seq (fun Nh6 h6 => ?_)
    refine hw_region ?_
    refine hq_ 11 (hop_move rfl) rfl rfl pre0 rfl rfl ?_
    refine hq_ 12 (hop_len_os (T := 98) rfl (elOf_spec el_98).1 rfl) rfl rfl pre0 rfl rfl ?_
    refine hq_ 13 (hop_move rfl) rfl rfl pre0 rfl rfl ?_
    refine hseq_nil ?_
    refine h6 _ ?_
    refine hw_block ?_
    refine hw_loopc (α := Nat) (fun x c => ⟨26, [(0, .v (.os 8001 g lo n)), (1, .v (kidsV b)), (12, .v (intV n)), (13, .v (intV x))], [(8001, ⟨g, a.length, 1, 3, 0, kidsF a⟩)], c⟩) (fun x => x ≤ n ∧ ∀ j, j < x → a.getD (lo + j) 0 = b.getD j 0) (fun x => n - x) (0) (by exact ⟨Nat.zero_le _, fun j hj => absurd hj (Nat.not_lt_zero _)⟩) (hsub_of rfl (Nat.le_refl _) (TmSub.cons rfl (Sb.refl _) (TmSub.cons rfl (Sb.refl _) (TmSub.cons rfl (Sb.refl _) (TmSub.cons rfl (Sb.refl _) TmSub.nil)))) (HpSub.cons rfl (OSub.refl _) HpSub.nil)) (fun k c hx NhL7 hL7 => ?_)
    (try dsimp only at hx hL7 ⊢)
    obtain ⟨hk, hE⟩ := hx
    refine hw_seq (fun Nh8 h8 => ?_)
    refine hw_region ?_
    refine hq_ 14 (hop_lss rfl rfl) rfl rfl pre0 rfl rfl ?_
    refine hseq_nil ?_
    refine h8 _ ?_
    refine hw_seq (fun Nh9 h9 => ?_)
    refine hw_cond _ rfl (fun hc1 => ?_) (fun hc1 => ?_)
    · have hr1 := hc1; (try simp only [hcs, Int.reduceToNat] at hc1)
      refine hw_skip ?_
      refine h9 _ ?_
      refine hw_seq (fun Nh10 h10 => ?_)
      refine hw_block ?_
      refine hw_seq (fun Nh11 h11 => ?_)
      refine hw_region ?_
      refine hq_ 15 (hop_move rfl) rfl rfl pre0 rfl rfl ?_
      refine hq_ 5 (hop_assign rfl) rfl rfl pre0 rfl rfl ?_
      refine hseq_nil ?_
      refine h11 _ ?_
      refine hw_seq (fun Nh12 h12 => ?_)
      refine hd_start ?_
      refine hd_q 16 (hop_move rfl) rfl rfl pre0 rfl rfl (k' := 1) rfl ?_
      refine hd_q 17 (hop_move rfl) rfl rfl pre0 rfl rfl (k' := 2) rfl ?_
      refine hd_q 18 (hol_ia_os el_98 rfl rfl (by omega) (by omega)) rfl rfl (pre1 rfl) rfl rfl (k' := 3) rfl ?_
      refine hd_q 19 (HOp.val (v' := intV (a.getD (lo + k) 0)) (hol_load ty_3 rfl (by omega) (nb rfl) (fun h => (by rfl))) (rfl)) rfl rfl (pre1 rfl) rfl rfl (k' := 4) rfl ?_
      refine hd_q 20 (hop_move rfl) rfl rfl pre0 rfl rfl (k' := 5) rfl ?_
      refine hd_q 21 (hop_move rfl) rfl rfl pre0 rfl rfl (k' := 6) rfl ?_
      refine hd_q 22 (hop_ia_sl el_98 rfl rfl (by omega) (by omega) (nb rfl)) rfl rfl pre0 rfl rfl (k' := 7) rfl ?_
      refine hd_q 23 (HOp.val (v' := intV (b.getD k 0)) (hop_load_fp ty_3 rfl (nb rfl) (fun h => (by rfl))) (rfl)) rfl rfl pre0 rfl rfl (k' := 8) rfl ?_
      refine hd_q 24 (hop_neq rfl rfl) rfl rfl pre0 rfl rfl (k' := 9) rfl ?_
      refine hd_nil (by kernel_rfl) (by kernel_rfl) (c' := c + 9) rfl ?_
      refine h12 _ ?_
      refine hw_cond _ rfl (fun hc2 => ?_) (fun hc2 => ?_)
      · have hr2 := hc2; (try simp only [hcs, Int.reduceToNat] at hc2)
        refine hw_seq (fun Nh13 h13 => ?_)
        refine hw_region ?_
        refine hq_ 4 (hop_assign rfl) rfl rfl pre0 rfl rfl ?_
        refine hseq_nil ?_
        refine h13 _ ?_
        refine hw_ret ?_
        refine hq_block_ret ?_
        refine hq_then_ret ?_
        refine hq_then_ret ?_
        refine hq_block_ret ?_
        refine hq_then_ret ?_
        refine hf_retR1 ok hX RetS.one rfl (rval_tmp rfl) [] rfl pre0 (()) (trivial) (by rfl) (by rfl) (by rw [decide_eq_false (fun h => hc2 (by rw [← h, getD_cut a (by omega) hn]))]; exact (by first | exact .fz _ _ (.imm _) | exact .os _ _ _ _ _ rfl rfl | exact .pt _ _ _ _ _ rfl rfl | exact .nps _ _ _ rfl rfl | (dsimp only; exact .fz _ _ Frz.fz) | exact .fz _ _ (.tup 0 _ _ (fun i hi => absurd hi (Nat.not_lt_zero _))))) ?_
        exact ⟨⟨_, rfl, .of (fun i j _ _ => .fz _ _ (.imm _))⟩, trivial⟩
      · have hr2 := hc2; (try simp only [hcs, Int.reduceToNat] at hc2)
        refine hw_skip ?_
        refine hq_block ?_
        refine h10 _ ?_
        refine hw_region ?_
        refine hq_ 25 (hop_addi rfl rfl rfl (by omega) (by omega)) rfl rfl pre0 rfl rfl ?_
        refine hq_ 13 (hop_move rfl) rfl rfl pre0 rfl rfl ?_
        refine hseq_nil ?_
        exact hL7 (k + 1) _ _ (by (try dsimp only); exact ⟨by omega, fun j hj => by by_cases e : j = k; (· subst e; exact hc2); exact hE j (by omega)⟩) (by (try dsimp only); omega) (hsub_of rfl (Nat.le_refl _) (TmSub.cons rfl (Sb.refl _) (TmSub.cons rfl (Sb.refl _) (TmSub.cons rfl (Sb.refl _) (TmSub.cons rfl (Sb.refl _) TmSub.nil)))) (HpSub.cons rfl (OSub.refl _) HpSub.nil))
    · have hr1 := hc1; (try simp only [hcs, Int.reduceToNat] at hc1)
      refine hw_exit ?_
      refine hq_then_exit ?_
      refine hq_then_exit ?_
      refine hq_block_here ?_
      refine h5 _ ?_
      refine hw_seq (fun Nh14 h14 => ?_)
      refine hw_region ?_
      refine hq_ 4 (hop_assign rfl) rfl rfl pre0 rfl rfl ?_
      refine hseq_nil ?_
      refine h14 _ ?_
      refine hw_ret ?_
      refine hf_retR1 ok hX RetS.one rfl (rval_tmp rfl) [] rfl pre0 (()) (trivial) (by rfl) (by rfl) (by rw [decide_eq_true (ext_getD 0 (by omega) (fun j hj => by rw [getD_cut a (by omega) hn]; exact hE j (by omega)))]; exact (by first | exact .fz _ _ (.imm _) | exact .os _ _ _ _ _ rfl rfl | exact .pt _ _ _ _ _ rfl rfl | exact .nps _ _ _ rfl rfl | (dsimp only; exact .fz _ _ Frz.fz) | exact .fz _ _ (.tup 0 _ _ (fun i hi => absurd hi (Nat.not_lt_zero _))))) ?_
      exact ⟨⟨_, rfl, .of (fun i j _ _ => .fz _ _ (.imm _))⟩, trivial⟩
theorem beq_d (a b : Int) : (a == b) = decide (a = b) := rfl
theorem int_0 (n : Nat) : decide ((n : Int) = 0) = decide (n = 0) := decide_eq_decide.2 (by omega)
theorem int_1 (n : Nat) : decide ((n : Int) = 1) = decide (n = 1) := decide_eq_decide.2 (by omega)
theorem int_lt1 (n : Nat) : decide (1 < (n : Int)) = decide (1 < n) := decide_eq_decide.2 (by omega)
theorem name6_h (s : List UInt8) (hs : s.length ≤ 1000000) : HPure Tryd.prog 88 [strV s] (boolV (nameV s)) := by
  have hlen := lexO_len s
  have hlx := lex_h s hs
  have hN : nameV s = (match lexO (lexV s) with | (l, _, e) => decide (e = 0) && decide (l.length = 1) && decide ((l.getD 0 default).kind = 1) && decide ((l.getD 0 default).name = s)) := by
    unfold nameV
    cases hv : lexV s with
    | error e =>
      have h := lexV_err hv
      have h2 : ¬ (e.2 = 0) := h
      show false = (decide (e.2 = 0) && _ && _ && _)
      rw [decide_eq_false h2]; rfl
    | ok l =>
      match l with
      | [] => rfl
      | [x] => rfl
      | x :: y :: l => simp [lexO]
  generalize hr : lexO (lexV s) = r at hlen hlx hN
  rw [hN]
  obtain ⟨l, a, e⟩ := r
  refine hpure_of Tryd.func88 rfl (by kernel_rfl) _ _ _ rfl 34 rfl rfl (fun w F => ?_)
  refine hw_seq (fun Nh1 h1 => ?_)
  refine hw_region ?_
  refine hq_ 2 (hop_assign rfl) rfl rfl pre0 rfl rfl ?_
  refine hseq_nil ?_
  refine h1 _ ?_
  refine hw_seq (fun Nh2 h2 => ?_)
  refine hw_region ?_
  refine hq_ 7 (hop_move rfl) rfl rfl pre0 rfl rfl ?_
  refine hq_ 8 (hop_call0 (xs := [_]) (hlx) ⟨rfl, trivial⟩ ⟨(Fz.eq rfl), trivial⟩) rfl rfl pre0 rfl rfl ?_
  refine hq_ 6 (hop_move rfl) rfl rfl pre0 rfl rfl ?_
  refine hq_ 9 (hop_extract rfl rfl) rfl rfl pre0 rfl rfl ?_
  refine hq_ 10 (hop_extract rfl rfl) rfl rfl pre0 rfl rfl ?_
  refine hq_ 11 (hop_extract rfl rfl) rfl rfl pre0 rfl rfl ?_
  refine hq_ 3 (hop_assign rfl) rfl rfl pre0 rfl rfl ?_
  refine hq_ 4 (hop_assign rfl) rfl rfl pre0 rfl rfl ?_
  refine hq_ 5 (hop_assign rfl) rfl rfl pre0 rfl rfl ?_
  refine hseq_nil ?_
  refine h2 _ ?_
  refine hw_seq (fun Nh3 h3 => ?_)
  refine hw_region ?_
  refine hq_ 12 (hop_move rfl) rfl rfl pre0 rfl rfl ?_
  refine hq_ 13 (hop_eql rfl rfl) rfl rfl pre0 rfl rfl ?_
  refine hq_ 14 (hop_move rfl) rfl rfl pre0 rfl rfl ?_
  refine hq_g 15 2 14 true _ (fun hb => hop_move rfl) rfl rfl rfl rfl pre0 rfl rfl rfl ?_
  refine hq_g 16 2 14 true _ (fun hb => hop_len_sl (T := 33) rfl (elOf_spec el_33).1 rfl) rfl rfl rfl rfl pre0 rfl rfl rfl ?_
  refine hq_g 17 2 14 true _ (fun hb => hop_eql rfl rfl) rfl rfl rfl rfl pre0 rfl rfl rfl ?_
  refine hq_p 18 (hstep_and _ _ rfl rfl rfl) rfl rfl rfl ?_
  refine hq_ 19 (hop_move rfl) rfl rfl pre0 rfl rfl ?_
  refine hq_g 20 7 19 true _ (fun hb => hop_move rfl) rfl rfl rfl rfl pre0 rfl rfl rfl ?_
  refine hq_g 21 7 19 true _ (fun hb => hop_ia_sl el_33 rfl rfl (by (simp at hb; first | omega | (dsimp only; omega) | (simp <;> omega))) (by (simp at hb; first | omega | (dsimp only; omega) | (simp <;> omega))) (nb rfl)) rfl rfl rfl rfl pre0 rfl rfl rfl ?_
  refine hq_g 22 7 19 true _ (fun hb => hop_fa_fp fd_41_0 rfl (nb rfl)) rfl rfl rfl rfl pre0 rfl rfl rfl ?_
  refine hq_g 23 7 19 true _ (fun hb => HOp.val (v' := intV (l.getD 0 default).kind) (hop_load_fp ty_3 rfl (nb rfl) (fun h => (by rfl))) (rfl)) rfl rfl rfl rfl pre0 rfl rfl rfl ?_
  refine hq_g 24 7 19 true _ (fun hb => hop_eql rfl rfl) rfl rfl rfl rfl pre0 rfl rfl rfl ?_
  refine hq_p 25 (hstep_and _ _ rfl rfl rfl) rfl rfl rfl ?_
  refine hq_ 26 (hop_move rfl) rfl rfl pre0 rfl rfl ?_
  refine hq_g 27 14 26 true _ (fun hb => hop_move rfl) rfl rfl rfl rfl pre0 rfl rfl rfl ?_
  refine hq_g 28 14 26 true _ (fun hb => hop_ia_sl el_33 rfl rfl (by (simp at hb; first | omega | (dsimp only; omega) | (simp <;> omega))) (by (simp at hb; first | omega | (dsimp only; omega) | (simp <;> omega))) (nb rfl)) rfl rfl rfl rfl pre0 rfl rfl rfl ?_
  refine hq_g 29 14 26 true _ (fun hb => hop_fa_fp fd_41_4 rfl (nb rfl)) rfl rfl rfl rfl pre0 rfl rfl rfl ?_
  refine hq_g 30 14 26 true _ (fun hb => HOp.val (v' := strV (l.getD 0 default).name) (hop_load_fp ty_9 rfl (nb rfl) (fun h => (by rfl))) (rfl)) rfl rfl rfl rfl pre0 rfl rfl rfl ?_
  refine hq_g 31 14 26 true _ (fun hb => hop_move rfl) rfl rfl rfl rfl pre0 rfl rfl rfl ?_
  refine hq_g 32 14 26 true _ (fun hb => hop_seq_l rfl rfl) rfl rfl rfl rfl pre0 rfl rfl rfl ?_
  refine hq_p 33 (hstep_and _ _ rfl rfl rfl) rfl rfl rfl ?_
  refine hq_ 2 (hop_assign rfl) rfl rfl pre0 rfl rfl ?_
  refine hseq_nilU (by rfl) (by simp only [dropUn, slots]; exact rfl) ?_
  refine h3 _ ?_
  refine hw_ret ?_
  refine hq_ret1 rfl (rval_tmp rfl) [] rfl pre0 ?_
  exact fz_bool (by simp only [beq_d, int_1])
theorem alone_h (x : Pt) (hk : x.kids.length ≤ 1000000) (hn : x.name.length ≤ 1000000) : HPure Tryd.prog 67 [ptH x] (boolV (aloneV x)) := by
  unfold aloneV
  refine hpure_of Tryd.func67 rfl (by kernel_rfl) _ _ _ rfl 89 rfl rfl (fun w F => ?_)
  refine hw_seq (fun Nh1 h1 => ?_)
  refine hw_region ?_
  refine hm_1 1 (hop_box (id := 1) (sz := 5) rfl rfl rfl (nb rfl) (nb rfl)) rfl rfl pre0 rfl rfl (c' := 1) rfl ?_
  refine hq_ 2 (hop_assign rfl) rfl rfl pre0 rfl rfl ?_
  refine hseq_nil ?_
  refine h1 _ ?_
  refine hw_seq (fun Nh2 h2 => ?_)
  refine hw_seq (fun Nh3 h3 => ?_)
  refine hw_region ?_
  refine hq_ 4 (hop_fa fd_100_0 rfl) rfl rfl pre0 rfl rfl ?_
  refine hq_ 5 (hol_load ty_3 rfl (nb rfl) (nb rfl) (fun h => (by rfl))) rfl rfl (pre1 rfl) rfl rfl ?_
  refine hseq_nil ?_
  refine h3 _ ?_
  refine hw_block ?_
  refine hw_seq (fun Nh4 h4 => ?_)
  refine hw_region ?_
  refine hq_ 7 (hop_eql rfl rfl) rfl rfl pre0 rfl rfl ?_
  refine hq_ 6 (hop_assign rfl) rfl rfl pre0 rfl rfl ?_
  refine hseq_nil ?_
  refine h4 _ ?_
  refine hw_cond _ rfl (fun hc0 => ?_) (fun hc0 => ?_)
  · have hr0 := hc0; (try simp only [hcs, Int.reduceToNat] at hc0)
    refine hw_seq (fun Nh5 h5 => ?_)
    refine hw_region ?_
    refine hq_ 8 (hop_fa fd_100_4 rfl) rfl rfl pre0 rfl rfl ?_
    refine hq_ 9 (hol_load ty_98 rfl (nb rfl) (nb rfl) (fun h => (by rfl))) rfl rfl (pre1 rfl) rfl rfl ?_
    refine hq_ 10 (hop_len_sl (T := 98) rfl (elOf_spec el_98).1 rfl) rfl rfl pre0 rfl rfl ?_
    refine hq_ 11 (hop_eql rfl rfl) rfl rfl pre0 rfl rfl ?_
    refine hq_ 12 (hop_move rfl) rfl rfl pre0 rfl rfl ?_
    refine hq_g 13 4 12 true _ (fun hb => hop_fa fd_100_1 rfl) rfl rfl rfl rfl pre0 rfl rfl rfl ?_
    refine hq_g 14 4 12 true _ (fun hb => hol_load ty_3 rfl (nb rfl) (nb rfl) (fun h => (by rfl))) rfl rfl rfl rfl (pre1 rfl) rfl rfl rfl ?_
    refine hq_g 15 4 12 true _ (fun hb => hop_eql rfl rfl) rfl rfl rfl rfl pre0 rfl rfl rfl ?_
    refine hq_p 16 (hstep_and _ _ rfl rfl rfl) rfl rfl rfl ?_
    refine hq_ 17 (hop_move rfl) rfl rfl pre0 rfl rfl ?_
    refine hq_g 18 9 17 true _ (fun hb => hop_fa fd_100_2 rfl) rfl rfl rfl rfl pre0 rfl rfl rfl ?_
    refine hq_g 19 9 17 true _ (fun hb => hol_load ty_3 rfl (nb rfl) (nb rfl) (fun h => (by rfl))) rfl rfl rfl rfl (pre1 rfl) rfl rfl rfl ?_
    refine hq_g 20 9 17 true _ (fun hb => hop_eql rfl rfl) rfl rfl rfl rfl pre0 rfl rfl rfl ?_
    refine hq_p 21 (hstep_and _ _ rfl rfl rfl) rfl rfl rfl ?_
    refine hq_ 22 (hop_move rfl) rfl rfl pre0 rfl rfl ?_
    refine hq_g 23 14 22 true _ (fun hb => hop_fa fd_100_3 rfl) rfl rfl rfl rfl pre0 rfl rfl rfl ?_
    refine hq_g 24 14 22 true _ (fun hb => hol_load ty_9 rfl (nb rfl) (nb rfl) (fun h => (by rfl))) rfl rfl rfl rfl (pre1 rfl) rfl rfl rfl ?_
    refine hq_g 25 14 22 true _ (fun hb => hop_call0 (xs := [_]) (name6_h x.name hn) ⟨rfl, trivial⟩ ⟨(Fz.eq rfl), trivial⟩) rfl rfl rfl rfl pre0 rfl rfl rfl ?_
    refine hq_p 26 (hstep_and _ _ rfl rfl rfl) rfl rfl rfl ?_
    refine hq_ 2 (hop_assign rfl) rfl rfl pre0 rfl rfl ?_
    refine hseq_nilU (by rfl) (by simp only [dropUn, slots]; exact rfl) ?_
    refine h5 _ ?_
    refine hw_ret ?_
    refine hq_block_ret ?_
    refine hq_then_ret ?_
    refine hq_ret1 rfl (rval_tmp rfl) [] rfl pre0 ?_
    rw [if_pos hc0]; exact fz_bool (by simp only [beq_d, int_0])
  · have hr0 := hc0; (try simp only [hcs, Int.reduceToNat] at hc0)
    refine hw_seq (fun Nh6 h6 => ?_)
    refine hw_seq (fun Nh7 h7 => ?_)
    refine hw_region ?_
    refine hq_ 28 (hop_eql rfl rfl) rfl rfl pre0 rfl rfl ?_
    refine hq_ 27 (hop_assign rfl) rfl rfl pre0 rfl rfl ?_
    refine hseq_nil ?_
    refine h7 _ ?_
    refine hw_cond _ rfl (fun hc1 => ?_) (fun hc1 => ?_)
    · have hr1 := hc1; (try simp only [hcs, Int.reduceToNat] at hc1)
      refine hw_skip ?_
      refine h6 _ ?_
      refine hw_cond _ rfl (fun hc2 => ?_) (fun hc2 => ?_)
      · have hr2 := hc2; (try simp only [hcs, Int.reduceToNat] at hc2)
        refine hw_seq (fun Nh8 h8 => ?_)
        refine hw_region ?_
        refine hq_ 30 (hop_fa fd_100_4 rfl) rfl rfl pre0 rfl rfl ?_
        refine hq_ 31 (hol_load ty_98 rfl (nb rfl) (nb rfl) (fun h => (by rfl))) rfl rfl (pre1 rfl) rfl rfl ?_
        refine hq_ 32 (hop_len_sl (T := 98) rfl (elOf_spec el_98).1 rfl) rfl rfl pre0 rfl rfl ?_
        refine hq_ 33 (hop_gtr rfl rfl) rfl rfl pre0 rfl rfl ?_
        refine hq_ 34 (hop_move rfl) rfl rfl pre0 rfl rfl ?_
        refine hq_g 35 4 34 true _ (fun hb => hop_fa fd_100_1 rfl) rfl rfl rfl rfl pre0 rfl rfl rfl ?_
        refine hq_g 36 4 34 true _ (fun hb => hol_load ty_3 rfl (nb rfl) (nb rfl) (fun h => (by rfl))) rfl rfl rfl rfl (pre1 rfl) rfl rfl rfl ?_
        refine hq_g 37 4 34 true _ (fun hb => hop_eql rfl rfl) rfl rfl rfl rfl pre0 rfl rfl rfl ?_
        refine hq_p 38 (hstep_and _ _ rfl rfl rfl) rfl rfl rfl ?_
        refine hq_ 39 (hop_move rfl) rfl rfl pre0 rfl rfl ?_
        refine hq_g 40 9 39 true _ (fun hb => hop_fa fd_100_2 rfl) rfl rfl rfl rfl pre0 rfl rfl rfl ?_
        refine hq_g 41 9 39 true _ (fun hb => hol_load ty_3 rfl (nb rfl) (nb rfl) (fun h => (by rfl))) rfl rfl rfl rfl (pre1 rfl) rfl rfl rfl ?_
        refine hq_g 42 9 39 true _ (fun hb => hop_eql rfl rfl) rfl rfl rfl rfl pre0 rfl rfl rfl ?_
        refine hq_p 43 (hstep_and _ _ rfl rfl rfl) rfl rfl rfl ?_
        refine hq_ 44 (hop_move rfl) rfl rfl pre0 rfl rfl ?_
        refine hq_g 45 14 44 true _ (fun hb => hop_fa fd_100_3 rfl) rfl rfl rfl rfl pre0 rfl rfl rfl ?_
        refine hq_g 46 14 44 true _ (fun hb => hol_load ty_9 rfl (nb rfl) (nb rfl) (fun h => (by rfl))) rfl rfl rfl rfl (pre1 rfl) rfl rfl rfl ?_
        refine hq_g 47 14 44 true _ (fun hb => hop_seq_l rfl rfl) rfl rfl rfl rfl pre0 rfl rfl rfl ?_
        refine hq_p 48 (hstep_and _ _ rfl rfl rfl) rfl rfl rfl ?_
        refine hq_ 2 (hop_assign rfl) rfl rfl pre0 rfl rfl ?_
        refine hseq_nilU (by rfl) (by simp only [dropUn, slots]; exact rfl) ?_
        refine h8 _ ?_
        refine hw_ret ?_
        refine hq_block_ret ?_
        refine hq_then_ret ?_
        refine hq_ret1 rfl (rval_tmp rfl) [] rfl pre0 ?_
        rw [if_neg hc0, if_pos (.inl hc1)]; exact fz_bool (by simp only [beq_d, int_lt1])
      · have hr2 := hc2; (try simp only [hcs, Int.reduceToNat] at hc2)
        exfalso; exact absurd hr2 (by rw [hc1]; decide)
    · have hr1 := hc1; (try simp only [hcs, Int.reduceToNat] at hc1)
      refine hw_region ?_
      refine hq_ 29 (hop_eql rfl rfl) rfl rfl pre0 rfl rfl ?_
      refine hq_ 27 (hop_assign rfl) rfl rfl pre0 rfl rfl ?_
      refine hseq_nil ?_
      refine h6 _ ?_
      refine hw_cond _ rfl (fun hc2 => ?_) (fun hc2 => ?_)
      · have hr2 := hc2; (try simp only [hcs, Int.reduceToNat] at hc2)
        refine hw_seq (fun Nh9 h9 => ?_)
        refine hw_region ?_
        refine hq_ 30 (hop_fa fd_100_4 rfl) rfl rfl pre0 rfl rfl ?_
        refine hq_ 31 (hol_load ty_98 rfl (nb rfl) (nb rfl) (fun h => (by rfl))) rfl rfl (pre1 rfl) rfl rfl ?_
        refine hq_ 32 (hop_len_sl (T := 98) rfl (elOf_spec el_98).1 rfl) rfl rfl pre0 rfl rfl ?_
        refine hq_ 33 (hop_gtr rfl rfl) rfl rfl pre0 rfl rfl ?_
        refine hq_ 34 (hop_move rfl) rfl rfl pre0 rfl rfl ?_
        refine hq_g 35 4 34 true _ (fun hb => hop_fa fd_100_1 rfl) rfl rfl rfl rfl pre0 rfl rfl rfl ?_
        refine hq_g 36 4 34 true _ (fun hb => hol_load ty_3 rfl (nb rfl) (nb rfl) (fun h => (by rfl))) rfl rfl rfl rfl (pre1 rfl) rfl rfl rfl ?_
        refine hq_g 37 4 34 true _ (fun hb => hop_eql rfl rfl) rfl rfl rfl rfl pre0 rfl rfl rfl ?_
        refine hq_p 38 (hstep_and _ _ rfl rfl rfl) rfl rfl rfl ?_
        refine hq_ 39 (hop_move rfl) rfl rfl pre0 rfl rfl ?_
        refine hq_g 40 9 39 true _ (fun hb => hop_fa fd_100_2 rfl) rfl rfl rfl rfl pre0 rfl rfl rfl ?_
        refine hq_g 41 9 39 true _ (fun hb => hol_load ty_3 rfl (nb rfl) (nb rfl) (fun h => (by rfl))) rfl rfl rfl rfl (pre1 rfl) rfl rfl rfl ?_
        refine hq_g 42 9 39 true _ (fun hb => hop_eql rfl rfl) rfl rfl rfl rfl pre0 rfl rfl rfl ?_
        refine hq_p 43 (hstep_and _ _ rfl rfl rfl) rfl rfl rfl ?_
        refine hq_ 44 (hop_move rfl) rfl rfl pre0 rfl rfl ?_
        refine hq_g 45 14 44 true _ (fun hb => hop_fa fd_100_3 rfl) rfl rfl rfl rfl pre0 rfl rfl rfl ?_
        refine hq_g 46 14 44 true _ (fun hb => hol_load ty_9 rfl (nb rfl) (nb rfl) (fun h => (by rfl))) rfl rfl rfl rfl (pre1 rfl) rfl rfl rfl ?_
        refine hq_g 47 14 44 true _ (fun hb => hop_seq_l rfl rfl) rfl rfl rfl rfl pre0 rfl rfl rfl ?_
        refine hq_p 48 (hstep_and _ _ rfl rfl rfl) rfl rfl rfl ?_
        refine hq_ 2 (hop_assign rfl) rfl rfl pre0 rfl rfl ?_
        refine hseq_nilU (by rfl) (by simp only [dropUn, slots]; exact rfl) ?_
        refine h9 _ ?_
        refine hw_ret ?_
        refine hq_block_ret ?_
        refine hq_then_ret ?_
        refine hq_ret1 rfl (rval_tmp rfl) [] rfl pre0 ?_
        rw [if_neg hc0, if_pos (.inr hc2)]; exact fz_bool (by simp only [beq_d, int_lt1])
      · have hr2 := hc2; (try simp only [hcs, Int.reduceToNat] at hc2)
        refine hw_seq (fun Nh10 h10 => ?_)
        refine hw_region ?_
        refine hq_ 50 (hop_eql rfl rfl) rfl rfl pre0 rfl rfl ?_
        refine hq_ 49 (hop_assign rfl) rfl rfl pre0 rfl rfl ?_
        refine hseq_nil ?_
        refine h10 _ ?_
        refine hw_cond _ rfl (fun hc3 => ?_) (fun hc3 => ?_)
        · have hr3 := hc3; (try simp only [hcs, Int.reduceToNat] at hc3)
          refine hw_seq (fun Nh11 h11 => ?_)
          refine hw_region ?_
          refine hq_ 51 (hop_fa fd_100_2 rfl) rfl rfl pre0 rfl rfl ?_
          refine hq_ 52 (hol_load ty_3 rfl (nb rfl) (nb rfl) (fun h => (by rfl))) rfl rfl (pre1 rfl) rfl rfl ?_
          refine hq_ 53 (hop_eql rfl rfl) rfl rfl pre0 rfl rfl ?_
          refine hq_ 54 (hop_move rfl) rfl rfl pre0 rfl rfl ?_
          refine hq_g 55 3 54 false _ (fun hb => hop_fa fd_100_2 rfl) rfl rfl rfl rfl pre0 rfl rfl rfl ?_
          refine hq_g 56 3 54 false _ (fun hb => hol_load ty_3 rfl (nb rfl) (nb rfl) (fun h => (by rfl))) rfl rfl rfl rfl (pre1 rfl) rfl rfl rfl ?_
          refine hq_g 57 3 54 false _ (fun hb => hop_fa fd_100_1 rfl) rfl rfl rfl rfl pre0 rfl rfl rfl ?_
          refine hq_g 58 3 54 false _ (fun hb => hol_load ty_3 rfl (nb rfl) (nb rfl) (fun h => (by rfl))) rfl rfl rfl rfl (pre1 rfl) rfl rfl rfl ?_
          refine hq_g 59 3 54 false _ (fun hb => hop_max rfl rfl) rfl rfl rfl rfl pre0 rfl rfl rfl ?_
          refine hq_g 60 3 54 false _ (fun hb => hop_geq rfl rfl) rfl rfl rfl rfl pre0 rfl rfl rfl ?_
          refine hq_g 61 3 54 false _ (fun hb => hop_move rfl) rfl rfl rfl rfl pre0 rfl rfl rfl ?_
          refine hq_g3 62 10 61 54 false true _ _ (fun hb hb2 => hop_fa fd_100_2 rfl) rfl rfl rfl rfl rfl pre0 rfl rfl rfl ?_
          refine hq_g3 63 10 61 54 false true _ _ (fun hb hb2 => hol_load ty_3 rfl (nb rfl) (nb rfl) (fun h => (by rfl))) rfl rfl rfl rfl rfl (pre1 rfl) rfl rfl rfl ?_
          refine hq_g3 64 10 61 54 false true _ _ (fun hb hb2 => hop_leq rfl rfl) rfl rfl rfl rfl rfl pre0 rfl rfl rfl ?_
          refine hq_pg 65 (hstep_andg (gi := 3) (j := 54) _ _ rfl rfl rfl rfl) rfl rfl rfl rfl ?_
          refine hq_p 66 (hstep_or _ _ rfl rfl rfl) rfl rfl rfl ?_
          refine hq_ 3 (hop_assign rfl) rfl rfl pre0 rfl rfl ?_
          refine hseq_nilU (by rfl) (by simp only [dropUn, slots]; exact rfl) ?_
          refine h11 _ ?_
          refine hw_seq (fun Nh12 h12 => ?_)
          refine hw_region ?_
          refine hq_ 67 (hop_fa fd_100_4 rfl) rfl rfl pre0 rfl rfl ?_
          refine hq_ 68 (hol_load ty_98 rfl (nb rfl) (nb rfl) (fun h => (by rfl))) rfl rfl (pre1 rfl) rfl rfl ?_
          refine hq_ 69 (hop_len_sl (T := 98) rfl (elOf_spec el_98).1 rfl) rfl rfl pre0 rfl rfl ?_
          refine hq_ 70 (hop_eql rfl rfl) rfl rfl pre0 rfl rfl ?_
          refine hq_ 71 (hop_move rfl) rfl rfl pre0 rfl rfl ?_
          refine hq_g 72 4 71 true _ (fun hb => hop_fa fd_100_1 rfl) rfl rfl rfl rfl pre0 rfl rfl rfl ?_
          refine hq_g 73 4 71 true _ (fun hb => hol_load ty_3 rfl (nb rfl) (nb rfl) (fun h => (by rfl))) rfl rfl rfl rfl (pre1 rfl) rfl rfl rfl ?_
          refine hq_g 74 4 71 true _ (fun hb => hop_geq rfl rfl) rfl rfl rfl rfl pre0 rfl rfl rfl ?_
          refine hq_p 75 (hstep_and _ _ rfl rfl rfl) rfl rfl rfl ?_
          refine hq_ 76 (hop_move rfl) rfl rfl pre0 rfl rfl ?_
          refine hq_g 77 9 76 true _ (fun hb => hop_fa fd_100_1 rfl) rfl rfl rfl rfl pre0 rfl rfl rfl ?_
          refine hq_g 78 9 76 true _ (fun hb => hol_load ty_3 rfl (nb rfl) (nb rfl) (fun h => (by rfl))) rfl rfl rfl rfl (pre1 rfl) rfl rfl rfl ?_
          refine hq_g 79 9 76 true _ (fun hb => hop_leq rfl rfl) rfl rfl rfl rfl pre0 rfl rfl rfl ?_
          refine hq_p 80 (hstep_and _ _ rfl rfl rfl) rfl rfl rfl ?_
          refine hq_ 81 (hop_move rfl) rfl rfl pre0 rfl rfl ?_
          refine hq_g 82 14 81 true _ (fun hb => hop_move rfl) rfl rfl rfl rfl pre0 rfl rfl rfl ?_
          refine hq_p 83 (hstep_and _ _ rfl rfl rfl) rfl rfl rfl ?_
          refine hq_ 84 (hop_move rfl) rfl rfl pre0 rfl rfl ?_
          refine hq_g 85 17 84 true _ (fun hb => hop_fa fd_100_3 rfl) rfl rfl rfl rfl pre0 rfl rfl rfl ?_
          refine hq_g 86 17 84 true _ (fun hb => hol_load ty_9 rfl (nb rfl) (nb rfl) (fun h => (by rfl))) rfl rfl rfl rfl (pre1 rfl) rfl rfl rfl ?_
          refine hq_g 87 17 84 true _ (fun hb => hop_seq_l rfl rfl) rfl rfl rfl rfl pre0 rfl rfl rfl ?_
          refine hq_p 88 (hstep_and _ _ rfl rfl rfl) rfl rfl rfl ?_
          refine hq_ 2 (hop_assign rfl) rfl rfl pre0 rfl rfl ?_
          refine hseq_nilU (by rfl) (by simp only [dropUn, slots]; exact rfl) ?_
          refine h12 _ ?_
          refine hw_ret ?_
          refine hq_block_ret ?_
          refine hq_then_ret ?_
          refine hq_ret1 rfl (rval_tmp rfl) [] rfl pre0 ?_
          rw [if_neg hc0, if_neg (show ¬ (x.kind = 2 ∨ x.kind = 3) by omega), if_pos hc3]; exact fz_bool (by simp only [beq_d, int_1])
        · have hr3 := hc3; (try simp only [hcs, Int.reduceToNat] at hc3)
          refine hw_skip ?_
          refine hq_block ?_
          refine h2 _ ?_
          refine hw_seq (fun Nh13 h13 => ?_)
          refine hw_region ?_
          refine hq_ 2 (hop_assign rfl) rfl rfl pre0 rfl rfl ?_
          refine hseq_nil ?_
          refine h13 _ ?_
          refine hw_ret ?_
          refine hq_ret1 rfl (rval_tmp rfl) [] rfl pre0 ?_
          rw [if_neg hc0, if_neg (show ¬ (x.kind = 2 ∨ x.kind = 3) by omega), if_neg hc3]; exact .imm _
theorem right_step {n i : Nat} {e : List Pt} {op : List Int} (hi : i < e.length) : rightL n i (e.drop i) op = ((aloneV (e.getD i default) && (decide ((e.getD i default).kids.length ≤ op.length) && decide (op.drop (op.length - (e.getD i default).kids.length) = (e.getD i default).kids))) && rightL n (i + 1) (e.drop (i + 1)) (op.take (op.length - (e.getD i default).kids.length) ++ [(i : Int)])) := by
  have h : e.drop i = e.getD i default :: e.drop (i + 1) := by
    rw [List.getD_eq_getElem?_getD, List.getElem?_eq_getElem hi, List.drop_eq_getElem_cons hi]; rfl
  rw [h]; rfl
theorem os_eq {id g lo lo' n n' : Nat} (h1 : lo = lo') (h2 : n = n') : HV.os id g lo n = HV.os id g lo' n' := by subst h1; subst h2; rfl
instance frz_ptH (x : Pt) : Frz (ptH x) := ⟨.agg _ _ _ fun j hj => pt_fz x j⟩
theorem cut_all6 {op : List Int} {k : Nat} (h : k ≤ op.length) : (op.drop (op.length - k)).take k = op.drop (op.length - k) := List.take_of_length_le (by rw [List.length_drop]; omega)
theorem right_no {x : Pt} {op : List Int} (h : (!aloneV x || decide ((op.length : Int) - x.kids.length < 0) || !decide ((op.drop (op.length - x.kids.length)).take x.kids.length = x.kids)) = true) : (aloneV x && (decide (x.kids.length ≤ op.length) && decide (op.drop (op.length - x.kids.length) = x.kids))) = false := by
  by_cases hk : x.kids.length ≤ op.length
  · rw [cut_all6 hk, decide_eq_false (show ¬ ((op.length : Int) - x.kids.length < 0) by omega)] at h
    rw [decide_eq_true hk]
    cases ha : aloneV x <;> rw [ha] at h <;> simp at h ⊢
    exact h
  · rw [decide_eq_false hk]; simp
theorem right_yes {x : Pt} {op : List Int} (h : (!aloneV x || decide ((op.length : Int) - x.kids.length < 0) || !decide ((op.drop (op.length - x.kids.length)).take x.kids.length = x.kids)) = false) : (aloneV x && (decide (x.kids.length ≤ op.length) && decide (op.drop (op.length - x.kids.length) = x.kids))) = true ∧ x.kids.length ≤ op.length := by
  simp only [Bool.or_eq_false_iff, Bool.not_eq_false', decide_eq_false_iff_not] at h
  have hk : x.kids.length ≤ op.length := by omega
  have h2 := h.2
  rw [cut_all6 hk] at h2
  exact ⟨by rw [h.1.1, decide_eq_true hk, h2]; rfl, hk⟩
theorem osub_cut {op : List Int} {N k g ty : Nat} {r : Int} {F : Nat → Nat → HV} (hN : N = k) (hk : k ≤ op.length) (hF : ∀ j, F 0 j = intV r) : OSub ⟨g, N + 1, 1, ty, 0, cat N (kidsF op) F⟩ ⟨g, (op.take k ++ [r]).length, 1, ty, 0, kidsF (op.take k ++ [r])⟩ := by
  subst hN
  have hl : (op.take N).length = N := by rw [List.length_take]; omega
  exact osub_snoc (enc := fun x _ => intV x) (d := 0) (out := op.take N) hl.symm (fun i j hi hj => by
    have : (op.take N).getD i 0 = op.getD i 0 := by rw [List.getD_eq_getElem?_getD, List.getD_eq_getElem?_getD, List.getElem?_take, if_pos (by omega)]
    show Sb (intV (op.getD i 0)) (intV ((op.take N).getD i 0))
    rw [this]; exact .refl _) (fun j hj => by rw [hF]; exact .refl _)
theorem right_g {a : Bool} {ol kl : Nat} (h : (!a || decide ((ol : Int) - kl < 0)) = false) : ol - kl + kl ≤ ol := by simp at h; omega
theorem right_h (e : List Pt) (he : PtB e) : HPure Tryd.prog 32 [ptsV e] (boolV (rightV e)) := by
  have hel := he.1
  refine hpure_of Tryd.func32 rfl (by kernel_rfl) _ _ _ rfl 51 rfl rfl (fun w F => ?_)
  refine hw_seq (fun Nh1 h1 => ?_)
  refine hw_region ?_
  refine hq_ 2 (hop_assign rfl) rfl rfl pre0 rfl rfl ?_
  refine hseq_nil ?_
  refine h1 _ ?_
  refine hw_seq (fun Nh2 h2 => ?_)
  refine hw_region ?_
  refine hq_ 3 (hop_assign rfl) rfl rfl pre0 rfl rfl ?_
  refine hseq_nil ?_
  refine h2 _ ?_
  refine hw_seq (fun Nh3 h3 => ?_)
  refine hw_seq (fun Nh4 h4 => ?_)
  refine hw_region ?_
  refine hq_ 7 (hop_move rfl) rfl rfl pre0 rfl rfl ?_
  refine hq_ 8 (hop_len_sl (T := 52) rfl (elOf_spec el_52).1 rfl) rfl rfl pre0 rfl rfl ?_
  refine hq_ 9 (hop_move rfl) rfl rfl pre0 rfl rfl ?_
  refine hseq_nil ?_
  refine h4 _ ?_
  refine hw_block ?_
  refine hw_own 3 8001 1 3 ((kidsF [])) rfl (by decide) rfl (c' := 1) rfl ?_
  refine hw_loopc (α := Nat × List Int × Nat) (fun x c => ⟨51, [(0, .v (ptsV e)), (3, .v (.os 8001 x.2.2 0 x.2.1.length)), (7, .v (ptsV e)), (8, .v (intV e.length)), (9, .v (intV x.1))], [(8001, ⟨x.2.2, x.2.1.length, 1, 3, 0, kidsF x.2.1⟩)], c⟩) (fun x => x.1 ≤ e.length ∧ x.2.1.length ≤ x.1 ∧ rightL e.length x.1 (e.drop x.1) x.2.1 = rightV e) (fun x => e.length - x.1) ((0, [], 0)) (by exact ⟨Nat.zero_le _, Nat.zero_le _, rfl⟩) (hsub_of rfl (Nat.le_refl _) (TmSub.cons rfl (Sb.refl _) (TmSub.cons rfl (Sb.refl _) (TmSub.cons rfl (Sb.refl _) (TmSub.cons rfl (Sb.refl _) (TmSub.cons rfl (Sb.refl _) TmSub.nil))))) (HpSub.cons rfl (OSub.refl _) HpSub.nil)) (fun x c hx NhL5 hL5 => ?_)
  revert hx hL5; obtain ⟨i, op, g⟩ := x; intro hx hL5; dsimp only at hx hL5 ⊢
  obtain ⟨hi, hop, hR⟩ := hx
  refine hw_seq (fun Nh6 h6 => ?_)
  refine hw_region ?_
  refine hq_ 10 (hop_lss rfl rfl) rfl rfl pre0 rfl rfl ?_
  refine hseq_nil ?_
  refine h6 _ ?_
  refine hw_seq (fun Nh7 h7 => ?_)
  refine hw_cond _ rfl (fun hc0 => ?_) (fun hc0 => ?_)
  · have hr0 := hc0; (try simp only [hcs, Int.reduceToNat] at hc0)
    have hil : i < e.length := (by omega); have hkb := he.2 i hil; have hst := right_step (n := e.length) (op := op) hil
    refine hw_skip ?_
    refine h7 _ ?_
    refine hw_seq (fun Nh8 h8 => ?_)
    refine hw_block ?_
    refine hw_seq (fun Nh9 h9 => ?_)
    refine hw_region ?_
    refine hq_ 11 (hop_move rfl) rfl rfl pre0 rfl rfl ?_
    refine hq_ 12 (hop_ia_sl el_52 rfl rfl (by omega) (by omega) (nb rfl)) rfl rfl pre0 rfl rfl ?_
    refine hq_ 13 (HOp.val (v' := ptH (e.getD i default)) (hop_load_fp ty_100 rfl (nb rfl) (fun h => (by cases h))) (rfl)) rfl rfl pre0 rfl rfl ?_
    refine hm_1 5 (hop_alloc (id := 5) (sz := 5) zc_100 rfl rfl (nb rfl) (nb rfl)) rfl rfl pre0 rfl rfl (c' := c + 1) rfl ?_
    refine hq_ 4 (hop_assign rfl) rfl rfl pre0 rfl rfl ?_
    refine hm_s1 (hol_storeW ty_100 rfl rfl rfl rfl) rfl rfl (pre1 rfl) (c' := c + 2) rfl ?_
    refine hseq_nil ?_
    refine h9 _ ?_
    refine hw_seq (fun Nh10 h10 => ?_)
    refine hw_region ?_
    refine hq_ 14 (hop_move rfl) rfl rfl pre0 rfl rfl ?_
    refine hq_ 15 (hop_len_os (T := 98) rfl (elOf_spec el_98).1 rfl) rfl rfl pre0 rfl rfl ?_
    refine hq_ 16 (hop_fa fd_100_4 rfl) rfl rfl pre0 rfl rfl ?_
    refine hq_ 17 (HOp.val (v' := kidsV (e.getD i default).kids) (hol_load ty_98 rfl (nb rfl) (nb rfl) (fun h => (by rfl))) (rfl)) rfl rfl (pre1 rfl) rfl rfl ?_
    refine hq_ 18 (hop_len_sl (T := 98) rfl (elOf_spec el_98).1 rfl) rfl rfl pre0 rfl rfl ?_
    refine hq_ 19 (hop_subi rfl rfl rfl (by omega) (by omega)) rfl rfl pre0 rfl rfl ?_
    refine hq_ 6 (hop_assign rfl) rfl rfl pre0 rfl rfl ?_
    refine hseq_nil ?_
    refine h10 _ ?_
    refine hw_seq (fun Nh11 h11 => ?_)
    refine hw_seq (fun Nh12 h12 => ?_)
    refine hd_start ?_
    refine hd_q 20 (HOp.val (v' := ptH (e.getD i default)) (hol_load ty_100 rfl (nb rfl) (nb rfl) (fun h => (by cases h))) (rfl)) rfl rfl (pre1 rfl) rfl rfl (k' := 1) rfl ?_
    refine hd_q 21 (hop_call0 (xs := [_]) (alone_h (e.getD i default) (by omega) (by omega)) ⟨rfl, trivial⟩ ⟨(Fz.eq rfl), trivial⟩) rfl rfl pre0 rfl rfl (k' := 2) rfl ?_
    refine hd_q 22 (hop_not rfl) rfl rfl pre0 rfl rfl (k' := 3) rfl ?_
    refine hd_q 23 (hop_move rfl) rfl rfl pre0 rfl rfl (k' := 4) rfl ?_
    refine hd_g 24 3 23 false _ (fun hb => hop_move rfl) rfl rfl rfl rfl pre0 rfl rfl rfl (k' := 5) rfl ?_
    refine hd_g 25 3 23 false _ (fun hb => hop_lss rfl rfl) rfl rfl rfl rfl pre0 rfl rfl rfl (k' := 6) rfl ?_
    refine hd_p 26 (hstep_or _ _ rfl rfl rfl) rfl rfl rfl (k' := 7) rfl ?_
    refine hd_q 27 (hop_move rfl) rfl rfl pre0 rfl rfl (k' := 8) rfl ?_
    refine hd_g 28 7 27 false _ (fun hb => hop_move rfl) rfl rfl rfl rfl pre0 rfl rfl rfl (k' := 9) rfl ?_
    refine hd_g 29 7 27 false _ (fun hb => hop_move rfl) rfl rfl rfl rfl pre0 rfl rfl rfl (k' := 10) rfl ?_
    refine hd_g 30 7 27 false _ (fun hb => HOp.val (v' := .os 8001 g (op.length - (e.getD i default).kids.length) (e.getD i default).kids.length) (hol_cut_os el_98 rfl (.inr ⟨_, _, rfl, rfl⟩) (.inl ⟨rfl, rfl⟩) (by (simp at hb; first | omega | (dsimp only; omega) | (simp <;> omega))) (by (simp at hb; first | omega | (dsimp only; omega) | (simp <;> omega))) (by (simp at hb; first | omega | (dsimp only; omega) | (simp <;> omega)))) (os_eq (by simp at hb; omega) (by simp at hb; omega))) rfl rfl rfl rfl (pre1 rfl) rfl rfl rfl (k' := 11) rfl ?_
    refine hd_g 31 7 27 false _ (fun hb => hop_fa fd_100_4 rfl) rfl rfl rfl rfl pre0 rfl rfl rfl (k' := 12) rfl ?_
    refine hd_g 32 7 27 false _ (fun hb => HOp.val (v' := kidsV (e.getD i default).kids) (hol_load ty_98 rfl (nb rfl) (nb rfl) (fun h => (by rfl))) (rfl)) rfl rfl rfl rfl (pre1 rfl) rfl rfl rfl (k' := 13) rfl ?_
    refine hd_g 33 7 27 false _ (fun hb => hop_funR (xs := [_, _]) (pre := [(8001, _)]) (equal_h g (op.length - (e.getD i default).kids.length) (e.getD i default).kids.length op (e.getD i default).kids (by omega) (by omega) (right_g hb)) ⟨rfl, ⟨rfl, trivial⟩⟩) rfl rfl rfl rfl (preC rfl pre0) rfl rfl rfl (k' := 14) rfl ?_
    refine hd_g 34 7 27 false _ (fun hb => hop_not rfl) rfl rfl rfl rfl pre0 rfl rfl rfl (k' := 15) rfl ?_
    refine hd_p 35 (hstep_or _ _ rfl rfl rfl) rfl rfl rfl (k' := 16) rfl ?_
    refine hd_nil (by kernel_rfl) (by kernel_rfl) (c' := c + 18) rfl ?_
    refine h12 _ ?_
    refine hw_cond _ rfl (fun hc1 => ?_) (fun hc1 => ?_)
    · have hr1 := hc1; (try simp only [hcs, Int.reduceToNat] at hc1)
      have hf := right_no hr1; rw [hf, Bool.false_and] at hst
      refine hw_seq (fun Nh13 h13 => ?_)
      refine hw_region ?_
      refine hq_ 2 (hop_assign rfl) rfl rfl pre0 rfl rfl ?_
      refine hseq_nil ?_
      refine h13 _ ?_
      refine hw_ret ?_
      refine hq_then_ret ?_
      refine hq_block_ret ?_
      refine hq_then_ret ?_
      refine hq_then_ret ?_
      refine hq_block_ret ?_
      refine hq_then_ret ?_
      refine hq_ret1 rfl (rval_tmp rfl) [] rfl pre0 ?_
      rw [← hR, hst]; exact .imm _
    · have hr1 := hc1; (try simp only [hcs, Int.reduceToNat] at hc1)
      obtain ⟨hf, hkl⟩ := right_yes hr1; rw [hf, Bool.true_and] at hst
      refine hw_skip ?_
      refine h11 _ ?_
      refine hw_region ?_
      refine hq_ 36 (hop_move rfl) rfl rfl pre0 rfl rfl ?_
      refine hq_ 37 (hop_move rfl) rfl rfl pre0 rfl rfl ?_
      refine hq_ 38 (hol_cut_os el_98 rfl (.inl ⟨rfl, rfl⟩) (.inr ⟨_, _, rfl, rfl⟩) (by omega) (by omega) (by omega)) rfl rfl (pre1 rfl) rfl rfl ?_
      refine hq_ 39 (hop_move rfl) rfl rfl pre0 rfl rfl ?_
      refine hm_1 40 (hop_buildSlice (id := 40) (hs := [_]) ei_98 (nb rfl) rfl (nb rfl) ⟨rfl, rfl, rfl, rfl, trivial⟩) rfl rfl pre0 rfl rfl (c' := c + 19) rfl ?_
      refine hm_1 41 (hol_append ei_98 (nb rfl) rfl (by omega) (nb rfl) (srl_os0 rfl (nb rfl)) (by omega) rfl) rfl rfl (preC rfl (pre1 rfl)) rfl rfl (c' := c + 20) rfl ?_
      refine hq_ 3 (hop_assign rfl) rfl rfl pre0 rfl rfl ?_
      refine hseq_nil ?_
      refine hq_block ?_
      refine h8 _ ?_
      refine hw_region ?_
      refine hq_ 42 (hop_addi rfl rfl rfl (by omega) (by omega)) rfl rfl pre0 rfl rfl ?_
      refine hq_ 9 (hop_move rfl) rfl rfl pre0 rfl rfl ?_
      refine hseq_nil ?_
      exact hL5 ((i + 1, op.take (op.length - (e.getD i default).kids.length) ++ [(i : Int)], c + 19)) _ _ (by (try dsimp only); exact ⟨by omega, by rw [List.length_append, List.length_take]; show _ + 1 ≤ _; omega, by rw [← hst]; exact hR⟩) (by (try dsimp only); omega) (hsub_of rfl (Nat.le_refl _) (TmSub.cons rfl (Sb.refl _) (TmSub.cons rfl (by dsimp only; exact sb_os (by rw [List.length_append, List.length_take]; show _ + 1 = _ + 1; omega)) (TmSub.cons rfl (Sb.refl _) (TmSub.cons rfl (Sb.refl _) (TmSub.cons rfl (Sb.refl _) TmSub.nil))))) (HpSub.cons rfl (by dsimp only; exact osub_cut (k := op.length - (e.getD i default).kids.length) (r := (i : Int)) (by omega) (by omega) (fun _ => rfl)) HpSub.nil))
  · have hr0 := hc0; (try simp only [hcs, Int.reduceToNat] at hc0)
    refine hw_exit ?_
    refine hq_then_exit ?_
    refine hq_then_exit ?_
    refine hq_block_here ?_
    refine h3 _ ?_
    refine hw_seq (fun Nh14 h14 => ?_)
    refine hw_region ?_
    refine hq_ 43 (hop_move rfl) rfl rfl pre0 rfl rfl ?_
    refine hq_ 44 (hop_len_os (T := 98) rfl (elOf_spec el_98).1 rfl) rfl rfl pre0 rfl rfl ?_
    refine hq_ 45 (hop_eql rfl rfl) rfl rfl pre0 rfl rfl ?_
    refine hq_ 46 (hop_move rfl) rfl rfl pre0 rfl rfl ?_
    refine hq_g 47 3 46 false _ (fun hb => hop_move rfl) rfl rfl rfl rfl pre0 rfl rfl rfl ?_
    refine hq_g 48 3 46 false _ (fun hb => hop_len_sl (T := 52) rfl (elOf_spec el_52).1 rfl) rfl rfl rfl rfl pre0 rfl rfl rfl ?_
    refine hq_g 49 3 46 false _ (fun hb => hop_eql rfl rfl) rfl rfl rfl rfl pre0 rfl rfl rfl ?_
    refine hq_p 50 (hstep_or _ _ rfl rfl rfl) rfl rfl rfl ?_
    refine hq_ 2 (hop_assign rfl) rfl rfl pre0 rfl rfl ?_
    refine hseq_nilU (by rfl) (by simp only [dropUn, slots]; exact rfl) ?_
    refine h14 _ ?_
    refine hw_ret ?_
    refine hq_ret1 rfl (rval_tmp rfl) [] rfl pre0 ?_
    rw [← hR, List.drop_eq_nil_of_le (by omega)]; exact fz_bool (by simp only [rightL, beq_d, int_1, int_0])
end Go.Proofs.YtijpdbjcmnpobaaDoor

namespace Go.Proofs.YtijpdbjcmnpobaaDoor
set_option linter.unusedSimpArgs false
set_option linter.unusedVariables false

def T.kind : T → Int
  | .name _ => 1
  | .times _ _ _ => 4
  | .many k _ => k
/-- May a tree stand so within another one? (p: the other one's kind) -/
def inB (p k : Int) : Bool := if p = 3 then decide (k = 3) else if p = 2 then decide (k = 2) || decide (k = 3) else !decide (k = 1)
def wrapS (b : Bool) (l : List Sg) : List Sg := if b = true then [⟨2, 0, 0, 0, []⟩] ++ l ++ [⟨3, 0, 0, 0, []⟩] else l
def orS (k : Int) (f : Bool) : List Sg := if k = 3 ∧ f = false then [⟨4, 0, 0, 0, []⟩] else []
mutual
/-- A tree's signs, without brackets. -/
def T.sig : T → List Sg
  | .name s => [⟨1, 0, 0, 0, s⟩]
  | .times lo hi t => wrapS (inB 4 t.kind) (T.sig t) ++ [⟨5, 0, lo, hi, []⟩]
  | .many k ts => T.sigL k true ts
def T.sigL (k : Int) : Bool → List T → List Sg
  | _, [] => []
  | f, t :: ts => orS k f ++ wrapS (inB k t.kind) (T.sig t) ++ T.sigL k false ts
end
theorem wrap_len (b : Bool) (l : List Sg) : (wrapS b l).length ≤ l.length + 2 ∧ l.length ≤ (wrapS b l).length := by
  unfold wrapS; split
  · simp; omega
  · omega
theorem or_len (k : Int) (f : Bool) : (orS k f).length ≤ 1 := by unfold orS; split <;> simp
theorem T.sigL_snoc (k : Int) : ∀ (ts : List T) (f : Bool) (t : T), T.sigL k f (ts ++ [t]) = T.sigL k f ts ++ orS k (f && decide (ts = [])) ++ wrapS (inB k t.kind) t.sig
  | [], f, t => by simp [T.sigL]
  | x :: ts, f, t => by simp [T.sigL, T.sigL_snoc k ts false t]
mutual
theorem sig_len : ∀ t : T, t.ok = true → t.sig.length + 3 ≤ 4 * t.size ∧ 0 < t.sig.length
  | .name s, _ => by simp [T.sig, T.size]
  | .times lo hi t, h => by
    simp only [T.ok, Bool.and_eq_true] at h
    have a := sig_len t h.2
    have b := wrap_len (inB 4 t.kind) t.sig
    simp only [T.sig, T.size, List.length_append, List.length_singleton]; omega
  | .many k ts, h => by
    simp only [T.ok, Bool.and_eq_true, decide_eq_true_eq] at h
    have a := sigL_len k ts h.2 true
    have b := sigL_pos k ts h.2 (by omega)
    simp only [T.sig, T.size]
    simp only [if_true] at a
    exact ⟨by omega, b⟩
theorem sigL_len (k : Int) : ∀ ts : List T, T.okL ts = true → ∀ f, (T.sigL k f ts).length + (if f = true then min 1 ts.length else 0) ≤ 4 * T.sizeL ts
  | [], _, f => by simp [T.sigL, T.sizeL]
  | t :: ts, h, f => by
    simp only [T.okL, Bool.and_eq_true] at h
    have a := sig_len t h.1
    have b := wrap_len (inB k t.kind) t.sig
    have d := sigL_len k ts h.2 false
    have e := or_len k f
    simp only [Bool.false_eq_true, if_false] at d
    simp only [T.sigL, T.sizeL, List.length_append, List.length_cons]
    cases f with
    | true => have : (orS k true).length = 0 := by unfold orS; rw [if_neg (by simp)]; rfl
              simp only [if_true]; omega
    | false => simp only [Bool.false_eq_true, if_false]; omega
theorem sigL_pos (k : Int) : ∀ ts : List T, T.okL ts = true → 0 < ts.length → 0 < (T.sigL k true ts).length
  | [], _, h => absurd h (by simp)
  | t :: ts, h, _ => by
    simp only [T.okL, Bool.and_eq_true] at h
    have a := sig_len t h.1
    have b := wrap_len (inB k t.kind) t.sig
    simp only [T.sigL, List.length_append]; omega
end
def AtP (e : List Pt) (b : Nat) (l : List Pt) : Prop := ∃ u v, e = u ++ l ++ v ∧ u.length = b
theorem atP_get {e : List Pt} {b : Nat} {l : List Pt} (h : AtP e b l) {i : Nat} (hi : i < l.length) : e.getD (b + i) default = l.getD i default ∧ b + i < e.length := by
  obtain ⟨u, v, rfl, rfl⟩ := h
  refine ⟨?_, by simp only [List.length_append]; omega⟩
  rw [List.append_assoc, List.getD_eq_getElem?_getD, List.getElem?_append_right (by omega), Nat.add_sub_cancel_left, List.getElem?_append_left hi, ← List.getD_eq_getElem?_getD]
theorem atP_left {e : List Pt} {b : Nat} {l k : List Pt} (h : AtP e b (l ++ k)) : AtP e b l := by
  obtain ⟨u, v, rfl, hu⟩ := h
  exact ⟨u, k ++ v, by simp, hu⟩
theorem atP_right {e : List Pt} {b b' : Nat} {l k : List Pt} (h : AtP e b (l ++ k)) (hb : b' = b + l.length) : AtP e b' k := by
  obtain ⟨u, v, rfl, hu⟩ := h
  exact ⟨u ++ l, v, by simp, by rw [List.length_append, hu, hb]⟩
theorem flatL_cut : ∀ (ts : List T) (b i : Nat), i < ts.length → ∃ v, T.flatL b ts = T.flatL b (ts.take i) ++ T.flat (b + T.sizeL (ts.take i)) (ts.getD i default) ++ v
  | t :: ts, b, 0, _ => ⟨T.flatL (b + t.size) ts, by simp [T.flatL, T.sizeL]⟩
  | t :: ts, b, i + 1, h => by
    obtain ⟨v, hv⟩ := flatL_cut ts (b + t.size) i (by simpa using h)
    refine ⟨v, ?_⟩
    simp only [T.flatL, List.take_succ_cons, T.sizeL, hv, List.getD_cons_succ, List.append_assoc, Nat.add_assoc]
theorem at_kid {e : List Pt} {b i : Nat} {ts : List T} {k : Int} (h : AtP e b (T.flat b (.many k ts))) (hi : i < ts.length) : AtP e (b + T.sizeL (ts.take i)) (T.flat (b + T.sizeL (ts.take i)) (ts.getD i default)) := by
  obtain ⟨v, hv⟩ := flatL_cut ts b i hi
  simp only [T.flat, hv] at h
  have h := atP_left (atP_left h)
  exact atP_right h (by rw [T.flatL_len])
theorem roots_get : ∀ (ts : List T) (b i : Nat), i < ts.length → (rootsL b ts).getD i 0 = T.root (b + T.sizeL (ts.take i)) (ts.getD i default)
  | t :: ts, b, 0, _ => by simp [rootsL, T.root, T.sizeL]
  | t :: ts, b, i + 1, h => by
    have := roots_get ts (b + t.size) i (by simpa using h)
    simp only [rootsL, List.getD_cons_succ, List.take_succ_cons, T.sizeL, this, Nat.add_assoc]
/-- A tree's own part. -/
def T.top (b : Nat) : T → Pt
  | .name s => ⟨1, 0, 0, s, []⟩
  | .times lo hi t => ⟨4, lo, hi, [], [((b + t.size : Nat) : Int) - 1]⟩
  | .many k ts => ⟨k, 0, 0, [], rootsL b ts⟩
theorem top_kind (b : Nat) (t : T) : (t.top b).kind = t.kind := by cases t <;> rfl
theorem flat_top (b : Nat) (t : T) : (T.flat b t).getD (t.size - 1) default = t.top b := by
  cases t with
  | name s => rfl
  | times lo hi t => simp only [T.flat, T.size, T.top, Nat.add_sub_cancel]; rw [← T.flat_len b t]; exact getD_snoc _ _ _
  | many k ts => simp only [T.flat, T.size, T.top, Nat.add_sub_cancel]; rw [← T.flatL_len b ts]; exact getD_snoc _ _ _
theorem at_top {e : List Pt} {b : Nat} {t : T} (h : AtP e b (T.flat b t)) : e.getD (b + t.size - 1) default = t.top b ∧ b + t.size ≤ e.length := by
  have hs := t.size_pos
  have := atP_get h (i := t.size - 1) (by rw [T.flat_len]; omega)
  rw [flat_top, show b + (t.size - 1) = b + t.size - 1 by omega] at this
  exact ⟨this.1, by omega⟩
def Like (x y : Sg) : Prop := x.kind = y.kind ∧ x.low = y.low ∧ x.high = y.high ∧ x.name = y.name
def AtS (l : List Sg) (p : Nat) (k : List Sg) : Prop := p + k.length ≤ l.length ∧ ∀ i, i < k.length → Like (l.getD (p + i) default) (k.getD i default)
theorem atS_left {l : List Sg} {p : Nat} {k k' : List Sg} (h : AtS l p (k ++ k')) : AtS l p k :=
  ⟨by have := h.1; rw [List.length_append] at this; omega, fun i hi => by have := h.2 i (by rw [List.length_append]; omega); rwa [getD_app hi] at this⟩
theorem getD_right {α : Type} {k k' : List α} {i : Nat} {d : α} : (k ++ k').getD (k.length + i) d = k'.getD i d := by
  rw [List.getD_eq_getElem?_getD, List.getElem?_append_right (by omega), Nat.add_sub_cancel_left, ← List.getD_eq_getElem?_getD]
theorem atS_right {l : List Sg} {p : Nat} {k k' : List Sg} (h : AtS l p (k ++ k')) : AtS l (p + k.length) k' :=
  ⟨by have := h.1; rw [List.length_append] at this; omega, fun i hi => by have := h.2 (k.length + i) (by rw [List.length_append]; omega); rwa [getD_right, ← Nat.add_assoc] at this⟩
theorem atS_kd {l : List Sg} {p : Nat} {x : Sg} {k : List Sg} (h : AtS l p (x :: k)) : kd l p = x.kind := by
  have := h.2 0 (by simp)
  have h1 := h.1
  rw [List.length_cons] at h1
  rw [kd_in (by omega)]; exact this.1
theorem atS_one {l : List Sg} {p : Nat} {x : Sg} {k : List Sg} (h : AtS l p (x :: k)) : Like (l.getD p default) x := h.2 0 (by simp)
@[reducible] def lvB : T → Nat
  | .name _ => 0
  | .times _ _ _ => 1
  | .many k _ => if k = 2 then 2 else 3
/-- Tells of a tree that its signs are read as it. -/
def SigOk (t : T) : Prop := ∀ (l : List Sg) (p : Nat), AtS l p t.sig → kd l (p + t.sig.length) ≠ 5 → Seg l (lvB t) p (p + t.sig.length) t
def AtomOk (b : Bool) (t : T) : Prop := ∀ (l : List Sg) (p : Nat), AtS l p (wrapS b t.sig) → Seg l 0 p (p + (wrapS b t.sig).length) t
theorem up3 {l : List Sg} {v p q : Nat} {t : T} (h : Seg l v p q t) (h5 : kd l q ≠ 5) : Seg l 3 p q t := by
  have e1 : ∀ {p q t}, Seg l 1 p q t → Seg l 3 p q t := fun h => .choice1 _ _ _ (.row1 _ _ _ h)
  match v, h with
  | 0, h => exact e1 (.item _ _ _ h h5)
  | 1, h => exact e1 h
  | 2, h => exact .choice1 _ _ _ h
  | 3, h => exact h
  | v + 4, h => nomatch h
theorem atom_wrap {t : T} (h : SigOk t) : AtomOk true t := by
  intro l p hp
  simp only [wrapS, if_true] at hp ⊢
  have h2 := atS_kd (by simpa using hp)
  have hb := atS_right (atS_left hp)
  have h3 := atS_right hp
  have k3 := atS_kd h3
  rw [List.length_append, List.length_singleton] at h3 k3
  have := h l (p + 1) hb (by rw [show p + 1 + t.sig.length = p + (1 + t.sig.length) by omega, k3]; decide)
  have g := up3 this (by rw [show p + 1 + t.sig.length = p + (1 + t.sig.length) by omega, k3]; decide)
  have := Seg.group p (p + 1 + t.sig.length) t h2 g (by rw [show p + 1 + t.sig.length = p + (1 + t.sig.length) by omega]; exact k3)
  rw [show p + 1 + t.sig.length + 1 = p + ([⟨2, 0, 0, 0, []⟩] ++ t.sig ++ [⟨3, 0, 0, 0, []⟩] : List Sg).length by simp; omega] at this
  exact this
theorem atom_name (s : List UInt8) : AtomOk false (.name s) := by
  intro l p hp
  have h1 := atS_kd (x := ⟨1, 0, 0, 0, s⟩) (k := []) hp
  have h2 := atS_one (x := ⟨1, 0, 0, 0, s⟩) (k := []) hp
  have := Seg.name p h1
  rw [h2.2.2.2] at this
  exact this
theorem in4 {t : T} (h : t.ok = true) : inB 4 t.kind = true ∨ ∃ s, t = .name s := by
  cases t with
  | name s => exact .inr ⟨s, rfl⟩
  | times _ _ _ => left; rfl
  | many k ts =>
    simp only [T.ok, Bool.and_eq_true, Bool.or_eq_true, decide_eq_true_eq] at h
    left; show inB 4 k = true; unfold inB; rw [if_neg (by decide), if_neg (by decide), decide_eq_false (by omega)]; rfl
theorem raise {l : List Sg} {v m p q : Nat} {t : T} (h : Seg l v p q t) (hm : v ≤ m) (hm1 : 1 ≤ m) (hm3 : m ≤ 3) (h5 : kd l q ≠ 5) : Seg l m p q t := by
  have e1 : Seg l 1 p q t → Seg l m p q t := fun h => by
    match m, hm1, hm3 with
    | 1, _, _ => exact h
    | 2, _, _ => exact .row1 _ _ _ h
    | 3, _, _ => exact .choice1 _ _ _ (.row1 _ _ _ h)
  match v, h, hm with
  | 0, h, _ => exact e1 (.item _ _ _ h h5)
  | 1, h, _ => exact e1 h
  | 2, h, hm =>
    match m, hm, hm3 with
    | 2, _, _ => exact h
    | 3, _, _ => exact .choice1 _ _ _ h
  | 3, h, hm =>
    match m, hm, hm3 with
    | 3, _, _ => exact h
  | v + 4, h, _ => nomatch h
theorem sigL_cut (k : Int) : ∀ (ts : List T) (f : Bool) (i : Nat), i < ts.length → T.sigL k f ts = T.sigL k f (ts.take i) ++ (orS k (f && decide (i = 0)) ++ wrapS (inB k (ts.getD i default).kind) (ts.getD i default).sig) ++ T.sigL k false (ts.drop (i + 1))
  | t :: ts, f, 0, _ => by simp [T.sigL]
  | t :: ts, f, i + 1, h => by
    have := sigL_cut k ts false i (by simpa using h)
    simp only [T.sigL, List.take_succ_cons, List.getD_cons_succ, List.drop_succ_cons]
    rw [this]
    simp
theorem sigL_take (k : Int) (ts : List T) (i : Nat) (h : i < ts.length) : T.sigL k true (ts.take (i + 1)) = T.sigL k true (ts.take i) ++ (orS k (decide (i = 0)) ++ wrapS (inB k (ts.getD i default).kind) (ts.getD i default).sig) := by
  have e : ts.take (i + 1) = ts.take i ++ [ts.getD i default] := by
    rw [List.take_add_one, List.getD_eq_getElem?_getD, List.getElem?_eq_getElem h]; rfl
  rw [e, T.sigL_snoc]
  have : decide (ts.take i = []) = decide (i = 0) := decide_eq_decide.2 (by
    rw [List.take_eq_nil_iff]
    constructor
    · rintro (h1 | h1)
      · exact h1
      · subst h1; exact absurd h (Nat.not_lt_zero _)
    · exact .inl)
  rw [this]
  simp
mutual
theorem sig_head : ∀ t : T, t.ok = true → ∃ x r, t.sig = x :: r ∧ (x.kind = 1 ∨ x.kind = 2)
  | .name s, _ => ⟨_, _, rfl, .inl rfl⟩
  | .times lo hi t, h => by
    simp only [T.ok, Bool.and_eq_true] at h
    simp only [T.sig]
    obtain ⟨x, r, e, hx⟩ := sig_head t h.2
    unfold wrapS
    split
    · exact ⟨_, _, rfl, .inr rfl⟩
    · rw [e]; exact ⟨x, _, rfl, hx⟩
  | .many k [], h => by simp [T.ok] at h
  | .many k (t :: ts), h => by
    simp only [T.ok, T.okL, Bool.and_eq_true] at h
    obtain ⟨x, r, e, hx⟩ := sig_head t h.2.1
    simp only [T.sig, T.sigL]
    have : orS k true = [] := by unfold orS; rw [if_neg (by simp)]
    rw [this]
    unfold wrapS
    split
    · exact ⟨_, _, rfl, .inr rfl⟩
    · rw [e]; exact ⟨x, _, rfl, hx⟩
end
theorem wrap_head (b : Bool) {t : T} (h : t.ok = true) : ∃ x r, wrapS b t.sig = x :: r ∧ (x.kind = 1 ∨ x.kind = 2) := by
  obtain ⟨x, r, e, hx⟩ := sig_head t h
  unfold wrapS
  split
  · exact ⟨_, _, rfl, .inr rfl⟩
  · exact ⟨x, r, e, hx⟩
theorem next5 {l : List Sg} {k : Int} {q : Nat} {ts : List T} (hok : T.okL ts = true) (h : AtS l q (T.sigL k false ts)) (hn : ts = [] → kd l q ≠ 5) : kd l q ≠ 5 := by
  match ts, hok, h, hn with
  | [], _, _, hn => exact hn rfl
  | t :: ts, hok, h, _ =>
    simp only [T.okL, Bool.and_eq_true] at hok
    simp only [T.sigL] at h
    unfold orS at h
    by_cases h3 : k = 3 ∧ false = false
    · rw [if_pos h3] at h
      rw [atS_kd (by simpa using h)]; show (4 : Int) ≠ 5; decide
    · rw [if_neg h3, List.nil_append] at h
      obtain ⟨x, r, e, hx⟩ := wrap_head (inB k t.kind) hok.1
      rw [e] at h
      rw [atS_kd (by simpa using h)]
      rcases hx with hx | hx <;> rw [hx] <;> decide
theorem okL_drop : ∀ (ts : List T) (i : Nat), T.okL ts = true → T.okL (ts.drop i) = true
  | [], i, _ => by simp [T.okL]
  | t :: ts, 0, h => h
  | t :: ts, i + 1, h => by
    simp only [T.okL, Bool.and_eq_true] at h
    exact okL_drop ts i h.2
/-- A kid, at its place. -/
theorem kid_seg {l : List Sg} {k : Int} {p i m : Nat} {ts : List T} (hm : m = if k = 2 then 1 else 2) (hk : k = 2 ∨ k = 3) (hok : T.okL ts = true) (hS : ∀ i, i < ts.length → SigOk (ts.getD i default)) (hA : AtS l p (T.sigL k true ts)) (hn : kd l (p + (T.sigL k true ts).length) ≠ 5) (hi : i < ts.length) :
    Seg l m (p + (T.sigL k true (ts.take i)).length + (orS k (decide (i = 0))).length) (p + (T.sigL k true (ts.take (i + 1))).length) (ts.getD i default) ∧ AtS l (p + (T.sigL k true (ts.take (i + 1))).length) (T.sigL k false (ts.drop (i + 1))) := by
  have hcut := sigL_cut k ts true i hi
  rw [Bool.true_and] at hcut
  have hok1 := okL_at hok i hi
  have hcut2 : T.sigL k true ts = T.sigL k true (ts.take (i + 1)) ++ T.sigL k false (ts.drop (i + 1)) := by rw [sigL_take k ts i hi]; exact hcut
  have hrest : AtS l (p + (T.sigL k true (ts.take (i + 1))).length) (T.sigL k false (ts.drop (i + 1))) := atS_right (hcut2 ▸ hA)
  have h5 : kd l (p + (T.sigL k true (ts.take (i + 1))).length) ≠ 5 := next5 (okL_drop ts (i + 1) hok) hrest (fun he => by
    rw [hcut2, he] at hn
    simpa [T.sigL] using hn)
  refine ⟨?_, hrest⟩
  have hW : AtS l (p + (T.sigL k true (ts.take i)).length + (orS k (decide (i = 0))).length) (wrapS (inB k (ts.getD i default).kind) (ts.getD i default).sig) := atS_right (atS_right (atS_left (hcut ▸ hA)))
  have hq : p + (T.sigL k true (ts.take (i + 1))).length = p + (T.sigL k true (ts.take i)).length + (orS k (decide (i = 0))).length + (wrapS (inB k (ts.getD i default).kind) (ts.getD i default).sig).length := by
    rw [sigL_take k ts i hi]; simp only [List.length_append]; omega
  rw [hq] at h5 ⊢
  cases hb : inB k (ts.getD i default).kind with
  | true =>
    rw [hb] at hW h5
    exact raise (atom_wrap (hS i hi) l _ hW) (Nat.zero_le _) (by rw [hm]; split <;> decide) (by rw [hm]; split <;> decide) h5
  | false =>
    rw [hb] at hW h5
    have hs := hS i hi l _ (by simpa [wrapS] using hW) (by simpa [wrapS] using h5)
    refine raise (v := lvB (ts.getD i default)) (by simpa [wrapS] using hs) ?_ (by rw [hm]; split <;> decide) (by rw [hm]; split <;> decide) (by simpa [wrapS] using h5)
    generalize ts.getD i default = t at hb hok1
    cases t with
    | name s => exact Nat.zero_le _
    | times _ _ _ => show 1 ≤ m; rw [hm]; split <;> decide
    | many k' ts' =>
      simp only [T.ok, Bool.and_eq_true, Bool.or_eq_true, decide_eq_true_eq] at hok1
      show (if k' = 2 then 2 else 3) ≤ m
      have hb : inB k k' = false := hb
      unfold inB at hb
      rcases hk with hk | hk
      · subst hk
        rw [if_neg (by decide), if_pos rfl] at hb
        simp at hb
        omega
      · subst hk
        rw [if_pos rfl] at hb
        have := of_decide_eq_false hb
        rw [if_pos (by omega), hm]; decide
mutual
theorem sig_ok : ∀ t : T, t.ok = true → SigOk t
  | .name s, _ => fun l p hp hn => atom_name s l p hp
  | .times lo hi t, h => fun l p hp hn => by
    simp only [T.ok, Bool.and_eq_true] at h
    have A : AtomOk (inB 4 t.kind) t := by
      rcases in4 h.2 with hb | ⟨s, rfl⟩
      · rw [hb]; exact atom_wrap (sig_ok t h.2)
      · exact atom_name s
    simp only [T.sig] at hp ⊢
    have hs := A l p (atS_left hp)
    have hr := atS_right hp
    have h5 := atS_kd hr
    have hlk := atS_one hr
    have := Seg.times p _ t hs h5
    rw [hlk.2.1, hlk.2.2.1] at this
    rw [List.length_append, List.length_singleton, ← Nat.add_assoc]
    exact this
  | .many k ts, h => fun l p hp hn => by
    simp only [T.ok, Bool.and_eq_true, Bool.or_eq_true, decide_eq_true_eq] at h
    have hS := sig_okL ts h.2
    simp only [T.sig] at hp hn ⊢
    have key := fun (m : Nat) (hm : m = if k = 2 then 1 else 2) (i : Nat) (hi : i < ts.length) => kid_seg (i := i) hm h.1.1 h.2 hS hp hn hi
    have hall : (T.sigL k true (ts.take ts.length)) = T.sigL k true ts := by rw [List.take_length]
    rcases h.1.1 with hk | hk
    · subst hk
      have o0 : ∀ b, (orS 2 b).length = 0 := fun b => by unfold orS; rw [if_neg (by simp)]; rfl
      refine .row p _ ts (fun i => p + (T.sigL 2 true (ts.take i)).length) h.1.2 (by simp [T.sigL]) (by simp only [hall]) (fun i hi => ?_)
      have := (key 1 rfl i hi).1
      rw [o0, Nat.add_zero] at this
      exact this
    · subst hk
      refine .choice p _ ts (fun i => p + (T.sigL 3 true (ts.take i)).length + (orS 3 (decide (i = 0))).length) (fun i => p + (T.sigL 3 true (ts.take (i + 1))).length) h.1.2 (by simp [T.sigL, orS]) (by simp only [show ts.length - 1 + 1 = ts.length by omega, hall]) (fun i hi => (key 2 rfl i hi).1) (fun i hi => ?_)
      have hr := (key 2 rfl i (by omega)).2
      have hd : ts.drop (i + 1) = ts.getD (i + 1) default :: ts.drop (i + 1 + 1) := by
        rw [List.getD_eq_getElem?_getD, List.getElem?_eq_getElem hi, List.drop_eq_getElem_cons hi]; rfl
      rw [hd] at hr
      simp only [T.sigL] at hr
      have o1 : orS 3 false = [⟨4, 0, 0, 0, []⟩] := rfl
      rw [o1] at hr
      refine ⟨atS_kd (by simpa using hr), ?_⟩
      show p + _ + (orS 3 (decide (i + 1 = 0))).length = _
      rw [decide_eq_false (by omega)]; rfl
theorem sig_okL : ∀ ts : List T, T.okL ts = true → ∀ i, i < ts.length → SigOk (ts.getD i default)
  | [], _, i, hi => absurd hi (Nat.not_lt_zero _)
  | t :: ts, h, i, hi => by
    simp only [T.okL, Bool.and_eq_true] at h
    cases i with
    | zero => exact sig_ok t h.1
    | succ i => have := sig_okL ts h.2 i (by simpa using hi); simpa using this
end
theorem sig_seg {l : List Sg} {t : T} (h : t.ok = true) (hl : l.length = t.sig.length) (hL : ∀ i, i < l.length → Like (l.getD i default) (t.sig.getD i default)) : Seg l 3 0 l.length t := by
  have h5 : kd l (0 + t.sig.length) ≠ 5 := by rw [kd_out (by omega)]; decide
  have := sig_ok t h l 0 ⟨by omega, fun i hi => by rw [Nat.zero_add]; exact hL i (by omega)⟩ h5
  rw [hl]
  simpa using up3 this h5
end Go.Proofs.YtijpdbjcmnpobaaDoor

