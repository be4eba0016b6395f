/- Several texts in one: PxQ, PxR. -/
import Derived.Test.YteocdndanehpnaaGreatH51
import Derived.Test.YteocdndanehpnaaGreatH20
import Derived.Test.YteocdndanehpnaaGreatH34
namespace Go.Proofs.YteocdndanehpnaaGreat
open Go.RowKit
set_option linter.unusedSimpArgs false
set_option linter.unusedVariables false
def lossB (P Q S T : List Int) (i j : Nat) : Bool := !((i : Int) == (j : Int)) && decide (atI T i < atI S i) && decide (atI S j < atI T j) && decide (0 < atI P i ∧ 0 < atI P j ∧ atI Q j * atI P i < atI Q i * atI P j)
def pplF (P Q S T : List Int) (n : Nat) : List (Int × Int) := filtP (fun i => lossB P Q S T (i / n) (i % n)) (fun i => ((i / n : Nat) : Int)) (fun i => ((i % n : Nat) : Int)) (n * n)
def pplE (P Q : List Int) (e1 e2 : Int) : Int := if censusB P = false then 60 else if censusB Q = false then 60 else if P.length ≠ Q.length then 2 else if e1 ≠ 0 then e1 else e2
def pplL (P Q S T : List Int) (e1 e2 : Int) : List (Int × Int) := if pplE P Q e1 e2 = 0 then pplF P Q S T P.length else []
def PrsPost (w : World) (L : List (Int × Int)) (er : Int) (e : Ending) (w' : World) : Prop :=
 ∃ v, e = .returned (.tuple #[v, .int .i64 er]) ∧ OwnM w' w.heap.size 56 2 v (prs L) ∧ Lat w w'
theorem PrsPost.no (w w' : World) (er : Int) (h : Lat w w') : PrsPost w [] er (.returned (.tuple #[.slice none 0 0, .int .i64 er])) w' := ⟨_, rfl, OwnM.nil _ _ _ _, h⟩
theorem sl_atI {w : World} {b o n : Nat} {xs : List Int} (h : Sl w .i64 (some ⟨b, o, none⟩) n xs) {j : Nat} (hj : j < n) : w.cell? ⟨b, o + j, none⟩ = some (.int .i64 (atI xs j)) := by
 have hl := h.1
 have e : xs[j]? = some xs[j] := List.getElem?_eq_getElem (by omega)
 rw [sl_at h e, atI_of e]
structure SqNums (n NN : Nat) : Prop where
 is : n * n = NN
 le : NN ≤ 3600
 w1 : wrap64 ((n : Int) * (n : Int)) = (NN : Int)
 w2 : IntKind.i64.wrap ((n : Int) * (n : Int)) = (NN : Int)
theorem sq_nums {n : Nat} (hn : n ≤ 60) : ∃ NN, SqNums n NN := by
 have h : n * n ≤ 3600 := Nat.mul_le_mul (n₁ := n) (n₂ := 60) (m₁ := n) (m₂ := 60) hn hn
 have e : ((n : Int) * (n : Int)) = ((n * n : Nat) : Int) := by simp
 refine ⟨n * n, rfl, h, ?_, ?_⟩
 ·rw [e]; generalize n * n = z at h; exact IntWalk.wrap64_in _ (by omega)
 ·rw [e]; generalize n * n = z at h; exact IntWalk.i64_in _ (by omega)
set_option maxRecDepth 100000 in
set_option maxHeartbeats 8000000 in
theorem people_any (A1 : Option Addr) (n1 c1 : Nat) (P : List Int) (A2 : Option Addr) (n2 c2 : Nat) (Q : List Int) (s k e1 e2 : Int) (S T : List Int) (w : World) (hP : Sl w .i64 A1 n1 P) (hQ : Sl w .i64 A2 n2 Q) (hn1 : n1 ≤ 60) (hn2 : n2 ≤ 60)
  (HD1 : ∀ w', Lat w w' → Calls Tryz.prog 20 #[.slice A1 n1 c1, .int .i64 s, .int .i64 k] w' (DecPost w' S e1))
  (HD2 : ∀ w', Lat w w' → Calls Tryz.prog 20 #[.slice A2 n2 c2, .int .i64 s, .int .i64 k] w' (DecPost w' T e2))
  (hl1 : e1 = 0 → S.length = n1) (hl2 : e2 = 0 → T.length = n2) :
  Calls Tryz.prog 15 #[.slice A1 n1 c1, .slice A2 n2 c2, .int .i64 s, .int .i64 k] w (PrsPost w (pplL P Q S T e1 e2) (pplE P Q e1 e2)) := by
 obtain ⟨er, her⟩ : ∃ er, pplE P Q e1 e2 = er := ⟨_, rfl⟩
 obtain ⟨L, hL⟩ : ∃ L, pplL P Q S T e1 e2 = L := ⟨_, rfl⟩
 rw [her, hL]
 have hLn : Hid (er ≠ 0 → L = []) := fun h => by rw [← hL, pplL, her, if_neg h]
 have HE := Lib.hid her
 have HL := Lib.hid hL
 have HC1 := fun w' (h : Lat w w') => qCheck_any A1 n1 c1 P w' (hP.later h) (by omega)
 have HC2 := fun w' (h : Lat w w') => qCheck_any A2 n2 c2 Q w' (hQ.later h) (by omega)
 have HP := Lib.hid hP
 have HQ := Lib.hid hQ
 have HC1 := Lib.hid HC1
 have HC2 := Lib.hid HC2
 have HD1 := Lib.hid HD1
 have HD2 := Lib.hid HD2
 have Hl1 := Lib.hid hl1
 have Hl2 := Lib.hid hl2
 clear her hL hP hQ hl1 hl2
 go_enter Tryz.func15, Tryz.ntmps15
 go_upto_region 2 with (fail)
 refine name1 (Q := fun W => Code.wp _ _ _ _ W) ?_
 intro W1 L1 hs1 k21
 obtain ⟨gl, hgl⟩ : ∃ z, w.heap.size = z := ⟨_, rfl⟩
 rw [hgl] at k21 ⊢
 have HK := Lib.hid k21
 clear hgl hs1 k21
 go_wp2
 go_loopw [23] (fun it wr => ∃ j : Nat, j ≤ 2 ∧ it = .int .i64 (j : Nat) ∧ Hid (1 ≤ j → censusB P = true) ∧ Hid (2 ≤ j → censusB Q = true) ∧ Hid (Lat W1 wr)) (fun it _ => 2 - (intOf it).toNat)
 case atStart => exact ⟨0, by omega, rfl, fun h => absurd h (by omega), fun h => absurd h (by omega), Lat.refl _⟩
 case round =>
  obtain ⟨j, hj, rfl, h1, h2, hl⟩ := hrel
  have hlw := Lib.hid (L1.trans hl.out)
  have c0 := (HK.out.later hl.out).cell 0
  have c1 := (HK.out.later hl.out).cell 1
  by_cases hj0 : j = 0
  ·subst hj0
   cases hc : censusB P with
   | false =>
     obtain rfl : 60 = er := by rw [← HE.out, pplE, if_pos hc]
     obtain rfl := hLn.out (by decide)
     have HC := HC1.out wr hlw.out
     rw [cenE_no hc] at HC
     clear hc
     go_wp2_with fail
     refine HC.mono ?_
     rintro e w0 ⟨rfl, rfl⟩
     clear HC
     go_wp2
     go_ret2
     exact PrsPost.no _ _ _ hlw.out
   | true =>
     have HC := HC1.out wr hlw.out
     rw [cenE_yes hc] at HC
     have hcH := Lib.hid hc
     clear hc
     go_wp2_with fail
     refine HC.mono ?_
     rintro e w0 ⟨rfl, rfl⟩
     clear HC
     go_wp2
     go_roundw
     case rel => exact ⟨1, by omega, rfl, by first | exact fun _ => hcH.out | exact fun _ => trivial, fun h => absurd h (by omega), hl⟩
     case measure => simp [intOf]
  ·by_cases hj1 : j = 1
   ·subst hj1
    clear hj0
    have h1P := Lib.hid (h1.out (Nat.le_refl _))
    cases hc : censusB Q with
    | false =>
      obtain rfl : 60 = er := by rw [← HE.out, pplE, if_neg (by rw [h1P.out]; decide), if_pos hc]
      obtain rfl := hLn.out (by decide)
      have HC := HC2.out wr hlw.out
      rw [cenE_no hc] at HC
      clear hc
      go_wp2_with fail
      refine HC.mono ?_
      rintro e w0 ⟨rfl, rfl⟩
      clear HC
      go_wp2
      go_ret2
      exact PrsPost.no _ _ _ hlw.out
    | true =>
      have HC := HC2.out wr hlw.out
      rw [cenE_yes hc] at HC
      have hcH := Lib.hid hc
      clear hc
      go_wp2_with fail
      refine HC.mono ?_
      rintro e w0 ⟨rfl, rfl⟩
      clear HC
      go_wp2
      go_roundw
      case rel => exact ⟨2, by omega, rfl, fun _ => h1P.out, by first | exact fun _ => hcH.out | exact fun _ => trivial, hl⟩
      case measure => simp [intOf]
   ·obtain rfl : j = 2 := by omega
    have hcP := Lib.hid (h1.out (by omega))
    have hcQ := Lib.hid (h2.out (Nat.le_refl _))
    clear h1 h2 hj0 hj1 c0 c1 hj
    go_upto_region 9 with (fail)
    refine name1 (Q := fun W => Code.wp _ _ _ _ W) ?_
    intro W2 L2 hs2 k13
    obtain ⟨gn, hgn⟩ : ∃ z, wr.heap.size = z := ⟨_, rfl⟩
    rw [hgn] at k13 ⊢
    have LW2 := Lib.hid (hlw.out.trans L2)
    have c13 := k13.cell 0
    have HN := Lib.hid k13
    clear hgn hs2 k13 hlw hl L2
    by_cases hnn : n1 = n2
    ·subst hnn
     have hpos : 0 < n1 := by
      rcases Nat.eq_zero_or_pos n1 with h0 | h0
      ·exfalso
       have := HP.out.1
       have e0 : P = [] := List.eq_nil_of_length_eq_zero (by omega)
       have := hcP.out
       rw [e0] at this
       exact absurd this (by decide)
      ·exact h0
     have hE2 : Hid (er = if e1 ≠ 0 then e1 else e2) := by
      have a1 := HP.out.1
      have a2 := HQ.out.1
      show _ = _
      rw [← HE.out, pplE, if_neg (by rw [hcP.out]; decide), if_neg (by rw [hcQ.out]; decide), if_neg (by omega)]
     have hd1 := HD1.out W2 LW2.out
     go_wp2_with fail
     refine hd1.mono ?_
     rintro e W3 ⟨As, ns, cs, rfl, qs, _, l3⟩
     have LW3 := Lib.hid (LW2.out.trans l3)
     have HQS := Lib.hid qs
     have HN := Lib.hid (HN.out.later l3)
     clear hd1 qs l3 c13
     by_cases he1 : e1 = 0
     ·subst he1
      have hd2 := HD2.out W3 LW3.out
      go_wp2_with fail
      refine hd2.mono ?_
      rintro e W4 ⟨At, nt, ct, rfl, qt, _, l4⟩
      have LW4 := Lib.hid (LW3.out.trans l4)
      have HQT := Lib.hid qt
      have HQS := Lib.hid (HQS.out.later l4)
      have HN := Lib.hid (HN.out.later l4)
      clear hd2 qt l4
      by_cases he2 : e2 = 0
      ·subst he2
       obtain rfl : 0 = er := by rw [hE2.out]; simp
       obtain rfl : ns = n1 := by rw [← HQS.out.1]; exact Hl1.out (by trivial)
       obtain rfl : nt = ns := by rw [← HQT.out.1]; exact Hl2.out (by trivial)
       go_upto_region 18 with (fail)
       refine name1 (Q := fun W => Code.wp _ _ _ _ W) ?_
       intro W5 l5 _ k17
       obtain ⟨gy, hgy⟩ : ∃ z, W4.heap.size = z := ⟨_, rfl⟩
       rw [hgy] at k17 ⊢
       have LW5 := Lib.hid (LW4.out.trans l5)
       have HN := Lib.hid (HN.out.later l5)
       have qp := HP.out.later LW5.out
       have qq := HQ.out.later LW5.out
       have qs := HQS.out.later l5
       have qt := HQT.out.later l5
       obtain ⟨bp, op, rfl, _⟩ := qp.plain hpos
       obtain ⟨bq, oq, rfl, _⟩ := qq.plain hpos
       obtain ⟨bs, os, rfl, _⟩ := qs.plain hpos
       obtain ⟨bt, ot, rfl, _⟩ := qt.plain hpos
       have hcp := census_iff.1 hcP.out
       have hcq := census_iff.1 hcQ.out
       have hrP : ∀ i, 0 ≤ atI P i ∧ atI P i ≤ 1000000000 := fun i => by
        unfold atI
        cases hx : P[i]? with
        | none => simp
        | some x => exact hcp.2.1 x (List.mem_of_getElem? hx)
       have hrQ : ∀ i, 0 ≤ atI Q i ∧ atI Q i ≤ 1000000000 := fun i => by
        unfold atI
        cases hx : Q[i]? with
        | none => simp
        | some x => exact hcq.2.1 x (List.mem_of_getElem? hx)
       obtain ⟨NN, SQ⟩ := sq_nums hn1
       have HO : ∀ i, i < nt * nt → ∀ w', Lat W5 w' → Calls Tryz.prog 32 #[.int .i64 (i : Int), .pointer (some ⟨gn, 0, none⟩)] w' (fun e w'' => e = .returned (.agg #[.int .i64 ((i / nt : Nat) : Int), .int .i64 ((i % nt : Nat) : Int)]) ∧ Lat w' w'') := by
        intro i hi w' hl'
        have h1 : i / nt < nt := Nat.div_lt_of_lt_mul hi
        have h2 : i % nt < nt := Nat.mod_lt _ hpos
        exact ppl1_any gn i nt (i / nt) (i % nt) w' (by omega) (HN.out.later hl') rfl rfl (by omega) (by omega)
       have HI : ∀ i, i < nt * nt → ∀ w', Lat W5 w' → Calls Tryz.prog 34 #[.agg #[.int .i64 ((i / nt : Nat) : Int), .int .i64 ((i % nt : Nat) : Int)], .pointer (some ⟨gy, 0, none⟩)] w' (fun e w'' => e = .returned (.bool (lossB P Q S T (i / nt) (i % nt))) ∧ Lat w' w'') := by
        intro i hi w' hl'
        have h1 : i / nt < nt := Nat.div_lt_of_lt_mul hi
        have h2 : i % nt < nt := Nat.mod_lt _ hpos
        generalize i / nt = x at h1 ⊢
        generalize i % nt = y at h2 ⊢
        refine ppl2_any gy _ _ _ _ (x : Int) (y : Int) (decide (atI T x < atI S x)) (decide (atI S y < atI T y)) (decide (0 < atI P x ∧ 0 < atI P y ∧ atI Q y * atI P x < atI Q x * atI P y)) w' (k17.later hl') (fun w9 h9 => ?_) (fun w9 h9 => ?_) (fun w9 h9 => ?_)
        ·exact loses_any bp op c1 bs os cs bq oq c2 bt ot ct nt x (atI S x) (atI T x) w9 (by omega) (fun v hv => sl_atI (qs.later ((hl'.trans h9).trans hv)) h1) (fun v hv => sl_atI (qt.later ((hl'.trans h9).trans hv)) h1)
        ·exact wins_any bp op c1 bs os cs bq oq c2 bt ot ct nt y (atI S y) (atI T y) w9 (by omega) (fun v hv => sl_atI (qs.later ((hl'.trans h9).trans hv)) h2) (fun v hv => sl_atI (qt.later ((hl'.trans h9).trans hv)) h2)
        ·exact faster_any bp op c1 bs os cs bq oq c2 bt ot ct nt x y (atI P x) (atI P y) (atI Q x) (atI Q y) w9 (by omega) (by omega) (fun v hv => sl_atI (qp.later ((hl'.trans h9).trans hv)) h1) (fun v hv => sl_atI (qp.later ((hl'.trans h9).trans hv)) h2) (fun v hv => sl_atI (qq.later ((hl'.trans h9).trans hv)) h1) (fun v hv => sl_atI (qq.later ((hl'.trans h9).trans hv)) h2) (hrP x) (hrP y) (hrQ x) (hrQ y)
       have hF := filt22_any (fun i => lossB P Q S T (i / nt) (i % nt)) (fun i => ((i / nt : Nat) : Int)) (fun i => ((i % nt : Nat) : Int)) gn gy (nt * nt) (by rw [SQ.is]; exact Nat.le_trans SQ.le (by decide)) W5 HO HI
       rw [SQ.is] at hF
       have c13 := HN.out.cell 0
       have w1 := SQ.w1
       have w2 := SQ.w2
       have HNNe := Lib.hid SQ.is
       have HF := Lib.hid hF
       clear HO HI hrP hrQ hcp hcq k17 qp qq qs qt hF SQ l5 hgy
       go_wp2_with fail
       refine HF.out.mono ?_
       rintro e W6 ⟨v, rfl, hown, l6⟩
       have hown2 : Hid (OwnM W6 w.heap.size 56 2 v (prs L)) := by
        have e9 : L = filtP (fun i => lossB P Q S T (i / nt) (i % nt)) (fun i => ((i / nt : Nat) : Int)) (fun i => ((i % nt : Nat) : Int)) NN := by
         rw [← HL.out, pplL, if_pos HE.out, pplF, HP.out.1, HNNe.out]
        rw [e9]
        exact Px.own_low hown LW5.out.size
       have LW6 := Lib.hid (LW5.out.trans l6)
       clear hown l6 c13 w1 w2
       go_wp2
       go_ret2
       exact ⟨v, rfl, hown2.out, LW6.out⟩
      ·obtain rfl : e2 = er := by rw [hE2.out]; simp
       obtain rfl := hLn.out he2
       have hb : (e2 == 0) = false := by simpa using he2
       go_wp2
       go_ret2
       exact PrsPost.no _ _ _ LW4.out
     ·obtain rfl : e1 = er := by rw [hE2.out, if_pos he1]
      obtain rfl := hLn.out he1
      have hb : (e1 == 0) = false := by simpa using he1
      go_wp2
      go_ret2
      exact PrsPost.no _ _ _ LW3.out
    ·obtain rfl : 2 = er := by
      have a1 := HP.out.1
      have a2 := HQ.out.1
      rw [← HE.out, pplE, if_neg (by rw [hcP.out]; decide), if_neg (by rw [hcQ.out]; decide), if_pos (by omega)]
     obtain rfl := hLn.out (by decide)
     have hnb : ((n1 : Int) == (n2 : Int)) = false := by simp; omega
     go_wp2
     go_ret2
     exact PrsPost.no _ _ _ LW2.out
end Go.Proofs.YteocdndanehpnaaGreat
namespace Go.Proofs.YteocdndanehpnaaGreat
open Go.RowKit
set_option linter.unusedSimpArgs false
set_option linter.unusedVariables false
theorem Px.ownI_low {w : World} {B B' : Nat} {E : TypeId} {k : IntKind} {v : Value} {xs : List Int} (h : Own w B E k v xs) (hB : B' ≤ B) : Own w B' E k v xs := by
 obtain ⟨h1, h2⟩ := h
 refine ⟨h1, ?_⟩
 rcases h2 with h2 | ⟨g, cap, cur, e, hb, r⟩
 ·exact .inl h2
 ·exact .inr ⟨g, cap, cur, e, Nat.le_trans hB hb, r⟩
theorem wpList_glueI {P : Program} {ops : Array Oper} {rest : List Oper} {o : Oper} {a : Act} {Q : Exit → Act → World → Prop} (hgd : o.guard = none) (s x : Operand) (t : TypeId)
  (ho : o.op = .call { callee := .builtin .append, args := #[s, x], argTypes := #[t, t] })
  (B : Nat) (E : TypeId) (k : IntKind) (by_ : Nat) (ht : P.underlying t = some (.slice E)) (hinfo : (P.info? E).map (fun i => (i.zero, i.size, i.bytes)) = some (some (.int k 0), 1, by_)) (hby : by_ ≤ 8)
  (v : Value) (os xs : List Int) (w : World) (hs : a.eval s = v) (hown : Own w B E k v os)
  (ad : Addr) (n c : Nat) (hx : a.eval x = .slice (some ad) n c) (hxs : Sl w k (some ad) n xs) (hlen : os.length + n ≤ 17000000000000) (hB : B ≤ w.heap.size)
  (h : ∀ v' w', Own w' B E k v' (os ++ xs) → (∀ W0, Lat W0 w → W0.heap.size ≤ B → Lat W0 w') → wpList P ops Q rest (a.put o.dst v') w') : wpList P ops Q (o :: rest) a w := by
 obtain ⟨i0, hi, hz0, hz1, hz2⟩ := info_parts hinfo
 have hl := hxs.1
 refine wpList_plain hgd fun _ hK => wp_append_own w s x t ho B E i0 (.int k 0) 1 by_ ht hi hz0 hz1 hz2 rfl (by decide) v os.length _ hs hown ad n c (xs.map (Value.int k)) hx (by simp [hl]) ?_ ?_ ?_ ?_ hB ?_
 ·intro j u hu
  have hj : j < n := by
   have := (List.getElem?_eq_some_iff.1 hu).1
   simpa [hl] using this
  obtain ⟨a', e, _, hc⟩ := hxs.2 (by omega)
  cases e
  rw [List.getElem?_map] at hu
  cases hxj : xs[j]? with
  | none => rw [hxj] at hu; cases hu
  | some y => rw [hxj] at hu; cases hu; exact hc j y hxj
 ·exact ints_oneCell _ _
 ·unfold maxLen; omega
 ·have := Nat.mul_le_mul_left (os.length + n) hby; omega
 ·intro v' w' h1 h2 _
  refine hK _ _ (h v' w' ?_ (fun W0 hl' hle => Own.lat hown hl' hle h2))
  unfold Own
  rw [List.length_append, List.map_append, hl]
  exact h1
set_option maxRecDepth 100000 in
set_option maxHeartbeats 4000000 in
theorem joined_any (A : Option Addr) (n c : Nat) (P : List Int) (ad : Addr) (m c2 : Nat) (X : List Int) (w : World) (hs : Sl w .i64 A n P) (hx : Sl w .i64 (some ad) m X) (hn : 0 < n) (hn2 : n ≤ 1000) (hm : m ≤ 1000) :
  Calls Tryz.prog 38 #[.slice A n c, .slice (some ad) m c2] w (fun e w' => ∃ v, e = .returned v ∧ Own w' w.heap.size 3 .i64 v (P ++ X) ∧ Lat w w') := by
 have HC := cloneOwn_any A n c P w hs hn (by omega)
 have hl := hs.1
 have HX := Lib.hid hx
 clear hs hx
 go_enter Tryz.func38, Tryz.ntmps38
 go_wp2_with fail
 refine HC.mono ?_
 rintro e w1 ⟨v, rfl, ho, l1⟩
 have HO := Lib.hid ho
 have HL := Lib.hid hl
 clear ho HC hl
 go_wp2_with (at_builtin; refine wpList_glueI rfl _ _ 29 (by rfl) w.heap.size 3 .i64 8 Tryz.underlying29 infoI64 (by decide) v P X w1 (by rfl) HO.out ad m c2 (by rfl) (HX.out.later l1) (by rw [HL.out]; omega) l1.size ?_; intro v' w' own' hlat; obtain ⟨A', c9, rfl, _⟩ := own'.form; have HW : Hid (Own w' w.heap.size 3 .i64 (.slice A' (P.length + X.length) c9) (P ++ X)) := (by have e9 : (P ++ X).length = P.length + X.length := List.length_append; rw [e9] at own'; exact own'); have HW2 := Lib.hid (hlat w l1 (Nat.le_refl _)); clear own' hlat)
 go_ret
 exact ⟨_, rfl, HW.out, HW2.out⟩
def arrE (P : List Int) (s x m e1 e2 : Int) (T : List Int) : Int :=
 if e1 ≠ 0 then e1 else if ¬ (1 ≤ x ∧ x ≤ 1000000000 ∧ 1 ≤ m ∧ m ≤ 1000 - s ∧ P.length ≠ 60) then 2 else if e2 ≠ 0 then e2 else if atI T P.length ≠ m then 4 else 0
def arrL (P S T : List Int) (s x m e1 e2 : Int) : List Int := if arrE P s x m e1 e2 T = 0 then filtN (fun i => !(atI S i == atI T i)) P.length else []
def IntsPost (w : World) (L : List Int) (er : Int) (e : Ending) (w' : World) : Prop :=
 ∃ v, e = .returned (.tuple #[v, .int .i64 er]) ∧ Own w' w.heap.size 3 .i64 v L ∧ Lat w w'
theorem IntsPost.no (w w' : World) (er : Int) (h : Lat w w') : IntsPost w [] er (.returned (.tuple #[.slice none 0 0, .int .i64 er])) w' := ⟨_, rfl, Own.nil _ _ _ _, h⟩
set_option maxRecDepth 100000 in
set_option maxHeartbeats 8000000 in
theorem arrival_any (A1 : Option Addr) (n1 c1 : Nat) (P : List Int) (s k x m e1 e2 : Int) (S T : List Int) (w : World) (hP : Sl w .i64 A1 n1 P) (hn1 : n1 ≤ 60)
  (HD1 : ∀ w', Lat w w' → Calls Tryz.prog 20 #[.slice A1 n1 c1, .int .i64 s, .int .i64 k] w' (DecPost w' S e1))
  (HD2 : ∀ A' c' w', Lat w w' → Sl w' .i64 A' (n1 + 1) (P ++ [x]) → Calls Tryz.prog 20 #[.slice A' (n1 + 1) c', .int .i64 (s + m), .int .i64 k] w' (DecPost w' T e2))
  (hl1 : e1 = 0 → S.length = n1 ∧ 0 < n1 ∧ 1 ≤ s ∧ s ≤ 1000) (hl2 : e2 = 0 → T.length = n1 + 1) :
  Calls Tryz.prog 16 #[.slice A1 n1 c1, .int .i64 s, .int .i64 k, .int .i64 x, .int .i64 m] w (IntsPost w (arrL P S T s x m e1 e2) (arrE P s x m e1 e2 T)) := by
 obtain ⟨er, her⟩ : ∃ er, arrE P s x m e1 e2 T = er := ⟨_, rfl⟩
 obtain ⟨L, hL⟩ : ∃ L, arrL P S T s x m e1 e2 = L := ⟨_, rfl⟩
 rw [her, hL]
 have hLn : Hid (er ≠ 0 → L = []) := fun h => by rw [← hL, arrL, her, if_neg h]
 have HE := Lib.hid her
 have HL := Lib.hid hL
 have HP := Lib.hid hP
 have HD1 := Lib.hid HD1
 have HD2 := Lib.hid HD2
 have Hl1 := Lib.hid hl1
 have Hl2 := Lib.hid hl2
 clear her hL hP hl1 hl2
 have hd1 := HD1.out w (Lat.refl _)
 go_enter Tryz.func16, Tryz.ntmps16
 go_wp2_with fail
 refine hd1.mono ?_
 rintro e W3 ⟨As, ns, cs, rfl, qs, _, l3⟩
 clear hd1
 go_upto_region 2 with (fail)
 refine name1 (Q := fun W => Code.wp _ _ _ _ W) ?_
 intro W4 l4 _ k12
 obtain ⟨ga, hga⟩ : ∃ z, W3.heap.size = z := ⟨_, rfl⟩
 rw [hga] at k12 ⊢
 have LW4 := Lib.hid (l3.trans l4)
 have HQS := Lib.hid (qs.later l4)
 have HK12 := Lib.hid k12
 clear hga k12 l3 l4 qs
 by_cases he1 : e1 = 0
 ·subst he1
  obtain ⟨hsl, hpos, hs1, hs2⟩ := Hl1.out rfl
  obtain rfl : ns = n1 := by rw [← HQS.out.1]; exact hsl
  clear hsl
  have e5 : wrap64 (1000 - s) = 1000 - s := IntWalk.wrap64_in _ (by omega)
  have e6 : IntKind.i64.wrap (1000 - s) = 1000 - s := IntWalk.i64_in _ (by omega)
  by_cases hok : 1 ≤ x ∧ x ≤ 1000000000 ∧ 1 ≤ m ∧ m ≤ 1000 - s ∧ ns ≠ 60
  ·obtain ⟨x1, x2, m1, m2, n60⟩ := hok
   have b1 : decide (x < 1) = false := by simp; omega
   have b2 : decide (1000000000 < x) = false := by simp; omega
   have b3 : decide (m < 1) = false := by simp; omega
   have b4 : decide (1000 - s < m) = false := by simp; omega
   have b5 : ((ns : Int) == 60) = false := by simp; omega
   have e7 : wrap64 (s + m) = s + m := IntWalk.wrap64_in _ (by omega)
   have e8 : IntKind.i64.wrap (s + m) = s + m := IntWalk.i64_in _ (by omega)
   have hE2 : Hid (er = if e2 ≠ 0 then e2 else if atI T ns ≠ m then 4 else 0) := by
    show _ = _
    rw [← HE.out, arrE, if_neg (by simp), if_neg (by rw [HP.out.1]; exact fun h => h ⟨x1, x2, m1, m2, n60⟩), HP.out.1]
   clear x1 x2 m1 m2 n60
   go_wp2_with fail
   refine name1 (Q := fun W => Calls _ _ _ W _) ?_
   intro W5 l5 hs5 k51
   obtain ⟨gx, hgx⟩ : ∃ z, W4.heap.size = z := ⟨_, rfl⟩
   rw [hgx] at k51 ⊢
   have LW5 := Lib.hid (LW4.out.trans l5)
   have hsl := joined_any A1 ns c1 P ⟨gx, 0, none⟩ 1 1 [x] W5 (HP.out.later LW5.out) (Sl.of_blk' (t := 3) k51 rfl) hpos (by omega) (by decide)
   have HQS := Lib.hid (HQS.out.later l5)
   have HK12 := Lib.hid (HK12.out.later l5)
   clear hgx hs5 k51 l5
   refine hsl.mono ?_
   rintro e W6 ⟨v, rfl, own, l6⟩
   obtain ⟨Aj, cj, rfl, sj, _⟩ := own.form
   have ej : (P ++ [x]).length = ns + 1 := by rw [List.length_append, HP.out.1]; rfl
   rw [ej] at sj ⊢
   have LW6 := Lib.hid (LW5.out.trans l6)
   have HQS := Lib.hid (HQS.out.later l6)
   have HK12 := Lib.hid (HK12.out.later l6)
   have hd2 := HD2.out Aj cj W6 LW6.out sj
   clear hsl own sj l6 ej
   go_wp2_with fail
   refine hd2.mono ?_
   rintro e W7 ⟨At, nt, ct, rfl, qt, _, l7⟩
   clear hd2
   go_upto_region 8 with (fail)
   refine name1 (Q := fun W => Code.wp _ _ _ _ W) ?_
   intro W8 l8 _ k15
   obtain ⟨gb, hgb⟩ : ∃ z, W7.heap.size = z := ⟨_, rfl⟩
   rw [hgb] at k15 ⊢
   have l78 := l7.trans l8
   have LW8 := Lib.hid (LW6.out.trans l78)
   have HQS := Lib.hid (HQS.out.later l78)
   have HK12 := Lib.hid (HK12.out.later l78)
   have HQT := Lib.hid (qt.later l8)
   have HK15 := Lib.hid k15
   clear hgb k15 l7 l8 l78 qt e5 e6 e7 e8
   by_cases he2 : e2 = 0
   ·subst he2
    obtain rfl : nt = ns + 1 := by rw [← HQT.out.1]; exact Hl2.out (by trivial)
    obtain ⟨bs, os, rfl, _⟩ := HQS.out.plain hpos
    obtain ⟨bt, ot, rfl, _⟩ := HQT.out.plain (Nat.succ_pos _)
    have cB := HK15.out.cell 0
    have cT := sl_atI HQT.out (Nat.lt_succ_self ns)
    have hnI : (ns : Int) < ((ns + 1 : Nat) : Int) := by omega
    by_cases hbm : atI T ns = m
    ·obtain rfl : 0 = er := by rw [hE2.out, if_neg (by simp), if_neg (by simp [hbm])]
     have hbb : (atI T ns == m) = true := by simpa using hbm
     have HI : ∀ i, i < ns → ∀ w', Lat W8 w' → Calls Tryz.prog 41 #[.int .i64 (i : Int), .pointer (some ⟨ga, 0, none⟩), .pointer (some ⟨gb, 0, none⟩)] w' (fun e w'' => e = .returned (.bool (!(atI S i == atI T i))) ∧ Lat w' w'') := by
      intro i hi w' hl'
      exact arr2_any ga gb bs os cs bt ot ct ns (ns + 1) i (atI S i) (atI T i) w' (by omega) (by omega) (HK12.out.later hl') (HK15.out.later hl') (fun v hv => sl_atI (HQS.out.later (hl'.trans hv)) hi) (fun v hv => sl_atI (HQT.out.later (hl'.trans hv)) (by omega))
     have HF := Lib.hid (filt1_any (fun i => !(atI S i == atI T i)) ga gb ns (by omega) W8 HI)
     clear HI
     go_wp2_with fail
     refine HF.out.mono ?_
     rintro e W9 ⟨v, rfl, own, l9⟩
     have hown : Hid (Own W9 w.heap.size 3 .i64 v L) := by
      have e9 : L = filtN (fun i => !(atI S i == atI T i)) ns := by rw [← HL.out, arrL, if_pos HE.out, HP.out.1]
      rw [e9]
      exact Px.ownI_low own LW8.out.size
     have LW9 := Lib.hid (LW8.out.trans l9)
     clear own l9 cB cT
     go_wp2
     go_ret2
     exact ⟨v, rfl, hown.out, LW9.out⟩
    ·obtain rfl : 4 = er := by rw [hE2.out, if_neg (by simp), if_pos hbm]
     obtain rfl := hLn.out (by decide)
     have hbb : (atI T ns == m) = false := by simpa using hbm
     go_wp2
     go_ret2
     exact IntsPost.no _ _ _ LW8.out
   ·obtain rfl : e2 = er := by rw [hE2.out, if_pos he2]
    obtain rfl := hLn.out he2
    have hb : (e2 == 0) = false := by simpa using he2
    go_wp2
    go_ret2
    exact IntsPost.no _ _ _ LW8.out
  ·obtain rfl : 2 = er := by rw [← HE.out, arrE, if_neg (by simp), if_pos (by rw [HP.out.1]; exact hok)]
   obtain rfl := hLn.out (by decide)
   by_cases x1 : x < 1
   ·clear e5 e6 hok
    go_wp2
    go_ret2
    exact IntsPost.no _ _ _ LW4.out
   ·have b1 : decide (x < 1) = false := by simp; omega
    by_cases x2 : 1000000000 < x
    ·clear e5 e6 hok
     go_wp2
     go_ret2
     exact IntsPost.no _ _ _ LW4.out
    ·have b2 : decide (1000000000 < x) = false := by simp; omega
     by_cases m1 : m < 1
     ·clear e5 e6 hok
      go_wp2
      go_ret2
      exact IntsPost.no _ _ _ LW4.out
     ·have b3 : decide (m < 1) = false := by simp; omega
      by_cases m2 : 1000 - s < m
      ·clear hok
       go_wp2
       go_ret2
       exact IntsPost.no _ _ _ LW4.out
      ·have b4 : decide (1000 - s < m) = false := by simp; omega
       have n60 : (ns : Int) = 60 := by omega
       have b5 : ((ns : Int) == 60) = true := by simp; omega
       clear hok n60
       go_wp2
       go_ret2
       exact IntsPost.no _ _ _ LW4.out
 ·obtain rfl : e1 = er := by rw [← HE.out, arrE, if_pos he1]
  obtain rfl := hLn.out he1
  have hb : (e1 == 0) = false := by simpa using he1
  go_wp2
  go_ret2
  exact IntsPost.no _ _ _ LW4.out
end Go.Proofs.YteocdndanehpnaaGreat
