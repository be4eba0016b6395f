/- Several texts in one: RdCr. -/
import Derived.Test.YtpmbglhbcjbkcaaGreatH46
import Derived.Test.YtpmbglhbcjbkcaaGreatH38
namespace Go.Proofs.YtpmbglhbcjbkcaaGreat
set_option maxHeartbeats 16000000
set_option maxRecDepth 100000
open Go.RowKit
set_option linter.unusedSimpArgs false
set_option linter.unusedVariables false
theorem ziJ (t u : Tmp) (x y : Value) : (#[t, u] : Array Tmp).zip #[x, y] = #[(t, x), (u, y)] := by
 apply Array.ext'
 rw [Array.toList_zip]
 rfl
theorem zcR {w : World} {b : Nat} {r : Loop} (h : w.heap[b]? = some (.loop r)) : ∀ i s, w.cell? ⟨b, i, s⟩ = none := by
 intro i s
 unfold World.cell?
 simp only [h]
theorem zfs (A : Option Addr) (n c : Nat) (w : World) : Calls Tryz.prog 50 #[.slice A n c] w (fun e w' => e = .returned (.func (.func 91) #[] #[.pointer (some ⟨w.heap.size, 0, none⟩)]) ∧ Lat w w' ∧ Blk w' w.heap.size 27 #[.slice A n c]) := by
 go_enter Tryz.func50, Tryz.ntmps50
 go_wp2
 refine zas (Q := fun W => bodyPost _ _ _ _ _ W) ?_
 intro W hl hs k1
 go_ret
 exact ⟨rfl, hl, k1⟩
structure CmS (w5 : World) (g4 g5 g8 gr : Nat) (A : Option Addr) : Prop where
 a : g4 < w5.heap.size
 b : g5 < w5.heap.size
 c : g8 < w5.heap.size
 d : gr < w5.heap.size
 n45 : g4 ≠ g5
 n84 : g8 ≠ g4
 n85 : g8 ≠ g5
 nr4 : gr ≠ g4
 nr5 : gr ≠ g5
 hA : ∀ ad, A = some ad → ad.block < w5.heap.size ∧ ad.block ≠ g4 ∧ ad.block ≠ g5
structure CmF (w5 : World) (g4 g5 g8 gr : Nat) (A : Option Addr) (n c : Nat) (L : List (Int × Int)) (x0 : Bool) (xA : Option Addr) (xn xc : Nat) (z0 : Bool) (zA : Option Addr) (zn zc : Nat) (x z : Int) (r : Loop) (s e : Int) (W : World) : Prop where
 l : W.heap[w5.heap.size + 1]? = some (.loop r)
 d : W.heap[w5.heap.size]? = some (.deferred (some []))
 k4 : Blk W g4 3 #[.int .i64 s]
 k5 : Blk W g5 28 #[.int .i64 e]
 k8 : Blk W g8 94 #[.bool x0, .slice xA xn xc, .bool z0, .slice zA zn zc]
 kr : Blk W gr 27 #[.slice A n c]
 row : RowM W A 2 n (zab L)
 rx : Lg W x0 xA xn xc x
 rz : Lg W z0 zA zn zc z
 lp : LatP (fun k => k = g4 ∨ k = g5) w5 W
section
variable {w5 W W' : World} {g4 g5 g8 gr : Nat} {A : Option Addr} {n c : Nat} {L : List (Int × Int)} {x0 : Bool} {xA : Option Addr} {xn xc : Nat} {z0 : Bool} {zA : Option Addr} {zn zc : Nat} {x z : Int} {r : Loop} {s e : Int}
theorem CmF.later (h : CmF w5 g4 g5 g8 gr A n c L x0 xA xn xc z0 zA zn zc x z r s e W) (hl : Lat W W') : CmF w5 g4 g5 g8 gr A n c L x0 xA xn xc z0 zA zn zc x z r s e W' :=
 ⟨(Below.block hl _ (zaw h.l)).trans h.l, (Below.block hl _ (zaw h.d)).trans h.d, h.k4.later hl, h.k5.later hl, h.k8.later hl, h.kr.later hl, h.row.later hl, h.rx.later hl, h.rz.later hl, h.lp.trans (hl.p _)⟩
theorem CmF.put (h : CmF w5 g4 g5 g8 gr A n c L x0 xA xn xc z0 zA zn zc x z r s e W) (hs : CmS w5 g4 g5 g8 gr A) (r2 : Loop) : CmF w5 g4 g5 g8 gr A n c L x0 xA xn xc z0 zA zn zc x z r2 s e (W.putObj (w5.heap.size + 1) (.loop r2)) := by
 obtain ⟨h1, h2, h3, h4, h5, h6, h7, h8, h9, lp⟩ := h
 obtain ⟨a, b, cc, d, _, _, _, _, _, hA⟩ := hs
 have hl := zbj (o := .loop r2) (zaw h1)
 have hno := zcR h1
 exact ⟨zcZ (zaw h1), hl.at_ h2 (by omega), h3.keepP hl (by omega), h4.keepP hl (by omega), h5.keepP hl (by omega), h6.keepP hl (by omega),
  h7.kept hl.size (fun ad e => hl.block _ (Nat.lt_of_lt_of_le (hA ad e).1 lp.size) (by have := (hA ad e).1; omega)), h8.offB hl hno, h9.offB hl hno,
  ⟨hl.os.trans lp.os, hl.tape.trans lp.tape, hl.output.trans lp.output, Nat.le_trans lp.size hl.size, fun k hk hm => (hl.block k (Nat.lt_of_lt_of_le hk lp.size) (by omega)).trans (lp.block k hk hm)⟩⟩
theorem CmF.set (h : CmF w5 g4 g5 g8 gr A n c L x0 xA xn xc z0 zA zn zc x z r s e W) (hs : CmS w5 g4 g5 g8 gr A) (s2 e2 : Int) :
  CmF w5 g4 g5 g8 gr A n c L x0 xA xn xc z0 zA zn zc x z r s2 e2 ((W.setCell ⟨g4, 0, none⟩ (.int .i64 s2)).setCell ⟨g5, 0, none⟩ (.int .i64 e2)) := by
 obtain ⟨h1, h2, h3, h4, h5, h6, h7, h8, h9, lp⟩ := h
 obtain ⟨a, b, cc, d, n45, n84, n85, nr4, nr5, hA⟩ := hs
 refine zdK (Q := fun W => CmF w5 g4 g5 g8 gr A n c L x0 xA xn xc z0 zA zn zc x z r s2 e2 (W.setCell ⟨g5, 0, none⟩ (.int .i64 e2))) h3 ?_
 intro W1 j4 _ _ l1
 have j5 := h4.keepP l1 (fun e => n45 e.symm)
 have x1 := h8.keepL l1 h3 (by intro j y; match j with | 0 => simp | j + 1 => simp)
 have z1 := h9.keepL l1 h3 (by intro j y; match j with | 0 => simp | j + 1 => simp)
 refine zdK (Q := fun W => CmF w5 g4 g5 g8 gr A n c L x0 xA xn xc z0 zA zn zc x z r s2 e2 W) j5 ?_
 intro W2 i5 _ _ l2
 have i4 := j4.keepP l2 n45
 have hl : LatP (fun k => k = g4 ∨ k = g5) W W2 := (l1.wider (fun k h => .inl h)).trans (l2.wider (fun k h => .inr h))
 have hz := lp.size
 exact ⟨hl.at_ h1 (by omega), hl.at_ h2 (by omega), by simpa using i4, by simpa using i5, h5.keepP hl (by omega), h6.keepP hl (by omega),
  h7.kept hl.size (fun ad e => hl.block _ (Nat.lt_of_lt_of_le (hA ad e).1 lp.size) (by have := hA ad e; omega)), x1.keepL l2 j5 (by intro j y; match j with | 0 => simp | j + 1 => simp), z1.keepL l2 j5 (by intro j y; match j with | 0 => simp | j + 1 => simp), lp.trans hl⟩
theorem CmF.outD (h : CmF w5 g4 g5 g8 gr A n c L x0 xA xn xc z0 zA zn zc x z r s e W) (hs : CmS w5 g4 g5 g8 gr A) :
  Blk (W.putObj w5.heap.size (.deferred none)) g4 3 #[.int .i64 s] ∧ Blk (W.putObj w5.heap.size (.deferred none)) g5 28 #[.int .i64 e] ∧ LatP (fun k => k = g4 ∨ k = g5) w5 (W.putObj w5.heap.size (.deferred none)) := by
 obtain ⟨h1, h2, h3, h4, h5, h6, h7, h8, h9, lp⟩ := h
 obtain ⟨a, b, cc, d, n45, n84, n85, nr4, nr5, hA⟩ := hs
 have hl := zbj (o := .deferred none) (zaw h2)
 exact ⟨h3.keepP hl (by omega), h4.keepP hl (by omega), ⟨hl.os.trans lp.os, hl.tape.trans lp.tape, hl.output.trans lp.output, Nat.le_trans lp.size hl.size, fun k hk hm => (hl.block k (Nat.lt_of_lt_of_le hk lp.size) (by omega)).trans (lp.block k hk hm)⟩⟩
end
theorem zdQ {W : World} {g h : Nat} {s r : Int} {T : Array Value} (h4 : T[4]? = some (.pointer (some ⟨g, 0, none⟩))) (h5 : T[5]? = some (.pointer (some ⟨h, 0, none⟩))) (k4 : Blk W g 3 #[.int .i64 s]) (k5 : Blk W h 28 #[.int .i64 r]) :
  (results Tryz.f14 T).run Tryz.prog W = .ok (.tuple #[.int .i64 s, .int .i64 r]) W := by
 have c4 := k4.cell 0
 have c5 := k5.cell 0
 simp at c4 c5
 unfold results
 rw [Tryz.results14]
 simp [h4, h5, asAddr, go_sem, c4, c5]
theorem zg6 {j k : Nat} (h : za1[j]? = some k) : za1.drop j = k :: za1.drop (j + 1) := by
 obtain ⟨h1, h2⟩ := List.getElem?_eq_some_iff.1 h
 rw [List.drop_eq_getElem_cons h1, h2]
theorem zft (z : Int) : 0 < zaq z ↔ 0 < z := by
 unfold zaq
 split
 ·simp; omega
 ·split
  ·simp; omega
  ·simp; omega
theorem zlm (A : Option Addr) (n c : Nat) (L : List (Int × Int)) (u v : W8) (hu : u.ok) (hv : v.ok) (w : World) (hs : RowM w A 2 n (zab L)) (hn : n ≤ 1000000) (hL : ValidR L) (hok : zhk u.toInt v.toInt) (h2 : 2 ≤ n) :
  Calls Tryz.prog 14 #[.slice A n c, .agg (W8.two u v)] w (zm5 w (zey L u.toInt v.toInt)) := by
 have hlen := zbA hs
 have hn3 : n ≤ 1000 := by have := hL.len; omega
 have hval : ∀ x ∈ L, (-9223372036854775808 ≤ x.1 ∧ x.1 < 9223372036854775808) ∧ 0 ≤ x.2 ∧ x.2 < 9223372036854775808 := fun x hx => by
  obtain ⟨h1, h2, h3, h4, h5⟩ := hL.term x hx
  unfold zbo at h4
  omega
 have HVAL := Lib.hid hval
 have HN3 := Lib.hid hn3
 have HE := Lib.hid (zdg hL hok (by intro e; rw [e] at hlen; simp at hlen; omega) (by intro t e; rw [e] at hlen; simp at hlen; omega))
 have hg0 : ((n : Int) == 0) = false := by simp; omega
 have hg1 : ((n : Int) == 1) = false := by simp; omega
 have hclr := True.intro
 have HC := Lib.hid (fun w' (h : Lat w w') => by have := zaP A n c L w' (hs.later h) hn; rwa [zaG hL] at this)
 have HSC := Lib.hid (fun w => zcr u v hu hv hok w)
 have HRD := Lib.hid (fun w => zbn u v hu hv w)
 have HS := Lib.hid hs
 have HA : Hid (∀ ad, A = some ad → ad.block < w.heap.size) := fun ad e => by
  obtain ⟨g, o, x, e2, h, _⟩ := hs.at (i := 0) (by omega)
  rw [e2] at e
  cases e
  exact h
 clear hs hL hok hn hval hn3 hlen hclr h2
 refine zcB Tryz.func14 rfl ?_
 simp only [Tryz.ntmps14, List.size_toArray, List.length_cons, List.length_nil, Nat.reduceAdd, Nat.reduceSub, Array.replicate_succ, Array.replicate_zero, List.push_toArray, List.append_toArray, List.nil_append, List.cons_append]
 go_wp2_with fail
 refine za0 (Q := fun W => Calls _ _ _ W _) ?_
 intro W hl hsz k3 k4 k5
 obtain ⟨g5, hg5⟩ : ∃ z, w.heap.size + 1 + 1 = z := ⟨_, rfl⟩
 obtain ⟨g4, hg4⟩ : ∃ z, w.heap.size + 1 = z := ⟨_, rfl⟩
 obtain ⟨g3, hg3⟩ : ∃ z, w.heap.size = z := ⟨_, rfl⟩
 have HG : Hid (g3 < g4 ∧ g4 < g5 ∧ w.heap.size = g3) := by show g3 < g4 ∧ g4 < g5 ∧ w.heap.size = g3; omega
 rw [hg5] at k5 ⊢
 rw [hg4] at k4 ⊢
 rw [hg3] at k3 ⊢
 clear hg5 hg4 hg3 hsz
 refine (HC.out W hl).mono ?_
 rintro e w1 ⟨rfl, l1⟩
 replace k3 := k3.later l1
 replace k4 := k4.later l1
 replace k5 := k5.later l1
 have L1 := hl.trans l1
 clear hl l1 HC
 go_wp2_with (refine zaW (by rfl) 40 (.tmp 3) (by rfl) g3 (by rfl) k3 _ Tryz.underlying40 rfl zao ?_)
 refine (HSC.out w1).mono ?_
 rintro e w2 ⟨rfl, l2⟩
 replace k3 := k3.later l2
 replace k4 := k4.later l2
 replace k5 := k5.later l2
 replace L1 := L1.trans l2
 clear l2 HSC
 go_wp2_with (refine zaW (by rfl) 40 (.tmp 3) (by rfl) g3 (by rfl) k3 _ Tryz.underlying40 rfl zao ?_)
 refine (HRD.out w2).mono ?_
 rintro e w3 ⟨x0, xA, xn, xc, z0, zA, zn, zc, rfl, rx, mx, rz, mz, l3⟩
 replace k4 := k4.later l3
 replace k5 := k5.later l3
 replace L1 := L1.trans l3
 clear l3 HRD k3
 go_wp2_with fail
 refine zas (Q := fun W => Calls _ _ _ W _) ?_
 intro w4 la hsx k8
 obtain ⟨g8, hg8⟩ : ∃ z, w3.heap.size = z := ⟨_, rfl⟩
 have HG8 : Hid (g5 < g8) := by have := k5.lt; show g5 < g8; omega
 rw [hg8] at k8 ⊢
 replace k4 := k4.later la
 replace k5 := k5.later la
 replace rx := rx.later la
 replace rz := rz.later la
 replace L1 := L1.trans la
 clear la hsx hg8 hg0 hg1
 have HCL := zfs A n c w4
 refine HCL.mono ?_
 rintro e w5 ⟨rfl, la, kr⟩
 obtain ⟨gr, hgr⟩ : ∃ z, w4.heap.size = z := ⟨_, rfl⟩
 have HGR : Hid (g8 < gr) := by have := k8.lt; show g8 < gr; omega
 rw [hgr] at kr ⊢
 replace k4 := k4.later la
 replace k5 := k5.later la
 replace k8 := k8.later la
 replace rx := rx.later la
 replace rz := rz.later la
 replace L1 := L1.trans la
 clear la HCL hgr
 have row := HS.out.later L1
 have hkr := kr.lt
 have SF : Hid (CmS w5 g4 g5 g8 gr A) := ⟨by have := HG.out; have := HG8.out; have := HGR.out; omega, by have := HG8.out; have := HGR.out; omega, by have := HGR.out; omega, hkr, by have := HG.out; omega, by have := HG.out; have := HG8.out; omega, by have := HG8.out; omega, by have := HG.out; have := HG8.out; have := HGR.out; omega, by have := HG8.out; have := HGR.out; omega, fun ad e => by have := HA.out ad e; have := L1.size; have := HG.out; omega⟩
 have LW := Lib.hid L1
 clear hkr L1
 go_wp2_with fail
 rename_i KN hKN
 refine zc0 (gf := 91) (lb := #[.pointer (some ⟨gr, 0, none⟩)]) (by rfl) (enters_of Tryz.func91 (by kernel_rfl) rfl) ?_
 intro fn W1 hW1
 generalize hrec : zdZ _ fn _ _ _ _ = rec at hW1 ⊢
 have hl1 : Lat w5 W1 := by rw [hW1]; exact (Lat.alloc _ _).trans (Lat.alloc _ _)
 have hI1 : CmF w5 g4 g5 g8 gr A n c L x0 xA xn xc z0 zA zn zc u.toInt v.toInt (rec .ready none) 0 0 W1 := by
  refine ⟨?_, ?_, k4.later hl1, k5.later hl1, k8.later hl1, kr.later hl1, row.later hl1, rx.later hl1, rz.later hl1, hl1.p _⟩
  ·rw [hW1]; have := World.alloc_heap_new (w5.alloc (.deferred (some []))) (.loop (rec .ready none)); rwa [World.size_alloc] at this
  ·rw [hW1]; exact (Below.heap_alloc _ _ _ (by simp)).trans (World.alloc_heap_new w5 _)
 clear hW1 k4 k5 k8 kr row rx rz
 have hY : zhK (w5.heap.size + 1) L (fun j W => zcx L u.toInt v.toInt za1 = zcx L u.toInt v.toInt (za1.drop j) ∧ CmF w5 g4 g5 g8 gr A n c L x0 xA xn xc z0 zA zn zc u.toInt v.toInt (rec .ready none) 0 0 W)
   (fun W => ∃ s, zcx L u.toInt v.toInt za1 = (s, 0) ∧ CmF w5 g4 g5 g8 gr A n c L x0 xA xn xc z0 zA zn zc u.toInt v.toInt (rec .done (some .ret)) s 0 W) := by
  rintro j k V b1 A1 n1 c1 b2 A2 n2 c2 b3 A3 n3 c3 b4 A4 n4 c4 hj hbk ⟨hC, F⟩ r1 m1 r2 m2 r3 m3 r4 m4
  rw [zg6 hbk, zcx] at hC
  have HC := Lib.hid hC
  have q1 := F.l
  rw [← hrec] at q1
  refine zgx (R := fun bb W' => (bb = true ∧ zcx L u.toInt v.toInt za1 = zcx L u.toInt v.toInt (za1.drop (j + 1)) ∧ CmF w5 g4 g5 g8 gr A n c L x0 xA xn xc z0 zA zn zc u.toInt v.toInt (rec .ready none) 0 0 W') ∨
   (bb = false ∧ ∃ s, zcx L u.toInt v.toInt za1 = (s, 0) ∧ CmF w5 g4 g5 g8 gr A n c L x0 xA xn xc z0 zA zn zc u.toInt v.toInt (rec .done (some .ret)) s 0 W')) q1 rfl ?_
  rw [hrec, ziJ]
  clear q1 hC hbk hj
  refine wpIn_seq ?_
  refine zaA (fun ⟨_, _, h⟩ => h) rfl ?_
  simp only [List.size_toArray, List.length_cons, List.length_nil, List.foldl_toArray, List.foldl_cons, List.foldl_nil, List.setIfInBounds_toArray, List.set_cons_zero, List.set_cons_succ]
  go_wp2
  refine zaA (fun ⟨_, _, h⟩ => h) rfl ?_
  go_wp2
  refine zaK (Q := fun W => W.heap[w5.heap.size + 1]? = _ ∧ Code.wpIn _ _ _ _ _ _ (W.putObj _ _)) ?_
  intro V2 la hsv k9 k10
  obtain ⟨g10, hg10⟩ : ∃ z, V.heap.size + 1 = z := ⟨_, rfl⟩
  obtain ⟨g9, hg9⟩ : ∃ z, V.heap.size = z := ⟨_, rfl⟩
  have hD9 : w5.heap.size + 1 < g9 ∧ w5.heap.size + 1 < g10 := by have := zaw F.l; omega
  rw [hg10] at k10 ⊢
  rw [hg9] at k9 ⊢
  replace F := F.later la
  replace r1 := r1.later la
  replace r2 := r2.later la
  replace r3 := r3.later la
  replace r4 := r4.later la
  clear la hsv hg10 hg9
  refine ⟨F.l, ?_⟩
  have hno := zcR F.l
  have hp := zbj (o := .loop (rec .busy none)) (zaw F.l)
  have Fb := F.put SF.out (rec .busy none)
  obtain ⟨Wb, hWb⟩ : ∃ Wb, V2.putObj (w5.heap.size + 1) (.loop (rec .busy none)) = Wb := ⟨_, rfl⟩
  rw [hWb] at Fb hp ⊢
  replace k9 := k9.keepP hp (by omega)
  replace k10 := k10.keepP hp (by omega)
  replace r1 := r1.offB hp hno
  replace r2 := r2.offB hp hno
  replace r3 := r3.offB hp hno
  replace r4 := r4.offB hp hno
  clear hWb F hp hno hD9
  obtain ⟨p, hpd⟩ : ∃ z, zaT (sLo L k) (2 ^ k) * v.toInt - u.toInt * zaU (sLo L k) (2 ^ k) = z := ⟨_, rfl⟩
  obtain ⟨q, hqd⟩ : ∃ z, zaT (sHi L k) (2 ^ k) * v.toInt - u.toInt * zaU (sHi L k) (2 ^ k) = z := ⟨_, rfl⟩
  rw [hpd, hqd] at HC
  have HX1 := Lib.hid (fun W (hl : Lat Wb W) => zbB b1 A1 n1 c1 _ b2 A2 n2 c2 _ x0 xA xn xc _ z0 zA zn zc _ W (r1.later hl) (r2.later hl) (Fb.rx.later hl) (Fb.rz.later hl) (by omega) (by omega) (by omega) (by omega))
  have HX2 := Lib.hid (fun W (hl : Lat Wb W) => zbB b3 A3 n3 c3 _ b4 A4 n4 c4 _ x0 xA xn xc _ z0 zA zn zc _ W (r3.later hl) (r4.later hl) (Fb.rx.later hl) (Fb.rz.later hl) (by omega) (by omega) (by omega) (by omega))
  rw [hpd] at HX1
  rw [hqd] at HX2
  obtain ⟨s1, hs1⟩ : ∃ z, zaq p = z := ⟨_, rfl⟩
  obtain ⟨s2, hs2⟩ : ∃ z, zaq q = z := ⟨_, rfl⟩
  rw [hs1] at HX1
  rw [hs2] at HX2
  have H1 : Hid (0 < s1 ↔ 0 < p) := by show _ ↔ _; rw [← hs1]; exact zft _
  have H2 : Hid (s2 < 0 ↔ q < 0) := by show _ ↔ _; rw [← hs2]; exact zdt _
  clear hpd hqd hs1 hs2 r1 r2 r3 r4 m1 m2 m3 m4
  refine wpIn_block ?_
  refine wpIn_seq ?_
  refine wpIn_seq ?_
  refine zaA (fun ⟨_, _, h⟩ => h) rfl ?_
  have d0 := k9.cell 0
  have d1 := k9.cell 1
  have d2 := k9.cell 2
  have d3 := k9.cell 3
  have e0 := Fb.k8.cell 0
  have e1 := Fb.k8.cell 1
  have e2 := Fb.k8.cell 2
  have e3 := Fb.k8.cell 3
  go_wp2_with fail
  refine (HX1.out Wb (Lat.refl _)).mono ?_
  rintro e Wc ⟨rfl, lc⟩
  clear d0 d1 d2 d3 e0 e1 e2 e3 k9
  replace Fb := Fb.later lc
  replace k10 := k10.later lc
  have HX3 := HX2.out Wc lc
  clear lc HX1 HX2
  by_cases h1 : 0 < s1
  ·have HA1 : Hid (zcx L u.toInt v.toInt za1 = (1, 0)) := HC.out.trans (if_pos (H1.out.1 h1))
   have d4 : Wc.cell? ⟨g4, 0, none⟩ = some (.int .i64 0) := Fb.k4.cell 0
   have d5 : Wc.cell? ⟨g5, 0, none⟩ = some (.int .i64 0) := Fb.k5.cell 0
   have f4 := Fb.k4.frozen 0
   have f5 := Fb.k5.frozen 0
   have ne1 := SF.out.n45
   have ne2 := fun e => ne1 (Eq.symm e)
   have HS1 := Lib.hid (Fb.set SF.out 1 0)
   clear Fb HX3 k10
   go_wp2
   refine wpIn_cond_true (by first | rfl | (show Value.bool (decide (0 < s1)) = Value.bool true; rw [decide_eq_true (by omega)])) ?_
   refine wpIn_seq ?_
   refine zaA (fun ⟨_, _, h⟩ => h) rfl ?_
   go_wp2
   refine wpIn_ret ?_
   exact ⟨HS1.out.l, .inr ⟨rfl, 1, HA1.out, HS1.out.put SF.out _⟩⟩
  ·have HCn : Hid (zcx L u.toInt v.toInt za1 = if q < 0 then (-1, 0) else zcx L u.toInt v.toInt (za1.drop (j + 1))) := HC.out.trans (if_neg (fun h => h1 (H1.out.2 h)))
   clear HC
   go_wp2
   refine wpIn_cond_false (by first | rfl | (show Value.bool (decide (0 < s1)) = Value.bool false; rw [decide_eq_false (by omega)])) (wpIn_skip ?_)
   refine wpIn_seq ?_
   refine zaA (fun ⟨_, _, h⟩ => h) rfl ?_
   have d0 := k10.cell 0
   have d1 := k10.cell 1
   have d2 := k10.cell 2
   have d3 := k10.cell 3
   have e0 := Fb.k8.cell 0
   have e1 := Fb.k8.cell 1
   have e2 := Fb.k8.cell 2
   have e3 := Fb.k8.cell 3
   go_wp2_with fail
   refine HX3.mono ?_
   rintro e Wd ⟨rfl, lc⟩
   clear d0 d1 d2 d3 e0 e1 e2 e3 k10 HX3
   replace Fb := Fb.later lc
   clear lc
   by_cases h2 : s2 < 0
   ·have HA1 : Hid (zcx L u.toInt v.toInt za1 = (-1, 0)) := HCn.out.trans (if_pos (H2.out.1 h2))
    have d4 : Wd.cell? ⟨g4, 0, none⟩ = some (.int .i64 0) := Fb.k4.cell 0
    have d5 : Wd.cell? ⟨g5, 0, none⟩ = some (.int .i64 0) := Fb.k5.cell 0
    have f4 := Fb.k4.frozen 0
    have f5 := Fb.k5.frozen 0
    have ne1 := SF.out.n45
    have ne2 := fun e => ne1 (Eq.symm e)
    have HS1 := Lib.hid (Fb.set SF.out (-1) 0)
    clear Fb
    go_wp2
    refine wpIn_cond_true (by first | rfl | (show Value.bool (decide (s2 < 0)) = Value.bool true; rw [decide_eq_true (by omega)])) ?_
    refine wpIn_seq ?_
    refine zaA (fun ⟨_, _, h⟩ => h) rfl ?_
    go_wp2
    refine wpIn_ret ?_
    exact ⟨HS1.out.l, .inr ⟨rfl, -1, HA1.out, HS1.out.put SF.out _⟩⟩
   ·have HA1 : Hid (zcx L u.toInt v.toInt za1 = zcx L u.toInt v.toInt (za1.drop (j + 1))) := HCn.out.trans (if_neg (fun h => h2 (H2.out.2 h)))
    have HE1 := Lib.hid Fb.l
    have HE2 := Lib.hid (Fb.put SF.out (rec .ready none))
    clear Fb HCn
    go_wp2
    exact wpIn_cond_false (by first | rfl | (show Value.bool (decide (s2 < 0)) = Value.bool false; rw [decide_eq_false (by omega)])) (wpIn_skip ⟨HE1.out, .inl ⟨rfl, HA1.out, HE2.out⟩⟩)
 refine (zex (w5.heap.size + 1) gr A n c L _ _ HVAL.out HN3.out (fun j W h => ⟨h.2.kr, h.2.row⟩) (fun j W W' h hl => ⟨h.1, h.2.later hl⟩) hY W1 ⟨rfl, hI1⟩).mono ?_
 rintro e W9 ⟨r9, rfl, ⟨hC9, F⟩ | ⟨s, hC9, F⟩⟩
 ·refine ⟨r9, rfl, .inl ⟨F.l, ?_⟩⟩
  have FZ := F.put SF.out (rec .exhausted none)
  obtain ⟨Z, hZ⟩ : ∃ Z, W9.putObj (w5.heap.size + 1) (.loop (rec .exhausted none)) = Z := ⟨_, rfl⟩
  rw [hZ] at FZ ⊢
  have d4 : Z.cell? ⟨g4, 0, none⟩ = some (.int .i64 0) := FZ.k4.cell 0
  have d5 : Z.cell? ⟨g5, 0, none⟩ = some (.int .i64 0) := FZ.k5.cell 0
  have f4 := FZ.k4.frozen 0
  have f5 := FZ.k5.frozen 0
  have ne1 := SF.out.n45
  have ne2 := fun e => ne1 (Eq.symm e)
  have HF := Lib.hid (FZ.set SF.out 0 9)
  have HC9 : Hid (zcx L u.toInt v.toInt za1 = (0, 9)) := hC9
  clear FZ hY hI1 hl1 hZ F hC9 hrec
  dsimp only
  refine hKN _ _ ?_
  go_wp2
  obtain ⟨o1, o2, o3⟩ := HF.out.outD SF.out
  refine zcp HF.out.d (v := .tuple #[.int .i64 0, .int .i64 9]) (zdQ rfl rfl o1 o2) ?_
  exact ⟨by rw [HE.out, HC9.out], LatP.lat (M := fun k => k = g4 ∨ k = g5) LW.out o3 (fun k h => by have := HG.out; omega)⟩
 ·refine ⟨r9, rfl, .inr ⟨F.l, ?_⟩⟩
  have FZ := F.put SF.out (rec .exhausted (some .ret))
  obtain ⟨o1, o2, o3⟩ := FZ.outD SF.out
  refine zcp FZ.d (v := .tuple #[.int .i64 s, .int .i64 0]) (zdQ rfl rfl o1 o2) ?_
  exact ⟨by rw [HE.out, hC9], LatP.lat (M := fun k => k = g4 ∨ k = g5) LW.out o3 (fun k h => by have := HG.out; omega)⟩
theorem zln (A : Option Addr) (n c : Nat) (L : List (Int × Int)) (u v : W8) (hu : u.ok) (hv : v.ok) (w : World) (hs : RowM w A 2 n (zab L)) (hn : n ≤ 1000000) (hL : ValidR L) (hok : zhk u.toInt v.toInt) (h2 : 1 = n) (hu1 : ∀ t, L ≠ [(t, 1)]) :
  Calls Tryz.prog 14 #[.slice A n c, .agg (W8.two u v)] w (zm5 w (zey L u.toInt v.toInt)) := by
 have hlen := zbA hs
 have hn3 : n ≤ 1000 := by have := hL.len; omega
 have hval : ∀ x ∈ L, (-9223372036854775808 ≤ x.1 ∧ x.1 < 9223372036854775808) ∧ 0 ≤ x.2 ∧ x.2 < 9223372036854775808 := fun x hx => by
  obtain ⟨h1, h2, h3, h4, h5⟩ := hL.term x hx
  unfold zbo at h4
  omega
 have HVAL := Lib.hid hval
 have HN3 := Lib.hid hn3
 obtain ⟨gq, oq, x, hAe, hgq, hx, c0, c1⟩ := zaL hs (k := 0) (by omega)
 have HE := Lib.hid (zdg hL hok (by intro e; rw [e] at hlen; simp at hlen; omega) hu1)
 simp only [Nat.zero_mul, Nat.add_zero] at c0 c1
 have hu2 : (x.2 == 1) = false := by
  rw [beq_eq_false_iff_ne]
  intro e
  obtain ⟨h3, h4⟩ := List.getElem?_eq_some_iff.1 hx
  apply hu1 x.1
  obtain ⟨y, hy⟩ := List.length_eq_one_iff.1 (show L.length = 1 by omega)
  subst hy
  simp at h4
  rw [h4, ← e]
 have CE1 := Lib.hid (fun w' (h : Lat w w') => h.cell (p := ⟨gq, oq + 1, none⟩) hgq c1)
 have HAE := Lib.hid hAe
 have HN1 := Lib.hid h2
 clear hAe hgq hx c0 c1 hu1
 have hclr := True.intro
 have HC := Lib.hid (fun w' (h : Lat w w') => by have := zaP A n c L w' (hs.later h) hn; rwa [zaG hL] at this)
 have HSC := Lib.hid (fun w => zcr u v hu hv hok w)
 have HRD := Lib.hid (fun w => zbn u v hu hv w)
 have HS := Lib.hid hs
 have HA : Hid (∀ ad, A = some ad → ad.block < w.heap.size) := fun ad e => by
  obtain ⟨g, o, x, e2, h, _⟩ := hs.at (i := 0) (by omega)
  rw [e2] at e
  cases e
  exact h
 clear hs hL hok hn hval hn3 hlen hclr h2
 refine zcB Tryz.func14 rfl ?_
 simp only [Tryz.ntmps14, List.size_toArray, List.length_cons, List.length_nil, Nat.reduceAdd, Nat.reduceSub, Array.replicate_succ, Array.replicate_zero, List.push_toArray, List.append_toArray, List.nil_append, List.cons_append]
 go_wp2_with fail
 refine za0 (Q := fun W => Calls _ _ _ W _) ?_
 intro W hl hsz k3 k4 k5
 obtain ⟨g5, hg5⟩ : ∃ z, w.heap.size + 1 + 1 = z := ⟨_, rfl⟩
 obtain ⟨g4, hg4⟩ : ∃ z, w.heap.size + 1 = z := ⟨_, rfl⟩
 obtain ⟨g3, hg3⟩ : ∃ z, w.heap.size = z := ⟨_, rfl⟩
 have HG : Hid (g3 < g4 ∧ g4 < g5 ∧ w.heap.size = g3) := by show g3 < g4 ∧ g4 < g5 ∧ w.heap.size = g3; omega
 rw [hg5] at k5 ⊢
 rw [hg4] at k4 ⊢
 rw [hg3] at k3 ⊢
 clear hg5 hg4 hg3 hsz
 refine (HC.out W hl).mono ?_
 rintro e w1 ⟨rfl, l1⟩
 replace k3 := k3.later l1
 replace k4 := k4.later l1
 replace k5 := k5.later l1
 have L1 := hl.trans l1
 clear hl l1 HC
 go_wp2_with (refine zaW (by rfl) 40 (.tmp 3) (by rfl) g3 (by rfl) k3 _ Tryz.underlying40 rfl zao ?_)
 refine (HSC.out w1).mono ?_
 rintro e w2 ⟨rfl, l2⟩
 replace k3 := k3.later l2
 replace k4 := k4.later l2
 replace k5 := k5.later l2
 replace L1 := L1.trans l2
 clear l2 HSC
 go_wp2_with (refine zaW (by rfl) 40 (.tmp 3) (by rfl) g3 (by rfl) k3 _ Tryz.underlying40 rfl zao ?_)
 refine (HRD.out w2).mono ?_
 rintro e w3 ⟨x0, xA, xn, xc, z0, zA, zn, zc, rfl, rx, mx, rz, mz, l3⟩
 replace k4 := k4.later l3
 replace k5 := k5.later l3
 replace L1 := L1.trans l3
 clear l3 HRD k3
 have hc1 := fun W' (h : Lat w3 W') => CE1.out W' (L1.trans h)
 obtain rfl := HN1.out
 obtain rfl := HAE.out
 have hc2 := hc1 _ (Lat.alloc w3 (.cells #[.bool x0, .slice xA xn xc, .bool z0, .slice zA zn zc] 94))
 go_wp2_with fail
 refine zas (Q := fun W => Calls _ _ _ W _) ?_
 intro w4 la hsx k8
 obtain ⟨g8, hg8⟩ : ∃ z, w3.heap.size = z := ⟨_, rfl⟩
 have HG8 : Hid (g5 < g8) := by have := k5.lt; show g5 < g8; omega
 rw [hg8] at k8 ⊢
 replace k4 := k4.later la
 replace k5 := k5.later la
 replace rx := rx.later la
 replace rz := rz.later la
 replace L1 := L1.trans la
 clear la hsx hg8 hc1 hc2 hu2
 have HCL := zfs (some ⟨gq, oq, none⟩) 1 c w4
 refine HCL.mono ?_
 rintro e w5 ⟨rfl, la, kr⟩
 obtain ⟨gr, hgr⟩ : ∃ z, w4.heap.size = z := ⟨_, rfl⟩
 have HGR : Hid (g8 < gr) := by have := k8.lt; show g8 < gr; omega
 rw [hgr] at kr ⊢
 replace k4 := k4.later la
 replace k5 := k5.later la
 replace k8 := k8.later la
 replace rx := rx.later la
 replace rz := rz.later la
 replace L1 := L1.trans la
 clear la HCL hgr
 have row := HS.out.later L1
 have hkr := kr.lt
 have SF : Hid (CmS w5 g4 g5 g8 gr (some ⟨gq, oq, none⟩)) := ⟨by have := HG.out; have := HG8.out; have := HGR.out; omega, by have := HG8.out; have := HGR.out; omega, by have := HGR.out; omega, hkr, by have := HG.out; omega, by have := HG.out; have := HG8.out; omega, by have := HG8.out; omega, by have := HG.out; have := HG8.out; have := HGR.out; omega, by have := HG8.out; have := HGR.out; omega, fun ad e => by have := HA.out ad e; have := L1.size; have := HG.out; omega⟩
 have LW := Lib.hid L1
 clear hkr L1
 go_wp2_with fail
 rename_i KN hKN
 refine zc0 (gf := 91) (lb := #[.pointer (some ⟨gr, 0, none⟩)]) (by rfl) (enters_of Tryz.func91 (by kernel_rfl) rfl) ?_
 intro fn W1 hW1
 generalize hrec : zdZ _ fn _ _ _ _ = rec at hW1 ⊢
 have hl1 : Lat w5 W1 := by rw [hW1]; exact (Lat.alloc _ _).trans (Lat.alloc _ _)
 have hI1 : CmF w5 g4 g5 g8 gr (some ⟨gq, oq, none⟩) 1 c L x0 xA xn xc z0 zA zn zc u.toInt v.toInt (rec .ready none) 0 0 W1 := by
  refine ⟨?_, ?_, k4.later hl1, k5.later hl1, k8.later hl1, kr.later hl1, row.later hl1, rx.later hl1, rz.later hl1, hl1.p _⟩
  ·rw [hW1]; have := World.alloc_heap_new (w5.alloc (.deferred (some []))) (.loop (rec .ready none)); rwa [World.size_alloc] at this
  ·rw [hW1]; exact (Below.heap_alloc _ _ _ (by simp)).trans (World.alloc_heap_new w5 _)
 clear hW1 k4 k5 k8 kr row rx rz
 have hY : zhK (w5.heap.size + 1) L (fun j W => zcx L u.toInt v.toInt za1 = zcx L u.toInt v.toInt (za1.drop j) ∧ CmF w5 g4 g5 g8 gr (some ⟨gq, oq, none⟩) 1 c L x0 xA xn xc z0 zA zn zc u.toInt v.toInt (rec .ready none) 0 0 W)
   (fun W => ∃ s, zcx L u.toInt v.toInt za1 = (s, 0) ∧ CmF w5 g4 g5 g8 gr (some ⟨gq, oq, none⟩) 1 c L x0 xA xn xc z0 zA zn zc u.toInt v.toInt (rec .done (some .ret)) s 0 W) := by
  rintro j k V b1 A1 n1 c1 b2 A2 n2 c2 b3 A3 n3 c3 b4 A4 n4 c4 hj hbk ⟨hC, F⟩ r1 m1 r2 m2 r3 m3 r4 m4
  rw [zg6 hbk, zcx] at hC
  have HC := Lib.hid hC
  have q1 := F.l
  rw [← hrec] at q1
  refine zgx (R := fun bb W' => (bb = true ∧ zcx L u.toInt v.toInt za1 = zcx L u.toInt v.toInt (za1.drop (j + 1)) ∧ CmF w5 g4 g5 g8 gr (some ⟨gq, oq, none⟩) 1 c L x0 xA xn xc z0 zA zn zc u.toInt v.toInt (rec .ready none) 0 0 W') ∨
   (bb = false ∧ ∃ s, zcx L u.toInt v.toInt za1 = (s, 0) ∧ CmF w5 g4 g5 g8 gr (some ⟨gq, oq, none⟩) 1 c L x0 xA xn xc z0 zA zn zc u.toInt v.toInt (rec .done (some .ret)) s 0 W')) q1 rfl ?_
  rw [hrec, ziJ]
  clear q1 hC hbk hj
  refine wpIn_seq ?_
  refine zaA (fun ⟨_, _, h⟩ => h) rfl ?_
  simp only [List.size_toArray, List.length_cons, List.length_nil, List.foldl_toArray, List.foldl_cons, List.foldl_nil, List.setIfInBounds_toArray, List.set_cons_zero, List.set_cons_succ]
  go_wp2
  refine zaA (fun ⟨_, _, h⟩ => h) rfl ?_
  go_wp2
  refine zaK (Q := fun W => W.heap[w5.heap.size + 1]? = _ ∧ Code.wpIn _ _ _ _ _ _ (W.putObj _ _)) ?_
  intro V2 la hsv k9 k10
  obtain ⟨g10, hg10⟩ : ∃ z, V.heap.size + 1 = z := ⟨_, rfl⟩
  obtain ⟨g9, hg9⟩ : ∃ z, V.heap.size = z := ⟨_, rfl⟩
  have hD9 : w5.heap.size + 1 < g9 ∧ w5.heap.size + 1 < g10 := by have := zaw F.l; omega
  rw [hg10] at k10 ⊢
  rw [hg9] at k9 ⊢
  replace F := F.later la
  replace r1 := r1.later la
  replace r2 := r2.later la
  replace r3 := r3.later la
  replace r4 := r4.later la
  clear la hsv hg10 hg9
  refine ⟨F.l, ?_⟩
  have hno := zcR F.l
  have hp := zbj (o := .loop (rec .busy none)) (zaw F.l)
  have Fb := F.put SF.out (rec .busy none)
  obtain ⟨Wb, hWb⟩ : ∃ Wb, V2.putObj (w5.heap.size + 1) (.loop (rec .busy none)) = Wb := ⟨_, rfl⟩
  rw [hWb] at Fb hp ⊢
  replace k9 := k9.keepP hp (by omega)
  replace k10 := k10.keepP hp (by omega)
  replace r1 := r1.offB hp hno
  replace r2 := r2.offB hp hno
  replace r3 := r3.offB hp hno
  replace r4 := r4.offB hp hno
  clear hWb F hp hno hD9
  obtain ⟨p, hpd⟩ : ∃ z, zaT (sLo L k) (2 ^ k) * v.toInt - u.toInt * zaU (sLo L k) (2 ^ k) = z := ⟨_, rfl⟩
  obtain ⟨q, hqd⟩ : ∃ z, zaT (sHi L k) (2 ^ k) * v.toInt - u.toInt * zaU (sHi L k) (2 ^ k) = z := ⟨_, rfl⟩
  rw [hpd, hqd] at HC
  have HX1 := Lib.hid (fun W (hl : Lat Wb W) => zbB b1 A1 n1 c1 _ b2 A2 n2 c2 _ x0 xA xn xc _ z0 zA zn zc _ W (r1.later hl) (r2.later hl) (Fb.rx.later hl) (Fb.rz.later hl) (by omega) (by omega) (by omega) (by omega))
  have HX2 := Lib.hid (fun W (hl : Lat Wb W) => zbB b3 A3 n3 c3 _ b4 A4 n4 c4 _ x0 xA xn xc _ z0 zA zn zc _ W (r3.later hl) (r4.later hl) (Fb.rx.later hl) (Fb.rz.later hl) (by omega) (by omega) (by omega) (by omega))
  rw [hpd] at HX1
  rw [hqd] at HX2
  obtain ⟨s1, hs1⟩ : ∃ z, zaq p = z := ⟨_, rfl⟩
  obtain ⟨s2, hs2⟩ : ∃ z, zaq q = z := ⟨_, rfl⟩
  rw [hs1] at HX1
  rw [hs2] at HX2
  have H1 : Hid (0 < s1 ↔ 0 < p) := by show _ ↔ _; rw [← hs1]; exact zft _
  have H2 : Hid (s2 < 0 ↔ q < 0) := by show _ ↔ _; rw [← hs2]; exact zdt _
  clear hpd hqd hs1 hs2 r1 r2 r3 r4 m1 m2 m3 m4
  refine wpIn_block ?_
  refine wpIn_seq ?_
  refine wpIn_seq ?_
  refine zaA (fun ⟨_, _, h⟩ => h) rfl ?_
  have d0 := k9.cell 0
  have d1 := k9.cell 1
  have d2 := k9.cell 2
  have d3 := k9.cell 3
  have e0 := Fb.k8.cell 0
  have e1 := Fb.k8.cell 1
  have e2 := Fb.k8.cell 2
  have e3 := Fb.k8.cell 3
  go_wp2_with fail
  refine (HX1.out Wb (Lat.refl _)).mono ?_
  rintro e Wc ⟨rfl, lc⟩
  clear d0 d1 d2 d3 e0 e1 e2 e3 k9
  replace Fb := Fb.later lc
  replace k10 := k10.later lc
  have HX3 := HX2.out Wc lc
  clear lc HX1 HX2
  by_cases h1 : 0 < s1
  ·have HA1 : Hid (zcx L u.toInt v.toInt za1 = (1, 0)) := HC.out.trans (if_pos (H1.out.1 h1))
   have d4 : Wc.cell? ⟨g4, 0, none⟩ = some (.int .i64 0) := Fb.k4.cell 0
   have d5 : Wc.cell? ⟨g5, 0, none⟩ = some (.int .i64 0) := Fb.k5.cell 0
   have f4 := Fb.k4.frozen 0
   have f5 := Fb.k5.frozen 0
   have ne1 := SF.out.n45
   have ne2 := fun e => ne1 (Eq.symm e)
   have HS1 := Lib.hid (Fb.set SF.out 1 0)
   clear Fb HX3 k10
   go_wp2
   refine wpIn_cond_true (by first | rfl | (show Value.bool (decide (0 < s1)) = Value.bool true; rw [decide_eq_true (by omega)])) ?_
   refine wpIn_seq ?_
   refine zaA (fun ⟨_, _, h⟩ => h) rfl ?_
   go_wp2
   refine wpIn_ret ?_
   exact ⟨HS1.out.l, .inr ⟨rfl, 1, HA1.out, HS1.out.put SF.out _⟩⟩
  ·have HCn : Hid (zcx L u.toInt v.toInt za1 = if q < 0 then (-1, 0) else zcx L u.toInt v.toInt (za1.drop (j + 1))) := HC.out.trans (if_neg (fun h => h1 (H1.out.2 h)))
   clear HC
   go_wp2
   refine wpIn_cond_false (by first | rfl | (show Value.bool (decide (0 < s1)) = Value.bool false; rw [decide_eq_false (by omega)])) (wpIn_skip ?_)
   refine wpIn_seq ?_
   refine zaA (fun ⟨_, _, h⟩ => h) rfl ?_
   have d0 := k10.cell 0
   have d1 := k10.cell 1
   have d2 := k10.cell 2
   have d3 := k10.cell 3
   have e0 := Fb.k8.cell 0
   have e1 := Fb.k8.cell 1
   have e2 := Fb.k8.cell 2
   have e3 := Fb.k8.cell 3
   go_wp2_with fail
   refine HX3.mono ?_
   rintro e Wd ⟨rfl, lc⟩
   clear d0 d1 d2 d3 e0 e1 e2 e3 k10 HX3
   replace Fb := Fb.later lc
   clear lc
   by_cases h2 : s2 < 0
   ·have HA1 : Hid (zcx L u.toInt v.toInt za1 = (-1, 0)) := HCn.out.trans (if_pos (H2.out.1 h2))
    have d4 : Wd.cell? ⟨g4, 0, none⟩ = some (.int .i64 0) := Fb.k4.cell 0
    have d5 : Wd.cell? ⟨g5, 0, none⟩ = some (.int .i64 0) := Fb.k5.cell 0
    have f4 := Fb.k4.frozen 0
    have f5 := Fb.k5.frozen 0
    have ne1 := SF.out.n45
    have ne2 := fun e => ne1 (Eq.symm e)
    have HS1 := Lib.hid (Fb.set SF.out (-1) 0)
    clear Fb
    go_wp2
    refine wpIn_cond_true (by first | rfl | (show Value.bool (decide (s2 < 0)) = Value.bool true; rw [decide_eq_true (by omega)])) ?_
    refine wpIn_seq ?_
    refine zaA (fun ⟨_, _, h⟩ => h) rfl ?_
    go_wp2
    refine wpIn_ret ?_
    exact ⟨HS1.out.l, .inr ⟨rfl, -1, HA1.out, HS1.out.put SF.out _⟩⟩
   ·have HA1 : Hid (zcx L u.toInt v.toInt za1 = zcx L u.toInt v.toInt (za1.drop (j + 1))) := HCn.out.trans (if_neg (fun h => h2 (H2.out.2 h)))
    have HE1 := Lib.hid Fb.l
    have HE2 := Lib.hid (Fb.put SF.out (rec .ready none))
    clear Fb HCn
    go_wp2
    exact wpIn_cond_false (by first | rfl | (show Value.bool (decide (s2 < 0)) = Value.bool false; rw [decide_eq_false (by omega)])) (wpIn_skip ⟨HE1.out, .inl ⟨rfl, HA1.out, HE2.out⟩⟩)
 refine (zex (w5.heap.size + 1) gr (some ⟨gq, oq, none⟩) 1 c L _ _ HVAL.out HN3.out (fun j W h => ⟨h.2.kr, h.2.row⟩) (fun j W W' h hl => ⟨h.1, h.2.later hl⟩) hY W1 ⟨rfl, hI1⟩).mono ?_
 rintro e W9 ⟨r9, rfl, ⟨hC9, F⟩ | ⟨s, hC9, F⟩⟩
 ·refine ⟨r9, rfl, .inl ⟨F.l, ?_⟩⟩
  have FZ := F.put SF.out (rec .exhausted none)
  obtain ⟨Z, hZ⟩ : ∃ Z, W9.putObj (w5.heap.size + 1) (.loop (rec .exhausted none)) = Z := ⟨_, rfl⟩
  rw [hZ] at FZ ⊢
  have d4 : Z.cell? ⟨g4, 0, none⟩ = some (.int .i64 0) := FZ.k4.cell 0
  have d5 : Z.cell? ⟨g5, 0, none⟩ = some (.int .i64 0) := FZ.k5.cell 0
  have f4 := FZ.k4.frozen 0
  have f5 := FZ.k5.frozen 0
  have ne1 := SF.out.n45
  have ne2 := fun e => ne1 (Eq.symm e)
  have HF := Lib.hid (FZ.set SF.out 0 9)
  have HC9 : Hid (zcx L u.toInt v.toInt za1 = (0, 9)) := hC9
  clear FZ hY hI1 hl1 hZ F hC9 hrec
  dsimp only
  refine hKN _ _ ?_
  go_wp2
  obtain ⟨o1, o2, o3⟩ := HF.out.outD SF.out
  refine zcp HF.out.d (v := .tuple #[.int .i64 0, .int .i64 9]) (zdQ rfl rfl o1 o2) ?_
  exact ⟨by rw [HE.out, HC9.out], LatP.lat (M := fun k => k = g4 ∨ k = g5) LW.out o3 (fun k h => by have := HG.out; omega)⟩
 ·refine ⟨r9, rfl, .inr ⟨F.l, ?_⟩⟩
  have FZ := F.put SF.out (rec .exhausted (some .ret))
  obtain ⟨o1, o2, o3⟩ := FZ.outD SF.out
  refine zcp FZ.d (v := .tuple #[.int .i64 s, .int .i64 0]) (zdQ rfl rfl o1 o2) ?_
  exact ⟨by rw [HE.out, hC9], LatP.lat (M := fun k => k = g4 ∨ k = g5) LW.out o3 (fun k h => by have := HG.out; omega)⟩
theorem zlo (A : Option Addr) (n c : Nat) (L : List (Int × Int)) (u v : W8) (hu : u.ok) (hv : v.ok) (w : World) (hs : RowM w A 2 n (zab L)) (hn : n ≤ 1000000) :
  Calls Tryz.prog 14 #[.slice A n c, .agg (W8.two u v)] w (zm5 w (zey L u.toInt v.toInt)) := by
 have hlen := zbA hs
 by_cases hL : ValidR L
 ·by_cases hok : zhk u.toInt v.toInt
  ·by_cases h2 : 2 ≤ n
   ·exact zlm A n c L u v hu hv w hs hn hL hok h2
   ·rcases Nat.lt_or_ge n 1 with h1 | h1
    ·obtain rfl : n = 0 := by omega
     obtain rfl : L = [] := List.length_eq_zero_iff.1 hlen
     exact znR A c u v hu hv w hs hL hok
    ·obtain rfl : n = 1 := by omega
     by_cases ht : ∃ t, L = [(t, 1)]
     ·obtain ⟨t, rfl⟩ := ht
      exact znS A c t u v hu hv w hs hL hok
     ·exact zln A 1 c L u v hu hv w hs hn hL hok rfl (fun t e => ht ⟨t, e⟩)
  ·exact zll A n c L u v hu hv w hs hn hL hok
 ·exact znQ A n c L u v w hs hn hL
noncomputable def sgnA (L : List (Int × Int)) : Int × Int := zey L 0 1
theorem zjv : ∃ u v : W8, ShareIs (zaT 0 1) (zaU 0 1) u v 0 ∧ u.ok ∧ v.ok ∧ u.toInt = 0 ∧ v.toInt = 1 := by
 refine ⟨W8.of 0, W8.of 1, .inl ⟨by decide, by decide, by decide, by decide, rfl, rfl, rfl⟩, W8.of_ok _, W8.of_ok _, ?_, ?_⟩
 ·exact W8.of_toInt (by decide) (by decide)
 ·exact W8.of_toInt (by decide) (by decide)
theorem zmw (A : Option Addr) (n c : Nat) (L : List (Int × Int)) (w : World) (hs : RowM w A 2 n (zab L)) (hn : n ≤ 1000000) :
  Calls Tryz.prog 11 #[.slice A n c] w (zm5 w (sgnA L)) := by
 obtain ⟨u, v, hI, hu, hv, hu0, hv1⟩ := zjv
 have HOF := Lib.hid (fun w => zkX 0 1 (by decide) (by decide) (by decide) (by decide) (by decide) w)
 have HC := Lib.hid (fun w' (h : Lat w w') => zlo A n c L u v hu hv w' (hs.later h) hn)
 rw [hu0, hv1] at HC
 have HI := Lib.hid hI
 clear hs hI hu hv hu0 hv1 hn
 go_enter Tryz.func11, Tryz.ntmps11
 go_wp2_with fail
 refine (HOF.out w).mono ?_
 rintro e w1 ⟨u', v', r, rfl, hI2, l1⟩
 obtain ⟨rfl, rfl, rfl⟩ := za4 hI2 HI.out
 clear hI2 HOF
 go_wp2_with fail
 refine zas (Q := fun W => Calls _ _ _ W _) ?_
 intro w2 l2 hsz k4
 refine (HC.out w2 (l1.trans l2)).mono ?_
 rintro e w3 ⟨rfl, l3⟩
 have HL := Lib.hid ((l1.trans l2).trans l3)
 clear l1 l2 l3 hsz k4 HC
 go_wp2
 go_ret2
 exact ⟨rfl, HL.out⟩
end Go.Proofs.YtpmbglhbcjbkcaaGreat
