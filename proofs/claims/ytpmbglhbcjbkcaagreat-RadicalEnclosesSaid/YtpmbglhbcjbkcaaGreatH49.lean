/- Several texts in one: RdWk. -/
import Derived.Test.YtpmbglhbcjbkcaaGreatH48
namespace Go.Proofs.YtpmbglhbcjbkcaaGreat
set_option maxHeartbeats 16000000
set_option maxRecDepth 100000
open Go.RowKit
set_option linter.unusedSimpArgs false
set_option linter.unusedVariables false
theorem zmy {P : Program} {f t : Nat} {args : Array Operand} {tys : Array TypeId} {vals lb : Array Value} {w : World} {a : Act} (hf : ∀ vals, (callFunc f vals).run P w = .ok (.enter f vals) w) (ht : a.eval (.tmp t) = .func (.func f) #[] lb) : ∀ o : Oper, o.op = .call ⟨.value (.tmp t), args, tys⟩ → args.map a.eval = vals → (execOp a.eval o).run P w = .ok (.enter f (vals ++ lb)) w := by
 intro o ho ha
 obtain ⟨d, op, ty, p, af, g⟩ := o
 simp only at ho
 subst ho
 subst ha
 unfold execOp
 simp only [resolve, ht]
 go_simp
theorem zeX {P : Program} {o : Oper} {a : Act} {W : World} {K : Act → World → Prop} {Q : Exit → Act → World → Prop} {x : Operand} {d : Tmp} {v : Value} (ho : o.op = .assign x) (hd : o.dst = some d) (hx : a.eval x = v) (h : K (a.put (some d) v) W) : o.wp P a W K Q := by
 unfold Oper.wp
 rw [zd9 hx o ho, Oper.upon_value, hd]
 exact h
theorem zbb {P : Program} {f t : Nat} {args : Array Operand} {tys : Array TypeId} {lb : Array Value} {w : World} {a : Act} (vals R : Array Value) (hR : vals ++ lb = R) (hf : ∀ vals, (callFunc f vals).run P w = .ok (.enter f vals) w) (ht : a.eval (.tmp t) = .func (.func f) #[] lb) : ∀ o : Oper, o.op = .call ⟨.value (.tmp t), args, tys⟩ → args.map a.eval = vals → (execOp a.eval o).run P w = .ok (.enter f R) w := by
 subst hR
 exact zmy hf ht
def LitV (n : Nat) (L : List (Int × Int)) (v : Value) (w : World) : Prop := ∃ g : Nat, v = .slice (some ⟨g, 0, none⟩) n n ∧ Blk w g 3 (nums .i64 (zep L))
theorem LitV.mono {n : Nat} {L : List (Int × Int)} {v : Value} {w w' : World} (h : LitV n L v w) (hl : Lat w w') : LitV n L v w' := by obtain ⟨g, e, b⟩ := h; exact ⟨g, e, b.later hl⟩
def RadV (N : Nat) (L : List (Int × Int)) (v : Value) (w : World) : Prop := ∃ A c, v = .slice A N c ∧ RowM w A 2 N (zab L)
theorem RadV.mono {n : Nat} {L : List (Int × Int)} {v : Value} {w w' : World} (h : RadV n L v w) (hl : Lat w w') : RadV n L v w' := by obtain ⟨A, c, e, b⟩ := h; exact ⟨A, c, e, b.later hl⟩
def TupV (N : Nat) (L : List (Int × Int)) (v : Value) (w : World) : Prop := ∃ A c, v = .tuple #[.slice A N c, .int .i64 0] ∧ RowM w A 2 N (zab L)
theorem TupV.mono {n : Nat} {L : List (Int × Int)} {v : Value} {w w' : World} (h : TupV n L v w) (hl : Lat w w') : TupV n L v w' := by obtain ⟨A, c, e, b⟩ := h; exact ⟨A, c, e, b.later hl⟩
def ClV (N : Nat) (L : List (Int × Int)) (v : Value) (w : World) : Prop := ∃ g A c, v = .func (.func 55) #[] #[.pointer (some ⟨g, 0, none⟩)] ∧ Blk w g 27 #[.slice A N c] ∧ RowM w A 2 N (zab L)
theorem ClV.mono {n : Nat} {L : List (Int × Int)} {v : Value} {w w' : World} (h : ClV n L v w) (hl : Lat w w') : ClV n L v w' := by obtain ⟨g, A, c, e, b, r⟩ := h; exact ⟨g, A, c, e, b.later hl, r.later hl⟩
def BtV (u1 v1 u2 v2 : W8) (v : Value) (w : World) : Prop := ∃ g h, v = .func (.func 69) #[] #[.pointer (some ⟨g, 0, none⟩), .pointer (some ⟨h, 0, none⟩)] ∧ Blk w g 40 (W8.two u1 v1) ∧ Blk w h 40 (W8.two u2 v2)
theorem BtV.mono {u1 v1 u2 v2 : W8} {v : Value} {w w' : World} (h : BtV u1 v1 u2 v2 v w) (hl : Lat w w') : BtV u1 v1 u2 v2 v w' := by obtain ⟨g, k, e, b, r⟩ := h; exact ⟨g, k, e, b.later hl, r.later hl⟩
def SyV (z : Int) (v : Value) (w : World) : Prop := ∃ g, v = .func (.func 70) #[] #[.pointer (some ⟨g, 0, none⟩)] ∧ Blk w g 3 #[.int .i64 z]
theorem SyV.mono {z : Int} {v : Value} {w w' : World} (h : SyV z v w) (hl : Lat w w') : SyV z v w' := by obtain ⟨g, e, b⟩ := h; exact ⟨g, e, b.later hl⟩
def zg7 (w : World) (V : Value → World → Prop) (e : Ending) (w' : World) : Prop := ∃ v, e = .returned v ∧ Lat w w' ∧ V v w'
theorem zm8 (w : World) : Calls Tryz.prog 16 #[.slice none 0 0] w (zg7 w (ClV 0 [])) := by
 refine (zox w).mono ?_
 rintro e w' ⟨g, rfl, b, l⟩
 exact ⟨_, rfl, l, g, none, 0, rfl, b, RowM.nil _ _ _⟩
theorem zmz (g n c : Nat) (L : List (Int × Int)) (w : World) (hb : Blk w g 3 (nums .i64 (zep L))) (hM : L.length ≤ 1000) {N : Nat} (hN : L.length = N) (hn : n = 2 * L.length := by decide) :
  Calls Tryz.prog 16 #[.slice (some ⟨g, 0, none⟩) n c] w (zg7 w (ClV N L)) := by
 refine (zop g n c L w hb hn hM).mono ?_
 rintro e w' ⟨g3, v, rfl, b, o, l⟩
 obtain ⟨A, c', rfl, r⟩ := zbT o hN
 exact ⟨_, rfl, l, g3, A, c', rfl, b, r⟩
theorem zjw (g n c : Nat) (L : List (Int × Int)) (w : World) (hb : Blk w g 3 (nums .i64 (zep L))) (hM : L.length ≤ 1000) {N : Nat} (hN : L.length = N) (hn : n = 2 * L.length := by decide) :
  Calls Tryz.prog 18 #[.slice (some ⟨g, 0, none⟩) n c] w (zg7 w (RadV N L)) := by
 refine (r_lit g n c L w hb hn hM).mono ?_
 rintro e w' ⟨v, rfl, o, l⟩
 obtain ⟨A, c', rfl, r⟩ := zbT o hN
 exact ⟨_, rfl, l, A, c', rfl, r⟩
theorem ziL {f : Nat} {args : Array Value} {w : World} {N : Nat} {L : List (Int × Int)} (h : Calls Tryz.prog f args w (zf7 w N L)) : Calls Tryz.prog f args w (zg7 w (TupV N L)) := by
 refine h.mono ?_
 rintro e w' ⟨A, c, rfl, r, l⟩
 exact ⟨_, rfl, l, A, c, rfl, r⟩
theorem zm9 (a b c d q : Int) (w : World) (hok : zg4 a b c d) (hq : sqD a b c d = q) (he : zal [(1, q)] = 0) {L : List (Int × Int)} (hL : zaJ [(1, q)] = L) {N : Nat} (hN : L.length = N) :
  Calls Tryz.prog 22 #[.agg #[.int .i64 a, .int .i64 b], .agg #[.int .i64 c, .int .i64 d]] w (zg7 w (TupV N L)) := by
 refine (zjr a b c d w).mono ?_
 rintro e w' ⟨v, rfl, o, l⟩
 have h1 : zoy a b c d = 0 := by unfold zoy; rw [if_pos hok, hq, he]
 have h2 : zoz a b c d = L := by unfold zoz; rw [if_pos hok, hq, zc7 he, hL]
 rw [h1]
 rw [h2] at o
 obtain ⟨A, c', rfl, r⟩ := zbT o hN
 exact ⟨_, rfl, l, A, c', rfl, r⟩
theorem ziM {A : Option Addr} {n c : Nat} {L : List (Int × Int)} {w : World} (hs : RowM w A 2 n (zab L)) (hn : n ≤ 1000000) (hv : ¬ ValidR L) : Calls Tryz.prog 19 #[.slice A n c] w (fun e w' => e = .returned (.int .i64 30) ∧ Lat w w') := by
 have := zaP A n c L w hs hn
 rwa [zcm hv] at this
theorem zna (n d : Int) (h0 : d ≠ 0) (n1 : -9223372036854775808 ≤ n) (n2 : n < 9223372036854775808) (h1 : -9223372036854775808 ≤ d) (h2 : d < 9223372036854775808) {u v : W8} (hI : ShareIs (zaT n d) (zaU n d) u v 0) (w : World) :
  Calls Tryz.prog 24 #[.int .i64 n, .int .i64 d] w (fun e w' => e = .returned (.agg (W8.two u v)) ∧ Lat w w') := by
 refine (q_any n d h0 n1 n2 h1 h2 w).mono ?_
 rintro e w' ⟨u', v', r, rfl, h, l⟩
 obtain ⟨rfl, rfl, _⟩ := za4 h hI
 exact ⟨rfl, l⟩
theorem znT (u1 v1 u2 v2 : W8) (w : World) : Calls Tryz.prog 23 #[.agg (W8.two u1 v1), .agg (W8.two u2 v2)] w (zg7 w (BtV u1 v1 u2 v2)) := by
 refine (zhI u1 v1 u2 v2 w).mono ?_
 rintro e w' ⟨g, h, rfl, b1, b2, l⟩
 exact ⟨_, rfl, l, g, h, rfl, b1, b2⟩
theorem zhN (z : Int) (w : World) : Calls Tryz.prog 25 #[.int .i64 z] w (zg7 w (SyV z)) := by
 refine (zmq z w).mono ?_
 rintro e w' ⟨g, rfl, b, l⟩
 exact ⟨_, rfl, l, g, rfl, b⟩
theorem zlp {A : Option Addr} {n c : Nat} {L : List (Int × Int)} {w : World} (k : Nat) (n1 d1 n2 d2 : Int) (hs : RowM w A 2 n (zab L)) (hn : n ≤ 1000000) (hv : ValidR L) (hk : k ≤ 400) {x y : Int} (h1 : sLo L k = x) (h2 : sHi L k = y)
  (a1 : zaT x (2 ^ k) = zaT n1 d1) (a2 : zaU x (2 ^ k) = zaU n1 d1) (a3 : zaT y (2 ^ k) = zaT n2 d2) (a4 : zaU y (2 ^ k) = zaU n2 d2) {u1 v1 u2 v2 : W8} (I1 : ShareIs (zaT n1 d1) (zaU n1 d1) u1 v1 0) (I2 : ShareIs (zaT n2 d2) (zaU n2 d2) u2 v2 0) :
  Calls Tryz.prog 9 #[.slice A n c, .int .i64 (k : Nat)] w (fun e w' => e = .returned (.tuple #[.agg (W8.two u1 v1), .agg (W8.two u2 v2), .int .i64 0]) ∧ Lat w w') := by
 have hE : EncIs L (k : Nat) u1 v1 u2 v2 0 := by
  refine .inr ⟨by unfold zgV; rw [zaG hv, if_pos rfl, if_neg (by omega)], .inl ⟨rfl, ?_, ?_⟩⟩
  ·rw [Int.toNat_natCast, h1, a1, a2]; exact I1
  ·rw [Int.toNat_natCast, h2, a3, a4]; exact I2
 refine (zkZ A n c L (k : Nat) w hs hn).mono ?_
 rintro e w' ⟨a, b, c, d, r, rfl, h, l⟩
 obtain ⟨rfl, rfl, rfl, rfl, rfl⟩ := zgW h hE
 exact ⟨rfl, l⟩
theorem znU {A : Option Addr} {n c : Nat} {L : List (Int × Int)} {w : World} (hs : RowM w A 2 n (zab L)) (hn : n ≤ 1000000) {s : Int} (h : sgnA L = (s, 0)) : Calls Tryz.prog 11 #[.slice A n c] w (fun e w' => e = .returned (.tuple #[.int .i64 s, .int .i64 0]) ∧ Lat w w') := by
 have := zmw A n c L w hs hn
 rwa [h] at this
theorem znb {A : Option Addr} {n c : Nat} {L : List (Int × Int)} {w : World} (x y : Int) (hs : RowM w A 2 n (zab L)) (hn : n ≤ 1000000) {u v : W8} (hI : ShareIs (zaT x y) (zaU x y) u v 0) (hx : zaT x y = x) (hy : zaU x y = y) {s : Int} (h : zey L x y = (s, 0)) :
  Calls Tryz.prog 14 #[.slice A n c, .agg (W8.two u v)] w (fun e w' => e = .returned (.tuple #[.int .i64 s, .int .i64 0]) ∧ Lat w w') := by
 obtain ⟨o1, o2⟩ := zaH hI
 have e1 : u.toInt = x ∧ v.toInt = y := by
  rw [hx, hy] at hI
  rcases hI with ⟨h1, h2, h3, h4, rfl, rfl, _⟩ | ⟨_, _, _, h⟩
  ·exact ⟨W8.of_toInt h1 h2, W8.of_toInt h3 h4⟩
  ·cases h
 have := zlo A n c L u v o1 o2 w hs hn
 rw [e1.1, e1.2] at this
 rwa [h] at this
theorem zbK {n d : Int} (h1 : -zaV ≤ zaT n d) (h2 : zaT n d < zaV) (h3 : -zaV ≤ zaU n d) (h4 : zaU n d < zaV) : ∃ u v : W8, ShareIs (zaT n d) (zaU n d) u v 0 := ⟨_, _, .inl ⟨h1, h2, h3, h4, rfl, rfl, rfl⟩⟩
theorem wl_1 (c1 : Nat) {A1 : Option Addr} {w : World} (r1 : RowM w A1 2 4 (zab [(1, 8), (3, 2), (1, 0), (-1, 4)])) : Calls Tryz.prog 17 #[.slice A1 4 c1] w (zg7 w (TupV 2 [(-2, 1), (5, 2)])) :=
 ziL (ziA r1 mk1.1 mk1.2 rfl)
theorem wl_2 (c1 : Nat) {A1 : Option Addr} {w : World} (r1 : RowM w A1 2 2 (zab [(1, 12), (-2, 3)])) : Calls Tryz.prog 17 #[.slice A1 2 c1] w (zg7 w (TupV 0 [])) :=
 ziL (ziA r1 mk2.1 mk2.2 rfl)
theorem wl_3 (c1 : Nat) {A1 : Option Addr} {w : World} (r1 : RowM w A1 2 1 (zab [(1, 4)])) : Calls Tryz.prog 19 #[.slice A1 1 c1] w (fun e w2 => e = .returned (.int .i64 30) ∧ Lat w w2) :=
 ziM r1 (by decide) nv4
theorem wl_4 (c1 : Nat) {A1 : Option Addr} {w : World} (r1 : RowM w A1 2 2 (zab [(1, 3), (1, 2)])) : Calls Tryz.prog 19 #[.slice A1 2 c1] w (fun e w2 => e = .returned (.int .i64 30) ∧ Lat w w2) :=
 ziM r1 (by decide) nv32
theorem wl_5 (c1 c2 : Nat) {A1 A2 : Option Addr} {w : World} (r1 : RowM w A1 2 1 (zab [(1, 2)])) (r2 : RowM w A2 2 1 (zab [(-1, 2)])) : Calls Tryz.prog 20 #[.slice A1 1 c1, .slice A2 1 c2] w (zg7 w (TupV 0 [])) :=
 ziL (znL r1 r2 v2 v2m mk3.1 mk3.2 rfl)
theorem wl_6 (c1 : Nat) {A1 : Option Addr} {w : World} (r1 : RowM w A1 2 1 (zab [(1, 2)])) : Calls Tryz.prog 21 #[.slice A1 1 c1, .int .i64 (-3)] w (zg7 w (TupV 1 [(-3, 2)])) :=
 ziL (zk8 (s := -3) (by decide) (by decide) r1 v2 (by decide) (by decide) rfl)
theorem wl_7 (w : World)  : Calls Tryz.prog 22 #[.agg #[.int .i64 0, .int .i64 0], .agg #[.int .i64 3, .int .i64 4]] w (zg7 w (TupV 1 [(5, 1)])) :=
 zm9 0 0 3 4 25 w (by decide) (by decide) mk4.1 mk4.2 rfl
theorem wl_8 (w : World)  : Calls Tryz.prog 22 #[.agg #[.int .i64 0, .int .i64 0], .agg #[.int .i64 1, .int .i64 1]] w (zg7 w (TupV 1 [(1, 2)])) :=
 zm9 0 0 1 1 2 w (by decide) (by decide) mk5.1 mk5.2 rfl
theorem wl_9 (c1 : Nat) {A1 : Option Addr} {w : World} {p1 : W8} {q1 : W8} {p2 : W8} {q2 : W8} (r1 : RowM w A1 2 1 (zab [(1, 2)])) (I1 : ShareIs (zaT 5 4) (zaU 5 4) p1 q1 0) (I2 : ShareIs (zaT 3 2) (zaU 3 2) p2 q2 0) : Calls Tryz.prog 9 #[.slice A1 1 c1, .int .i64 2] w (fun e w2 => e = .returned (.tuple #[.agg (W8.two p1 q1), .agg (W8.two p2 q2), .int .i64 0]) ∧ Lat w w2) :=
 zlp 2 5 4 3 2 r1 (by decide) v2 (by decide) k_s1.1 k_s1.2 (by decide +kernel) (by decide +kernel) (by decide +kernel) (by decide +kernel) I1 I2
theorem wl_10 (c1 : Nat) {A1 : Option Addr} {w : World} {p3 : W8} {q3 : W8} {p4 : W8} {q4 : W8} (r1 : RowM w A1 2 1 (zab [(-1, 2)])) (I1 : ShareIs (zaT (-3) 2) (zaU (-3) 2) p3 q3 0) (I2 : ShareIs (zaT (-5) 4) (zaU (-5) 4) p4 q4 0) : Calls Tryz.prog 9 #[.slice A1 1 c1, .int .i64 2] w (fun e w2 => e = .returned (.tuple #[.agg (W8.two p3 q3), .agg (W8.two p4 q4), .int .i64 0]) ∧ Lat w w2) :=
 zlp 2 (-3) 2 (-5) 4 r1 (by decide) v2m (by decide) k_s2.1 k_s2.2 (by decide +kernel) (by decide +kernel) (by decide +kernel) (by decide +kernel) I1 I2
theorem wl_11 (c1 : Nat) {A1 : Option Addr} {w : World} {p5 : W8} {q5 : W8} (r1 : RowM w A1 2 1 (zab [(3, 1)])) (I1 : ShareIs (zaT 3 1) (zaU 3 1) p5 q5 0) (I2 : ShareIs (zaT 3 1) (zaU 3 1) p5 q5 0) : Calls Tryz.prog 9 #[.slice A1 1 c1, .int .i64 0] w (fun e w2 => e = .returned (.tuple #[.agg (W8.two p5 q5), .agg (W8.two p5 q5), .int .i64 0]) ∧ Lat w w2) :=
 zlp 0 3 1 3 1 r1 (by decide) v31 (by decide) k_s3.1 k_s3.2 (by decide +kernel) (by decide +kernel) (by decide +kernel) (by decide +kernel) I1 I2
theorem wl_12 (c1 : Nat) {A1 : Option Addr} {w : World} (r1 : RowM w A1 2 3 (zab [(-3, 1), (1, 2), (1, 3)])) : Calls Tryz.prog 11 #[.slice A1 3 c1] w (fun e w2 => e = .returned (.tuple #[.int .i64 1, .int .i64 0]) ∧ Lat w w2) :=
 znU r1 (by decide) k_c1
theorem wl_13 (c1 : Nat) {A1 : Option Addr} {w : World} {p6 q6 : W8} (r1 : RowM w A1 2 1 (zab [(1, 2)])) (I1 : ShareIs (zaT 7 5) (zaU 7 5) p6 q6 0) : Calls Tryz.prog 14 #[.slice A1 1 c1, .agg (W8.two p6 q6)] w (fun e w2 => e = .returned (.tuple #[.int .i64 1, .int .i64 0]) ∧ Lat w w2) :=
 znb 7 5 r1 (by decide) I1 (by decide +kernel) (by decide +kernel) k_c2
theorem wl_14 (c1 : Nat) {A1 : Option Addr} {w : World} {p7 q7 : W8} (r1 : RowM w A1 2 1 (zab [(-2, 1)])) (I1 : ShareIs (zaT (-2) 1) (zaU (-2) 1) p7 q7 0) : Calls Tryz.prog 14 #[.slice A1 1 c1, .agg (W8.two p7 q7)] w (fun e w2 => e = .returned (.tuple #[.int .i64 0, .int .i64 0]) ∧ Lat w w2) :=
 znb (-2) 1 r1 (by decide) I1 (by decide +kernel) (by decide +kernel) k_c3
theorem zgf (T : Array Value) (h : T.size = 139) : ∃ f : Nat → Value, (∀ k, f k = T.getD k undef) ∧ T = #[f 0, f 1, f 2, f 3, f 4, f 5, f 6, f 7, f 8, f 9, f 10, f 11, f 12, f 13, f 14, f 15, f 16, f 17, f 18, f 19, f 20, f 21, f 22, f 23, f 24, f 25, f 26, f 27, f 28, f 29, f 30, f 31, f 32, f 33, f 34, f 35, f 36, f 37, f 38, f 39, f 40, f 41, f 42, f 43, f 44, f 45, f 46, f 47, f 48, f 49, f 50, f 51, f 52, f 53, f 54, f 55, f 56, f 57, f 58, f 59, f 60, f 61, f 62, f 63, f 64, f 65, f 66, f 67, f 68, f 69, f 70, f 71, f 72, f 73, f 74, f 75, f 76, f 77, f 78, f 79, f 80, f 81, f 82, f 83, f 84, f 85, f 86, f 87, f 88, f 89, f 90, f 91, f 92, f 93, f 94, f 95, f 96, f 97, f 98, f 99, f 100, f 101, f 102, f 103, f 104, f 105, f 106, f 107, f 108, f 109, f 110, f 111, f 112, f 113, f 114, f 115, f 116, f 117, f 118, f 119, f 120, f 121, f 122, f 123, f 124, f 125, f 126, f 127, f 128, f 129, f 130, f 131, f 132, f 133, f 134, f 135, f 136, f 137, f 138] := ⟨fun k => T.getD k undef, fun _ => rfl, (spell 139 T h).trans (by kernel_rfl)⟩
noncomputable def zgg  : List SRow := [
 ⟨.buildSlice 77 4 #[(0, .const (.int .i64 (-2))), (1, .const (.int .i64 1)), (2, .const (.int .i64 5)), (3, .const (.int .i64 2))], some 2, none, [], LitV 4 [(-2, 1), (5, 2)]⟩,
 ⟨.call { callee := .value (.func 16), args := #[.tmp 2], argTypes := #[77] }, some 3, none, [0], ClV 2 [(-2, 1), (5, 2)]⟩,
 ⟨.buildSlice 77 8 #[(0, .const (.int .i64 1)), (1, .const (.int .i64 8)), (2, .const (.int .i64 3)), (3, .const (.int .i64 2)), (4, .const (.int .i64 1)), (5, .const (.int .i64 0)), (6, .const (.int .i64 (-1))), (7, .const (.int .i64 4))], some 4, none, [], LitV 8 [(1, 8), (3, 2), (1, 0), (-1, 4)]⟩,
 ⟨.call { callee := .value (.func 18), args := #[.tmp 4], argTypes := #[77] }, some 5, none, [2, 1], RadV 4 [(1, 8), (3, 2), (1, 0), (-1, 4)]⟩,
 ⟨.call { callee := .value (.func 17), args := #[.tmp 5], argTypes := #[22] }, some 6, none, [3, 3], TupV 2 [(-2, 1), (5, 2)]⟩,
 ⟨.extract (.tmp 6) 0, some 7, none, [4], RadV 2 [(-2, 1), (5, 2)]⟩,
 ⟨.extract (.tmp 6) 1, some 8, none, [4], fun v _ => v = .int .i64 0⟩,
 ⟨.call { callee := .value (.tmp 3), args := #[.tmp 7, .tmp 8], argTypes := #[27, 28] }, some 9, none, [1, 5, 6, 4], fun v _ => v = .bool true⟩,
 ⟨.move (.tmp 9), some 10, none, [7, 7], fun v _ => v = .bool true⟩,
 ⟨.call { callee := .value (.func 16), args := #[.const (.slice none 0 0)], argTypes := #[77] }, some 11, some (8, true), [8, 8], ClV 0 []⟩,
 ⟨.buildSlice 77 4 #[(0, .const (.int .i64 1)), (1, .const (.int .i64 12)), (2, .const (.int .i64 (-2))), (3, .const (.int .i64 3))], some 12, some (8, true), [8], LitV 4 [(1, 12), (-2, 3)]⟩,
 ⟨.call { callee := .value (.func 18), args := #[.tmp 12], argTypes := #[77] }, some 13, some (8, true), [10, 9, 8], RadV 2 [(1, 12), (-2, 3)]⟩,
 ⟨.call { callee := .value (.func 17), args := #[.tmp 13], argTypes := #[22] }, some 14, some (8, true), [11, 11, 8], TupV 0 []⟩,
 ⟨.extract (.tmp 14) 0, some 15, some (8, true), [12, 8], RadV 0 []⟩,
 ⟨.extract (.tmp 14) 1, some 16, some (8, true), [12, 8], fun v _ => v = .int .i64 0⟩,
 ⟨.call { callee := .value (.tmp 11), args := #[.tmp 15, .tmp 16], argTypes := #[27, 28] }, some 17, some (8, true), [9, 13, 14, 12, 8], fun v _ => v = .bool true⟩,
 ⟨.pick (.tmp 10) (.tmp 17) (.const (.bool false)), some 18, none, [8, 15], fun v _ => v = .bool true⟩,
 ⟨.move (.tmp 18), some 19, none, [16, 15], fun v _ => v = .bool true⟩,
 ⟨.buildSlice 77 2 #[(0, .const (.int .i64 1)), (1, .const (.int .i64 4))], some 20, some (17, true), [17], LitV 2 [(1, 4)]⟩,
 ⟨.call { callee := .value (.func 18), args := #[.tmp 20], argTypes := #[77] }, some 21, some (17, true), [18, 17, 17], RadV 1 [(1, 4)]⟩,
 ⟨.call { callee := .value (.func 19), args := #[.tmp 21], argTypes := #[27] }, some 22, some (17, true), [19, 19, 17], fun v _ => v = .int .i64 30⟩,
 ⟨.binOp .eql 28 (.tmp 22) (.const (.int .i64 30)) 28, some 23, some (17, true), [20, 17], fun v _ => v = .bool true⟩,
 ⟨.pick (.tmp 19) (.tmp 23) (.const (.bool false)), some 24, none, [17, 21], fun v _ => v = .bool true⟩,
 ⟨.move (.tmp 24), some 25, none, [22, 20], fun v _ => v = .bool true⟩,
 ⟨.buildSlice 77 4 #[(0, .const (.int .i64 1)), (1, .const (.int .i64 3)), (2, .const (.int .i64 1)), (3, .const (.int .i64 2))], some 26, some (23, true), [23], LitV 4 [(1, 3), (1, 2)]⟩,
 ⟨.call { callee := .value (.func 18), args := #[.tmp 26], argTypes := #[77] }, some 27, some (23, true), [24, 23, 23], RadV 2 [(1, 3), (1, 2)]⟩,
 ⟨.call { callee := .value (.func 19), args := #[.tmp 27], argTypes := #[27] }, some 28, some (23, true), [25, 25, 23], fun v _ => v = .int .i64 30⟩,
 ⟨.binOp .eql 28 (.tmp 28) (.const (.int .i64 30)) 28, some 29, some (23, true), [26, 23], fun v _ => v = .bool true⟩,
 ⟨.pick (.tmp 25) (.tmp 29) (.const (.bool false)), some 30, none, [23, 27], fun v _ => v = .bool true⟩,
 ⟨.move (.tmp 30), some 31, none, [28, 26], fun v _ => v = .bool true⟩,
 ⟨.call { callee := .value (.func 16), args := #[.const (.slice none 0 0)], argTypes := #[77] }, some 32, some (29, true), [29, 29], ClV 0 []⟩,
 ⟨.buildSlice 77 2 #[(0, .const (.int .i64 1)), (1, .const (.int .i64 2))], some 33, some (29, true), [29], LitV 2 [(1, 2)]⟩,
 ⟨.call { callee := .value (.func 18), args := #[.tmp 33], argTypes := #[77] }, some 34, some (29, true), [31, 30, 29], RadV 1 [(1, 2)]⟩,
 ⟨.buildSlice 77 2 #[(0, .const (.int .i64 (-1))), (1, .const (.int .i64 2))], some 35, some (29, true), [29], LitV 2 [(-1, 2)]⟩,
 ⟨.call { callee := .value (.func 18), args := #[.tmp 35], argTypes := #[77] }, some 36, some (29, true), [33, 32, 29], RadV 1 [(-1, 2)]⟩,
 ⟨.call { callee := .value (.func 20), args := #[.tmp 34, .tmp 36], argTypes := #[27, 27] }, some 37, some (29, true), [32, 34, 34, 29], TupV 0 []⟩,
 ⟨.extract (.tmp 37) 0, some 38, some (29, true), [35, 29], RadV 0 []⟩,
 ⟨.extract (.tmp 37) 1, some 39, some (29, true), [35, 29], fun v _ => v = .int .i64 0⟩,
 ⟨.call { callee := .value (.tmp 32), args := #[.tmp 38, .tmp 39], argTypes := #[27, 28] }, some 40, some (29, true), [30, 36, 37, 35, 29], fun v _ => v = .bool true⟩,
 ⟨.pick (.tmp 31) (.tmp 40) (.const (.bool false)), some 41, none, [29, 38], fun v _ => v = .bool true⟩,
 ⟨.move (.tmp 41), some 42, none, [39, 38], fun v _ => v = .bool true⟩,
 ⟨.buildSlice 77 2 #[(0, .const (.int .i64 (-3))), (1, .const (.int .i64 2))], some 43, some (40, true), [40], LitV 2 [(-3, 2)]⟩,
 ⟨.call { callee := .value (.func 16), args := #[.tmp 43], argTypes := #[77] }, some 44, some (40, true), [41, 40, 40], ClV 1 [(-3, 2)]⟩,
 ⟨.buildSlice 77 2 #[(0, .const (.int .i64 1)), (1, .const (.int .i64 2))], some 45, some (40, true), [40], LitV 2 [(1, 2)]⟩,
 ⟨.call { callee := .value (.func 18), args := #[.tmp 45], argTypes := #[77] }, some 46, some (40, true), [43, 42, 40], RadV 1 [(1, 2)]⟩,
 ⟨.call { callee := .value (.func 21), args := #[.tmp 46, .const (.int .i64 (-3))], argTypes := #[27, 3] }, some 47, some (40, true), [44, 44, 40], TupV 1 [(-3, 2)]⟩,
 ⟨.extract (.tmp 47) 0, some 48, some (40, true), [45, 40], RadV 1 [(-3, 2)]⟩,
 ⟨.extract (.tmp 47) 1, some 49, some (40, true), [45, 40], fun v _ => v = .int .i64 0⟩,
 ⟨.call { callee := .value (.tmp 44), args := #[.tmp 48, .tmp 49], argTypes := #[27, 28] }, some 50, some (40, true), [42, 46, 47, 45, 40], fun v _ => v = .bool true⟩,
 ⟨.pick (.tmp 42) (.tmp 50) (.const (.bool false)), some 51, none, [40, 48], fun v _ => v = .bool true⟩,
 ⟨.move (.tmp 51), some 52, none, [49, 48], fun v _ => v = .bool true⟩,
 ⟨.buildSlice 77 2 #[(0, .const (.int .i64 5)), (1, .const (.int .i64 1))], some 53, some (50, true), [50], LitV 2 [(5, 1)]⟩,
 ⟨.call { callee := .value (.func 16), args := #[.tmp 53], argTypes := #[77] }, some 54, some (50, true), [51, 50, 50], ClV 1 [(5, 1)]⟩,
 ⟨.build 64 #[], some 55, some (50, true), [50], fun v _ => v = .agg #[.int .i64 0, .int .i64 0]⟩,
 ⟨.build 64 #[(0, .const (.int .i64 3)), (1, .const (.int .i64 4))], some 56, some (50, true), [50], fun v _ => v = .agg #[.int .i64 3, .int .i64 4]⟩,
 ⟨.call { callee := .value (.func 22), args := #[.tmp 55, .tmp 56], argTypes := #[64, 64] }, some 57, some (50, true), [53, 54, 52, 50], TupV 1 [(5, 1)]⟩,
 ⟨.extract (.tmp 57) 0, some 58, some (50, true), [55, 50], RadV 1 [(5, 1)]⟩,
 ⟨.extract (.tmp 57) 1, some 59, some (50, true), [55, 50], fun v _ => v = .int .i64 0⟩,
 ⟨.call { callee := .value (.tmp 54), args := #[.tmp 58, .tmp 59], argTypes := #[27, 28] }, some 60, some (50, true), [52, 56, 57, 55, 50], fun v _ => v = .bool true⟩,
 ⟨.pick (.tmp 52) (.tmp 60) (.const (.bool false)), some 61, none, [50, 58], fun v _ => v = .bool true⟩,
 ⟨.move (.tmp 61), some 62, none, [59, 58], fun v _ => v = .bool true⟩,
 ⟨.buildSlice 77 2 #[(0, .const (.int .i64 1)), (1, .const (.int .i64 2))], some 63, some (60, true), [60], LitV 2 [(1, 2)]⟩,
 ⟨.call { callee := .value (.func 16), args := #[.tmp 63], argTypes := #[77] }, some 64, some (60, true), [61, 60, 60], ClV 1 [(1, 2)]⟩,
 ⟨.build 64 #[], some 65, some (60, true), [60], fun v _ => v = .agg #[.int .i64 0, .int .i64 0]⟩,
 ⟨.build 64 #[(0, .const (.int .i64 1)), (1, .const (.int .i64 1))], some 66, some (60, true), [60], fun v _ => v = .agg #[.int .i64 1, .int .i64 1]⟩,
 ⟨.call { callee := .value (.func 22), args := #[.tmp 65, .tmp 66], argTypes := #[64, 64] }, some 67, some (60, true), [63, 64, 62, 60], TupV 1 [(1, 2)]⟩,
 ⟨.extract (.tmp 67) 0, some 68, some (60, true), [65, 60], RadV 1 [(1, 2)]⟩,
 ⟨.extract (.tmp 67) 1, some 69, some (60, true), [65, 60], fun v _ => v = .int .i64 0⟩,
 ⟨.call { callee := .value (.tmp 64), args := #[.tmp 68, .tmp 69], argTypes := #[27, 28] }, some 70, some (60, true), [62, 66, 67, 65, 60], fun v _ => v = .bool true⟩,
 ⟨.pick (.tmp 62) (.tmp 70) (.const (.bool false)), some 71, none, [60, 68], fun v _ => v = .bool true⟩,
 ⟨.assign (.tmp 71), some 1, none, [69, 68, 0, 1, 2, 3, 4, 5, 6, 7, 8, 9, 10, 11, 12, 13, 14, 15, 16, 17, 18, 19, 20, 21, 22, 23, 24, 25, 26, 27, 28, 29, 30, 31, 32, 33, 34, 35, 36, 37, 38, 39, 40, 41, 42, 43, 44, 45, 46, 47, 48, 49, 50, 51, 52, 53, 54, 55, 56, 57, 58, 59, 60, 61, 62, 63, 64, 65, 66, 67, 68, 69], fun v _ => v = .bool true⟩]
noncomputable def ziN  : List (Nat × Value) := [(0, .bool false)]
theorem zlq (V : World)   :
  AllStepsN Tryz.prog (zgg ) (ziN ) V (zgg ) := by
 refine nG ?_ fun a w hl hb hd o ho => by obtain ⟨d, op, ty, p, af, gg⟩ := o; simp only at ho; subst ho; have ec : ∀ v, a.eval (.const v) = v := fun _ => rfl; exact Runs.new (w' := w.alloc (.cells #[.int .i64 (-2), .int .i64 1, .int .i64 5, .int .i64 2] 3)) (by unfold execOp; generalize a.eval = ev at ec ⊢; simp only [ec]; go_simp) ⟨Lat.alloc _ _, fun _ => ⟨_, rfl, Blk.new _ _ _⟩⟩
 refine nG ?_ fun a w hl hb hd o ho => by obtain ⟨_, e1, g1, rfl, b1⟩ := hd 0 _ _ (by simp) rfl rfl; exact rcO o ho (zmz g1 4 4 [(-2, 1), (5, 2)] w b1 (by decide) rfl)
 refine nG ?_ fun a w hl hb hd o ho => by obtain ⟨d, op, ty, p, af, gg⟩ := o; simp only at ho; subst ho; have ec : ∀ v, a.eval (.const v) = v := fun _ => rfl; exact Runs.new (w' := w.alloc (.cells #[.int .i64 1, .int .i64 8, .int .i64 3, .int .i64 2, .int .i64 1, .int .i64 0, .int .i64 (-1), .int .i64 4] 3)) (by unfold execOp; generalize a.eval = ev at ec ⊢; simp only [ec]; go_simp) ⟨Lat.alloc _ _, fun _ => ⟨_, rfl, Blk.new _ _ _⟩⟩
 refine nG ?_ fun a w hl hb hd o ho => by obtain ⟨_, e1, g1, rfl, b1⟩ := hd 2 _ _ (by simp) rfl rfl; exact rcO o ho (zjw g1 8 8 [(1, 8), (3, 2), (1, 0), (-1, 4)] w b1 (by decide) rfl)
 refine nG ?_ fun a w hl hb hd o ho => by obtain ⟨_, e1, A1, c1, rfl, r1⟩ := hd 3 _ _ (by simp) rfl rfl; exact rcO o ho (wl_1 c1 r1)
 refine nG ?_ fun a w hl hb hd o ho => by obtain ⟨_, e1, A1, c1, rfl, r1⟩ := hd 4 _ _ (by simp) rfl rfl; exact rx o ho e1 ⟨A1, c1, rfl, r1⟩
 refine nG ?_ fun a w hl hb hd o ho => by obtain ⟨_, e1, A1, c1, rfl, r1⟩ := hd 4 _ _ (by simp) rfl rfl; exact rp1 o ho e1 fun ev ec e1 d ty p af g => by unfold execOp; simp only [e1, ec]; go_simp
 refine nG ?_ fun a w hl hb hd o ho => by obtain ⟨_, e9, gc, A9, c9, rfl, b9, r9⟩ := hd 1 _ _ (by simp) rfl rfl; obtain ⟨_, e1, A1, c1, rfl, r1⟩ := hd 5 _ _ (by simp) rfl rfl; obtain ⟨_, e2, rfl⟩ := hd 6 _ _ (by simp) rfl rfl; exact Runs.call (zbb (f := 55) (t := 3) #[.slice A1 2 c1, .int .i64 0] #[.slice A1 2 c1, .int .i64 0, .pointer (some ⟨gc, 0, none⟩)] rfl (fun _ => by go_simp) e9 o ho (by simp only [List.map_toArray, List.map_cons, List.map_nil, eval_const, e1, e2])) ((zcw A1 2 c1 [(-2, 1), (5, 2)] A9 c9 gc w r1 r9 b9 (by decide)).mono fun e w' h => ⟨_, h.1, h.2, fun _ => rfl⟩)
 refine n1 ?_ (ed 7) (fun ev w hl ec e1 d ty p af g => ?_)
 refine nG ?_ fun a w hl hb hd o ho => by exact rcO o ho (zm8 w)
 refine nG ?_ fun a w hl hb hd o ho => by obtain ⟨d, op, ty, p, af, gg⟩ := o; simp only at ho; subst ho; have ec : ∀ v, a.eval (.const v) = v := fun _ => rfl; exact Runs.new (w' := w.alloc (.cells #[.int .i64 1, .int .i64 12, .int .i64 (-2), .int .i64 3] 3)) (by unfold execOp; generalize a.eval = ev at ec ⊢; simp only [ec]; go_simp) ⟨Lat.alloc _ _, fun _ => ⟨_, rfl, Blk.new _ _ _⟩⟩
 refine nG ?_ fun a w hl hb hd o ho => by obtain ⟨_, e1, g1, rfl, b1⟩ := hd 10 _ _ (by simp) rfl rfl; exact rcO o ho (zjw g1 4 4 [(1, 12), (-2, 3)] w b1 (by decide) rfl)
 refine nG ?_ fun a w hl hb hd o ho => by obtain ⟨_, e1, A1, c1, rfl, r1⟩ := hd 11 _ _ (by simp) rfl rfl; exact rcO o ho (wl_2 c1 r1)
 refine nG ?_ fun a w hl hb hd o ho => by obtain ⟨_, e1, A1, c1, rfl, r1⟩ := hd 12 _ _ (by simp) rfl rfl; exact rx o ho e1 ⟨A1, c1, rfl, r1⟩
 refine nG ?_ fun a w hl hb hd o ho => by obtain ⟨_, e1, A1, c1, rfl, r1⟩ := hd 12 _ _ (by simp) rfl rfl; exact rp1 o ho e1 fun ev ec e1 d ty p af g => by unfold execOp; simp only [e1, ec]; go_simp
 refine nG ?_ fun a w hl hb hd o ho => by obtain ⟨_, e9, gc, A9, c9, rfl, b9, r9⟩ := hd 9 _ _ (by simp) rfl rfl; obtain ⟨_, e1, A1, c1, rfl, r1⟩ := hd 13 _ _ (by simp) rfl rfl; obtain ⟨_, e2, rfl⟩ := hd 14 _ _ (by simp) rfl rfl; exact Runs.call (zbb (f := 55) (t := 11) #[.slice A1 0 c1, .int .i64 0] #[.slice A1 0 c1, .int .i64 0, .pointer (some ⟨gc, 0, none⟩)] rfl (fun _ => by go_simp) e9 o ho (by simp only [List.map_toArray, List.map_cons, List.map_nil, eval_const, e1, e2])) ((zcw A1 0 c1 [] A9 c9 gc w r1 r9 b9 (by decide)).mono fun e w' h => ⟨_, h.1, h.2, fun _ => rfl⟩)
 refine n2 ?_ (ed 8) (ed 15) (fun ev w hl ec e1 e2 d ty p af g => ?_)
 refine n1 ?_ (ed 16) (fun ev w hl ec e1 d ty p af g => ?_)
 refine nG ?_ fun a w hl hb hd o ho => by obtain ⟨d, op, ty, p, af, gg⟩ := o; simp only at ho; subst ho; have ec : ∀ v, a.eval (.const v) = v := fun _ => rfl; exact Runs.new (w' := w.alloc (.cells #[.int .i64 1, .int .i64 4] 3)) (by unfold execOp; generalize a.eval = ev at ec ⊢; simp only [ec]; go_simp) ⟨Lat.alloc _ _, fun _ => ⟨_, rfl, Blk.new _ _ _⟩⟩
 refine nG ?_ fun a w hl hb hd o ho => by obtain ⟨_, e1, g1, rfl, b1⟩ := hd 18 _ _ (by simp) rfl rfl; exact rcO o ho (zjw g1 2 2 [(1, 4)] w b1 (by decide) rfl)
 refine nG ?_ fun a w hl hb hd o ho => by obtain ⟨_, e1, A1, c1, rfl, r1⟩ := hd 19 _ _ (by simp) rfl rfl; exact rcC o ho (wl_3 c1 r1)
 refine n1 ?_ (ed 20) (fun ev w hl ec e1 d ty p af g => ?_)
 refine n2 ?_ (ed 17) (ed 21) (fun ev w hl ec e1 e2 d ty p af g => ?_)
 refine n1 ?_ (ed 22) (fun ev w hl ec e1 d ty p af g => ?_)
 refine nG ?_ fun a w hl hb hd o ho => by obtain ⟨d, op, ty, p, af, gg⟩ := o; simp only at ho; subst ho; have ec : ∀ v, a.eval (.const v) = v := fun _ => rfl; exact Runs.new (w' := w.alloc (.cells #[.int .i64 1, .int .i64 3, .int .i64 1, .int .i64 2] 3)) (by unfold execOp; generalize a.eval = ev at ec ⊢; simp only [ec]; go_simp) ⟨Lat.alloc _ _, fun _ => ⟨_, rfl, Blk.new _ _ _⟩⟩
 refine nG ?_ fun a w hl hb hd o ho => by obtain ⟨_, e1, g1, rfl, b1⟩ := hd 24 _ _ (by simp) rfl rfl; exact rcO o ho (zjw g1 4 4 [(1, 3), (1, 2)] w b1 (by decide) rfl)
 refine nG ?_ fun a w hl hb hd o ho => by obtain ⟨_, e1, A1, c1, rfl, r1⟩ := hd 25 _ _ (by simp) rfl rfl; exact rcC o ho (wl_4 c1 r1)
 refine n1 ?_ (ed 26) (fun ev w hl ec e1 d ty p af g => ?_)
 refine n2 ?_ (ed 23) (ed 27) (fun ev w hl ec e1 e2 d ty p af g => ?_)
 refine n1 ?_ (ed 28) (fun ev w hl ec e1 d ty p af g => ?_)
 refine nG ?_ fun a w hl hb hd o ho => by exact rcO o ho (zm8 w)
 refine nG ?_ fun a w hl hb hd o ho => by obtain ⟨d, op, ty, p, af, gg⟩ := o; simp only at ho; subst ho; have ec : ∀ v, a.eval (.const v) = v := fun _ => rfl; exact Runs.new (w' := w.alloc (.cells #[.int .i64 1, .int .i64 2] 3)) (by unfold execOp; generalize a.eval = ev at ec ⊢; simp only [ec]; go_simp) ⟨Lat.alloc _ _, fun _ => ⟨_, rfl, Blk.new _ _ _⟩⟩
 refine nG ?_ fun a w hl hb hd o ho => by obtain ⟨_, e1, g1, rfl, b1⟩ := hd 31 _ _ (by simp) rfl rfl; exact rcO o ho (zjw g1 2 2 [(1, 2)] w b1 (by decide) rfl)
 refine nG ?_ fun a w hl hb hd o ho => by obtain ⟨d, op, ty, p, af, gg⟩ := o; simp only at ho; subst ho; have ec : ∀ v, a.eval (.const v) = v := fun _ => rfl; exact Runs.new (w' := w.alloc (.cells #[.int .i64 (-1), .int .i64 2] 3)) (by unfold execOp; generalize a.eval = ev at ec ⊢; simp only [ec]; go_simp) ⟨Lat.alloc _ _, fun _ => ⟨_, rfl, Blk.new _ _ _⟩⟩
 refine nG ?_ fun a w hl hb hd o ho => by obtain ⟨_, e1, g1, rfl, b1⟩ := hd 33 _ _ (by simp) rfl rfl; exact rcO o ho (zjw g1 2 2 [(-1, 2)] w b1 (by decide) rfl)
 refine nG ?_ fun a w hl hb hd o ho => by obtain ⟨_, e1, A1, c1, rfl, r1⟩ := hd 32 _ _ (by simp) rfl rfl; obtain ⟨_, e2, A2, c2, rfl, r2⟩ := hd 34 _ _ (by simp) rfl rfl; exact rcO o ho (wl_5 c1 c2 r1 r2)
 refine nG ?_ fun a w hl hb hd o ho => by obtain ⟨_, e1, A1, c1, rfl, r1⟩ := hd 35 _ _ (by simp) rfl rfl; exact rx o ho e1 ⟨A1, c1, rfl, r1⟩
 refine nG ?_ fun a w hl hb hd o ho => by obtain ⟨_, e1, A1, c1, rfl, r1⟩ := hd 35 _ _ (by simp) rfl rfl; exact rp1 o ho e1 fun ev ec e1 d ty p af g => by unfold execOp; simp only [e1, ec]; go_simp
 refine nG ?_ fun a w hl hb hd o ho => by obtain ⟨_, e9, gc, A9, c9, rfl, b9, r9⟩ := hd 30 _ _ (by simp) rfl rfl; obtain ⟨_, e1, A1, c1, rfl, r1⟩ := hd 36 _ _ (by simp) rfl rfl; obtain ⟨_, e2, rfl⟩ := hd 37 _ _ (by simp) rfl rfl; exact Runs.call (zbb (f := 55) (t := 32) #[.slice A1 0 c1, .int .i64 0] #[.slice A1 0 c1, .int .i64 0, .pointer (some ⟨gc, 0, none⟩)] rfl (fun _ => by go_simp) e9 o ho (by simp only [List.map_toArray, List.map_cons, List.map_nil, eval_const, e1, e2])) ((zcw A1 0 c1 [] A9 c9 gc w r1 r9 b9 (by decide)).mono fun e w' h => ⟨_, h.1, h.2, fun _ => rfl⟩)
 refine n2 ?_ (ed 29) (ed 38) (fun ev w hl ec e1 e2 d ty p af g => ?_)
 refine n1 ?_ (ed 39) (fun ev w hl ec e1 d ty p af g => ?_)
 refine nG ?_ fun a w hl hb hd o ho => by obtain ⟨d, op, ty, p, af, gg⟩ := o; simp only at ho; subst ho; have ec : ∀ v, a.eval (.const v) = v := fun _ => rfl; exact Runs.new (w' := w.alloc (.cells #[.int .i64 (-3), .int .i64 2] 3)) (by unfold execOp; generalize a.eval = ev at ec ⊢; simp only [ec]; go_simp) ⟨Lat.alloc _ _, fun _ => ⟨_, rfl, Blk.new _ _ _⟩⟩
 refine nG ?_ fun a w hl hb hd o ho => by obtain ⟨_, e1, g1, rfl, b1⟩ := hd 41 _ _ (by simp) rfl rfl; exact rcO o ho (zmz g1 2 2 [(-3, 2)] w b1 (by decide) rfl)
 refine nG ?_ fun a w hl hb hd o ho => by obtain ⟨d, op, ty, p, af, gg⟩ := o; simp only at ho; subst ho; have ec : ∀ v, a.eval (.const v) = v := fun _ => rfl; exact Runs.new (w' := w.alloc (.cells #[.int .i64 1, .int .i64 2] 3)) (by unfold execOp; generalize a.eval = ev at ec ⊢; simp only [ec]; go_simp) ⟨Lat.alloc _ _, fun _ => ⟨_, rfl, Blk.new _ _ _⟩⟩
 refine nG ?_ fun a w hl hb hd o ho => by obtain ⟨_, e1, g1, rfl, b1⟩ := hd 43 _ _ (by simp) rfl rfl; exact rcO o ho (zjw g1 2 2 [(1, 2)] w b1 (by decide) rfl)
 refine nG ?_ fun a w hl hb hd o ho => by obtain ⟨_, e1, A1, c1, rfl, r1⟩ := hd 44 _ _ (by simp) rfl rfl; exact rcO o ho (wl_6 c1 r1)
 refine nG ?_ fun a w hl hb hd o ho => by obtain ⟨_, e1, A1, c1, rfl, r1⟩ := hd 45 _ _ (by simp) rfl rfl; exact rx o ho e1 ⟨A1, c1, rfl, r1⟩
 refine nG ?_ fun a w hl hb hd o ho => by obtain ⟨_, e1, A1, c1, rfl, r1⟩ := hd 45 _ _ (by simp) rfl rfl; exact rp1 o ho e1 fun ev ec e1 d ty p af g => by unfold execOp; simp only [e1, ec]; go_simp
 refine nG ?_ fun a w hl hb hd o ho => by obtain ⟨_, e9, gc, A9, c9, rfl, b9, r9⟩ := hd 42 _ _ (by simp) rfl rfl; obtain ⟨_, e1, A1, c1, rfl, r1⟩ := hd 46 _ _ (by simp) rfl rfl; obtain ⟨_, e2, rfl⟩ := hd 47 _ _ (by simp) rfl rfl; exact Runs.call (zbb (f := 55) (t := 44) #[.slice A1 1 c1, .int .i64 0] #[.slice A1 1 c1, .int .i64 0, .pointer (some ⟨gc, 0, none⟩)] rfl (fun _ => by go_simp) e9 o ho (by simp only [List.map_toArray, List.map_cons, List.map_nil, eval_const, e1, e2])) ((zcw A1 1 c1 [(-3, 2)] A9 c9 gc w r1 r9 b9 (by decide)).mono fun e w' h => ⟨_, h.1, h.2, fun _ => rfl⟩)
 refine n2 ?_ (ed 40) (ed 48) (fun ev w hl ec e1 e2 d ty p af g => ?_)
 refine n1 ?_ (ed 49) (fun ev w hl ec e1 d ty p af g => ?_)
 refine nG ?_ fun a w hl hb hd o ho => by obtain ⟨d, op, ty, p, af, gg⟩ := o; simp only at ho; subst ho; have ec : ∀ v, a.eval (.const v) = v := fun _ => rfl; exact Runs.new (w' := w.alloc (.cells #[.int .i64 5, .int .i64 1] 3)) (by unfold execOp; generalize a.eval = ev at ec ⊢; simp only [ec]; go_simp) ⟨Lat.alloc _ _, fun _ => ⟨_, rfl, Blk.new _ _ _⟩⟩
 refine nG ?_ fun a w hl hb hd o ho => by obtain ⟨_, e1, g1, rfl, b1⟩ := hd 51 _ _ (by simp) rfl rfl; exact rcO o ho (zmz g1 2 2 [(5, 1)] w b1 (by decide) rfl)
 refine n0 ?_  (fun ev w hl ec  d ty p af g => ?_)
 refine n0 ?_  (fun ev w hl ec  d ty p af g => ?_)
 refine nG ?_ fun a w hl hb hd o ho => by obtain ⟨_, e1, rfl⟩ := hd 53 _ _ (by simp) rfl rfl; obtain ⟨_, e2, rfl⟩ := hd 54 _ _ (by simp) rfl rfl; exact rcO o ho (wl_7 w)
 refine nG ?_ fun a w hl hb hd o ho => by obtain ⟨_, e1, A1, c1, rfl, r1⟩ := hd 55 _ _ (by simp) rfl rfl; exact rx o ho e1 ⟨A1, c1, rfl, r1⟩
 refine nG ?_ fun a w hl hb hd o ho => by obtain ⟨_, e1, A1, c1, rfl, r1⟩ := hd 55 _ _ (by simp) rfl rfl; exact rp1 o ho e1 fun ev ec e1 d ty p af g => by unfold execOp; simp only [e1, ec]; go_simp
 refine nG ?_ fun a w hl hb hd o ho => by obtain ⟨_, e9, gc, A9, c9, rfl, b9, r9⟩ := hd 52 _ _ (by simp) rfl rfl; obtain ⟨_, e1, A1, c1, rfl, r1⟩ := hd 56 _ _ (by simp) rfl rfl; obtain ⟨_, e2, rfl⟩ := hd 57 _ _ (by simp) rfl rfl; exact Runs.call (zbb (f := 55) (t := 54) #[.slice A1 1 c1, .int .i64 0] #[.slice A1 1 c1, .int .i64 0, .pointer (some ⟨gc, 0, none⟩)] rfl (fun _ => by go_simp) e9 o ho (by simp only [List.map_toArray, List.map_cons, List.map_nil, eval_const, e1, e2])) ((zcw A1 1 c1 [(5, 1)] A9 c9 gc w r1 r9 b9 (by decide)).mono fun e w' h => ⟨_, h.1, h.2, fun _ => rfl⟩)
 refine n2 ?_ (ed 50) (ed 58) (fun ev w hl ec e1 e2 d ty p af g => ?_)
 refine n1 ?_ (ed 59) (fun ev w hl ec e1 d ty p af g => ?_)
 refine nG ?_ fun a w hl hb hd o ho => by obtain ⟨d, op, ty, p, af, gg⟩ := o; simp only at ho; subst ho; have ec : ∀ v, a.eval (.const v) = v := fun _ => rfl; exact Runs.new (w' := w.alloc (.cells #[.int .i64 1, .int .i64 2] 3)) (by unfold execOp; generalize a.eval = ev at ec ⊢; simp only [ec]; go_simp) ⟨Lat.alloc _ _, fun _ => ⟨_, rfl, Blk.new _ _ _⟩⟩
 refine nG ?_ fun a w hl hb hd o ho => by obtain ⟨_, e1, g1, rfl, b1⟩ := hd 61 _ _ (by simp) rfl rfl; exact rcO o ho (zmz g1 2 2 [(1, 2)] w b1 (by decide) rfl)
 refine n0 ?_  (fun ev w hl ec  d ty p af g => ?_)
 refine n0 ?_  (fun ev w hl ec  d ty p af g => ?_)
 refine nG ?_ fun a w hl hb hd o ho => by obtain ⟨_, e1, rfl⟩ := hd 63 _ _ (by simp) rfl rfl; obtain ⟨_, e2, rfl⟩ := hd 64 _ _ (by simp) rfl rfl; exact rcO o ho (wl_8 w)
 refine nG ?_ fun a w hl hb hd o ho => by obtain ⟨_, e1, A1, c1, rfl, r1⟩ := hd 65 _ _ (by simp) rfl rfl; exact rx o ho e1 ⟨A1, c1, rfl, r1⟩
 refine nG ?_ fun a w hl hb hd o ho => by obtain ⟨_, e1, A1, c1, rfl, r1⟩ := hd 65 _ _ (by simp) rfl rfl; exact rp1 o ho e1 fun ev ec e1 d ty p af g => by unfold execOp; simp only [e1, ec]; go_simp
 refine nG ?_ fun a w hl hb hd o ho => by obtain ⟨_, e9, gc, A9, c9, rfl, b9, r9⟩ := hd 62 _ _ (by simp) rfl rfl; obtain ⟨_, e1, A1, c1, rfl, r1⟩ := hd 66 _ _ (by simp) rfl rfl; obtain ⟨_, e2, rfl⟩ := hd 67 _ _ (by simp) rfl rfl; exact Runs.call (zbb (f := 55) (t := 64) #[.slice A1 1 c1, .int .i64 0] #[.slice A1 1 c1, .int .i64 0, .pointer (some ⟨gc, 0, none⟩)] rfl (fun _ => by go_simp) e9 o ho (by simp only [List.map_toArray, List.map_cons, List.map_nil, eval_const, e1, e2])) ((zcw A1 1 c1 [(1, 2)] A9 c9 gc w r1 r9 b9 (by decide)).mono fun e w' h => ⟨_, h.1, h.2, fun _ => rfl⟩)
 refine n2 ?_ (ed 60) (ed 68) (fun ev w hl ec e1 e2 d ty p af g => ?_)
 refine n1 ?_ (ed 69) (fun ev w hl ec e1 d ty p af g => ?_)
 ·exact AllStepsN.none
 all_goals (unfold execOp; first | simp only [e1, e2, ec] | simp only [e1, ec] | simp only [ec])
 all_goals go_simp
noncomputable def zgh (p1 q1 p2 q2 p3 q3 p4 q4 p5 q5 p6 q6 p7 q7 : W8) : List SRow := [
 ⟨.move (.tmp 1), some 72, none, [], fun v _ => v = .bool true⟩,
 ⟨.move (.tmp 72), some 73, none, [0], fun v _ => v = .bool true⟩,
 ⟨.call { callee := .value (.func 24), args := #[.const (.int .i64 5), .const (.int .i64 4)], argTypes := #[3, 3] }, some 74, some (1, true), [1, 1], fun v _ => v = .agg (W8.two p1 q1)⟩,
 ⟨.call { callee := .value (.func 24), args := #[.const (.int .i64 3), .const (.int .i64 2)], argTypes := #[3, 3] }, some 75, some (1, true), [2, 1], fun v _ => v = .agg (W8.two p2 q2)⟩,
 ⟨.call { callee := .value (.func 23), args := #[.tmp 74, .tmp 75], argTypes := #[40, 40] }, some 76, some (1, true), [2, 3, 3, 1], BtV p1 q1 p2 q2⟩,
 ⟨.buildSlice 77 2 #[(0, .const (.int .i64 1)), (1, .const (.int .i64 2))], some 77, some (1, true), [1], LitV 2 [(1, 2)]⟩,
 ⟨.call { callee := .value (.func 18), args := #[.tmp 77], argTypes := #[77] }, some 78, some (1, true), [5, 4, 1], RadV 1 [(1, 2)]⟩,
 ⟨.call { callee := .value (.func 9), args := #[.tmp 78, .const (.int .i64 2)], argTypes := #[27, 3] }, some 79, some (1, true), [6, 6, 1], fun v _ => v = .tuple #[.agg (W8.two p1 q1), .agg (W8.two p2 q2), .int .i64 0]⟩,
 ⟨.extract (.tmp 79) 0, some 80, some (1, true), [7, 1], fun v _ => v = .agg (W8.two p1 q1)⟩,
 ⟨.extract (.tmp 79) 1, some 81, some (1, true), [7, 1], fun v _ => v = .agg (W8.two p2 q2)⟩,
 ⟨.extract (.tmp 79) 2, some 82, some (1, true), [7, 1], fun v _ => v = .int .i64 0⟩,
 ⟨.call { callee := .value (.tmp 76), args := #[.tmp 80, .tmp 81, .tmp 82], argTypes := #[40, 40, 28] }, some 83, some (1, true), [4, 8, 9, 10, 7, 1], fun v _ => v = .bool true⟩,
 ⟨.pick (.tmp 73) (.tmp 83) (.const (.bool false)), some 84, none, [1, 11], fun v _ => v = .bool true⟩,
 ⟨.move (.tmp 84), some 85, none, [12, 11], fun v _ => v = .bool true⟩,
 ⟨.call { callee := .value (.func 24), args := #[.const (.int .i64 (-3)), .const (.int .i64 2)], argTypes := #[3, 3] }, some 86, some (13, true), [13, 13], fun v _ => v = .agg (W8.two p3 q3)⟩,
 ⟨.call { callee := .value (.func 24), args := #[.const (.int .i64 (-5)), .const (.int .i64 4)], argTypes := #[3, 3] }, some 87, some (13, true), [14, 13], fun v _ => v = .agg (W8.two p4 q4)⟩,
 ⟨.call { callee := .value (.func 23), args := #[.tmp 86, .tmp 87], argTypes := #[40, 40] }, some 88, some (13, true), [14, 15, 15, 13], BtV p3 q3 p4 q4⟩,
 ⟨.buildSlice 77 2 #[(0, .const (.int .i64 (-1))), (1, .const (.int .i64 2))], some 89, some (13, true), [13], LitV 2 [(-1, 2)]⟩,
 ⟨.call { callee := .value (.func 18), args := #[.tmp 89], argTypes := #[77] }, some 90, some (13, true), [17, 16, 13], RadV 1 [(-1, 2)]⟩,
 ⟨.call { callee := .value (.func 9), args := #[.tmp 90, .const (.int .i64 2)], argTypes := #[27, 3] }, some 91, some (13, true), [18, 18, 13], fun v _ => v = .tuple #[.agg (W8.two p3 q3), .agg (W8.two p4 q4), .int .i64 0]⟩,
 ⟨.extract (.tmp 91) 0, some 92, some (13, true), [19, 13], fun v _ => v = .agg (W8.two p3 q3)⟩,
 ⟨.extract (.tmp 91) 1, some 93, some (13, true), [19, 13], fun v _ => v = .agg (W8.two p4 q4)⟩,
 ⟨.extract (.tmp 91) 2, some 94, some (13, true), [19, 13], fun v _ => v = .int .i64 0⟩,
 ⟨.call { callee := .value (.tmp 88), args := #[.tmp 92, .tmp 93, .tmp 94], argTypes := #[40, 40, 28] }, some 95, some (13, true), [16, 20, 21, 22, 19, 13], fun v _ => v = .bool true⟩,
 ⟨.pick (.tmp 85) (.tmp 95) (.const (.bool false)), some 96, none, [13, 23], fun v _ => v = .bool true⟩,
 ⟨.move (.tmp 96), some 97, none, [24, 23], fun v _ => v = .bool true⟩,
 ⟨.call { callee := .value (.func 24), args := #[.const (.int .i64 3), .const (.int .i64 1)], argTypes := #[3, 3] }, some 98, some (25, true), [25, 25], fun v _ => v = .agg (W8.two p5 q5)⟩,
 ⟨.call { callee := .value (.func 24), args := #[.const (.int .i64 3), .const (.int .i64 1)], argTypes := #[3, 3] }, some 99, some (25, true), [26, 25], fun v _ => v = .agg (W8.two p5 q5)⟩,
 ⟨.call { callee := .value (.func 23), args := #[.tmp 98, .tmp 99], argTypes := #[40, 40] }, some 100, some (25, true), [26, 27, 27, 25], BtV p5 q5 p5 q5⟩,
 ⟨.buildSlice 77 2 #[(0, .const (.int .i64 3)), (1, .const (.int .i64 1))], some 101, some (25, true), [25], LitV 2 [(3, 1)]⟩,
 ⟨.call { callee := .value (.func 18), args := #[.tmp 101], argTypes := #[77] }, some 102, some (25, true), [29, 28, 25], RadV 1 [(3, 1)]⟩,
 ⟨.call { callee := .value (.func 9), args := #[.tmp 102, .const (.int .i64 0)], argTypes := #[27, 3] }, some 103, some (25, true), [30, 30, 25], fun v _ => v = .tuple #[.agg (W8.two p5 q5), .agg (W8.two p5 q5), .int .i64 0]⟩,
 ⟨.extract (.tmp 103) 0, some 104, some (25, true), [31, 25], fun v _ => v = .agg (W8.two p5 q5)⟩,
 ⟨.extract (.tmp 103) 1, some 105, some (25, true), [31, 25], fun v _ => v = .agg (W8.two p5 q5)⟩,
 ⟨.extract (.tmp 103) 2, some 106, some (25, true), [31, 25], fun v _ => v = .int .i64 0⟩,
 ⟨.call { callee := .value (.tmp 100), args := #[.tmp 104, .tmp 105, .tmp 106], argTypes := #[40, 40, 28] }, some 107, some (25, true), [28, 32, 33, 34, 31, 25], fun v _ => v = .bool true⟩,
 ⟨.pick (.tmp 97) (.tmp 107) (.const (.bool false)), some 108, none, [25, 35], fun v _ => v = .bool true⟩]
noncomputable def ziO (p1 q1 p2 q2 p3 q3 p4 q4 p5 q5 p6 q6 p7 q7 : W8) : List (Nat × Value) := [(1, .bool true)]
theorem zlr (V : World) (p1 q1 p2 q2 p3 q3 p4 q4 p5 q5 p6 q6 p7 q7 : W8) (HS1 : ShareIs (zaT 5 4) (zaU 5 4) p1 q1 0) (HS2 : ShareIs (zaT 3 2) (zaU 3 2) p2 q2 0) (HS3 : ShareIs (zaT (-3) 2) (zaU (-3) 2) p3 q3 0) (HS4 : ShareIs (zaT (-5) 4) (zaU (-5) 4) p4 q4 0) (HS5 : ShareIs (zaT 3 1) (zaU 3 1) p5 q5 0) (HS6 : ShareIs (zaT 7 5) (zaU 7 5) p6 q6 0) (HS7 : ShareIs (zaT (-2) 1) (zaU (-2) 1) p7 q7 0) :
  AllSteps Tryz.prog (zgh p1 q1 p2 q2 p3 q3 p4 q4 p5 q5 p6 q6 p7 q7) (ziO p1 q1 p2 q2 p3 q3 p4 q4 p5 q5 p6 q6 p7 q7) V (zgh p1 q1 p2 q2 p3 q3 p4 q4 p5 q5 p6 q6 p7 q7) := by
 refine nS ?_ fun a w hl hb hd o ho => by have e1 := hb 1 _ rfl; exact rp1 o ho e1 fun ev ec e1 d ty p af g => by unfold execOp; simp only [e1, ec]; go_simp
 refine nS ?_ fun a w hl hb hd o ho => by obtain ⟨_, e1, rfl⟩ := hd 0 _ _ (by simp) rfl rfl; exact rp1 o ho e1 fun ev ec e1 d ty p af g => by unfold execOp; simp only [e1, ec]; go_simp
 refine nS ?_ fun a w hl hb hd o ho => by exact rcC o ho (zna 5 4 (by decide) (by decide) (by decide) (by decide) (by decide) HS1 w)
 refine nS ?_ fun a w hl hb hd o ho => by exact rcC o ho (zna 3 2 (by decide) (by decide) (by decide) (by decide) (by decide) HS2 w)
 refine nS ?_ fun a w hl hb hd o ho => by obtain ⟨_, e1, rfl⟩ := hd 2 _ _ (by simp) rfl rfl; obtain ⟨_, e2, rfl⟩ := hd 3 _ _ (by simp) rfl rfl; exact rcO o ho (znT p1 q1 p2 q2 w)
 refine nS ?_ fun a w hl hb hd o ho => by obtain ⟨d, op, ty, p, af, gg⟩ := o; simp only at ho; subst ho; have ec : ∀ v, a.eval (.const v) = v := fun _ => rfl; exact Runs.new (w' := w.alloc (.cells #[.int .i64 1, .int .i64 2] 3)) (by unfold execOp; generalize a.eval = ev at ec ⊢; simp only [ec]; go_simp) ⟨Lat.alloc _ _, fun _ => ⟨_, rfl, Blk.new _ _ _⟩⟩
 refine nS ?_ fun a w hl hb hd o ho => by obtain ⟨_, e1, g1, rfl, b1⟩ := hd 5 _ _ (by simp) rfl rfl; exact rcO o ho (zjw g1 2 2 [(1, 2)] w b1 (by decide) rfl)
 refine nS ?_ fun a w hl hb hd o ho => by obtain ⟨_, e1, A1, c1, rfl, r1⟩ := hd 6 _ _ (by simp) rfl rfl; exact rcC o ho (wl_9 c1 r1 HS1 HS2)
 refine nS ?_ fun a w hl hb hd o ho => by obtain ⟨_, e1, rfl⟩ := hd 7 _ _ (by simp) rfl rfl; exact rp1 o ho e1 fun ev ec e1 d ty p af g => by unfold execOp; simp only [e1, ec]; go_simp
 refine nS ?_ fun a w hl hb hd o ho => by obtain ⟨_, e1, rfl⟩ := hd 7 _ _ (by simp) rfl rfl; exact rp1 o ho e1 fun ev ec e1 d ty p af g => by unfold execOp; simp only [e1, ec]; go_simp
 refine nS ?_ fun a w hl hb hd o ho => by obtain ⟨_, e1, rfl⟩ := hd 7 _ _ (by simp) rfl rfl; exact rp1 o ho e1 fun ev ec e1 d ty p af g => by unfold execOp; simp only [e1, ec]; go_simp
 refine nS ?_ fun a w hl hb hd o ho => by obtain ⟨_, e9, ga, gb, rfl, b8, b9⟩ := hd 4 _ _ (by simp) rfl rfl; obtain ⟨_, e1, rfl⟩ := hd 8 _ _ (by simp) rfl rfl; obtain ⟨_, e2, rfl⟩ := hd 9 _ _ (by simp) rfl rfl; obtain ⟨_, e3, rfl⟩ := hd 10 _ _ (by simp) rfl rfl; exact Runs.call (zbb (f := 69) (t := 76) #[.agg (W8.two p1 q1), .agg (W8.two p2 q2), .int .i64 0] #[.agg (W8.two p1 q1), .agg (W8.two p2 q2), .int .i64 0, .pointer (some ⟨ga, 0, none⟩), .pointer (some ⟨gb, 0, none⟩)] rfl (fun _ => by go_simp) e9 o ho (by simp only [List.map_toArray, List.map_cons, List.map_nil, eval_const, e1, e2, e3])) ((zcc p1 q1 p2 q2 (zaH HS1).1 (zaH HS1).2 (zaH HS2).1 (zaH HS2).2 ga gb w b8 b9).mono fun e w' h => ⟨_, h.1, h.2, fun _ => rfl⟩)
 refine nS ?_ fun a w hl hb hd o ho => by obtain ⟨_, e1, rfl⟩ := hd 1 _ _ (by simp) rfl rfl; obtain ⟨_, e2, rfl⟩ := hd 11 _ _ (by simp) rfl rfl; exact Runs.val (zdo (S := fun _ => True) e1 e2 o w ho trivial) ⟨Lat.refl _, fun _ => rfl⟩
 refine nS ?_ fun a w hl hb hd o ho => by obtain ⟨_, e1, rfl⟩ := hd 12 _ _ (by simp) rfl rfl; exact rp1 o ho e1 fun ev ec e1 d ty p af g => by unfold execOp; simp only [e1, ec]; go_simp
 refine nS ?_ fun a w hl hb hd o ho => by exact rcC o ho (zna (-3) 2 (by decide) (by decide) (by decide) (by decide) (by decide) HS3 w)
 refine nS ?_ fun a w hl hb hd o ho => by exact rcC o ho (zna (-5) 4 (by decide) (by decide) (by decide) (by decide) (by decide) HS4 w)
 refine nS ?_ fun a w hl hb hd o ho => by obtain ⟨_, e1, rfl⟩ := hd 14 _ _ (by simp) rfl rfl; obtain ⟨_, e2, rfl⟩ := hd 15 _ _ (by simp) rfl rfl; exact rcO o ho (znT p3 q3 p4 q4 w)
 refine nS ?_ fun a w hl hb hd o ho => by obtain ⟨d, op, ty, p, af, gg⟩ := o; simp only at ho; subst ho; have ec : ∀ v, a.eval (.const v) = v := fun _ => rfl; exact Runs.new (w' := w.alloc (.cells #[.int .i64 (-1), .int .i64 2] 3)) (by unfold execOp; generalize a.eval = ev at ec ⊢; simp only [ec]; go_simp) ⟨Lat.alloc _ _, fun _ => ⟨_, rfl, Blk.new _ _ _⟩⟩
 refine nS ?_ fun a w hl hb hd o ho => by obtain ⟨_, e1, g1, rfl, b1⟩ := hd 17 _ _ (by simp) rfl rfl; exact rcO o ho (zjw g1 2 2 [(-1, 2)] w b1 (by decide) rfl)
 refine nS ?_ fun a w hl hb hd o ho => by obtain ⟨_, e1, A1, c1, rfl, r1⟩ := hd 18 _ _ (by simp) rfl rfl; exact rcC o ho (wl_10 c1 r1 HS3 HS4)
 refine nS ?_ fun a w hl hb hd o ho => by obtain ⟨_, e1, rfl⟩ := hd 19 _ _ (by simp) rfl rfl; exact rp1 o ho e1 fun ev ec e1 d ty p af g => by unfold execOp; simp only [e1, ec]; go_simp
 refine nS ?_ fun a w hl hb hd o ho => by obtain ⟨_, e1, rfl⟩ := hd 19 _ _ (by simp) rfl rfl; exact rp1 o ho e1 fun ev ec e1 d ty p af g => by unfold execOp; simp only [e1, ec]; go_simp
 refine nS ?_ fun a w hl hb hd o ho => by obtain ⟨_, e1, rfl⟩ := hd 19 _ _ (by simp) rfl rfl; exact rp1 o ho e1 fun ev ec e1 d ty p af g => by unfold execOp; simp only [e1, ec]; go_simp
 refine nS ?_ fun a w hl hb hd o ho => by obtain ⟨_, e9, ga, gb, rfl, b8, b9⟩ := hd 16 _ _ (by simp) rfl rfl; obtain ⟨_, e1, rfl⟩ := hd 20 _ _ (by simp) rfl rfl; obtain ⟨_, e2, rfl⟩ := hd 21 _ _ (by simp) rfl rfl; obtain ⟨_, e3, rfl⟩ := hd 22 _ _ (by simp) rfl rfl; exact Runs.call (zbb (f := 69) (t := 88) #[.agg (W8.two p3 q3), .agg (W8.two p4 q4), .int .i64 0] #[.agg (W8.two p3 q3), .agg (W8.two p4 q4), .int .i64 0, .pointer (some ⟨ga, 0, none⟩), .pointer (some ⟨gb, 0, none⟩)] rfl (fun _ => by go_simp) e9 o ho (by simp only [List.map_toArray, List.map_cons, List.map_nil, eval_const, e1, e2, e3])) ((zcc p3 q3 p4 q4 (zaH HS3).1 (zaH HS3).2 (zaH HS4).1 (zaH HS4).2 ga gb w b8 b9).mono fun e w' h => ⟨_, h.1, h.2, fun _ => rfl⟩)
 refine nS ?_ fun a w hl hb hd o ho => by obtain ⟨_, e1, rfl⟩ := hd 13 _ _ (by simp) rfl rfl; obtain ⟨_, e2, rfl⟩ := hd 23 _ _ (by simp) rfl rfl; exact Runs.val (zdo (S := fun _ => True) e1 e2 o w ho trivial) ⟨Lat.refl _, fun _ => rfl⟩
 refine nS ?_ fun a w hl hb hd o ho => by obtain ⟨_, e1, rfl⟩ := hd 24 _ _ (by simp) rfl rfl; exact rp1 o ho e1 fun ev ec e1 d ty p af g => by unfold execOp; simp only [e1, ec]; go_simp
 refine nS ?_ fun a w hl hb hd o ho => by exact rcC o ho (zna 3 1 (by decide) (by decide) (by decide) (by decide) (by decide) HS5 w)
 refine nS ?_ fun a w hl hb hd o ho => by exact rcC o ho (zna 3 1 (by decide) (by decide) (by decide) (by decide) (by decide) HS5 w)
 refine nS ?_ fun a w hl hb hd o ho => by obtain ⟨_, e1, rfl⟩ := hd 26 _ _ (by simp) rfl rfl; obtain ⟨_, e2, rfl⟩ := hd 27 _ _ (by simp) rfl rfl; exact rcO o ho (znT p5 q5 p5 q5 w)
 refine nS ?_ fun a w hl hb hd o ho => by obtain ⟨d, op, ty, p, af, gg⟩ := o; simp only at ho; subst ho; have ec : ∀ v, a.eval (.const v) = v := fun _ => rfl; exact Runs.new (w' := w.alloc (.cells #[.int .i64 3, .int .i64 1] 3)) (by unfold execOp; generalize a.eval = ev at ec ⊢; simp only [ec]; go_simp) ⟨Lat.alloc _ _, fun _ => ⟨_, rfl, Blk.new _ _ _⟩⟩
 refine nS ?_ fun a w hl hb hd o ho => by obtain ⟨_, e1, g1, rfl, b1⟩ := hd 29 _ _ (by simp) rfl rfl; exact rcO o ho (zjw g1 2 2 [(3, 1)] w b1 (by decide) rfl)
 refine nS ?_ fun a w hl hb hd o ho => by obtain ⟨_, e1, A1, c1, rfl, r1⟩ := hd 30 _ _ (by simp) rfl rfl; exact rcC o ho (wl_11 c1 r1 HS5 HS5)
 refine nS ?_ fun a w hl hb hd o ho => by obtain ⟨_, e1, rfl⟩ := hd 31 _ _ (by simp) rfl rfl; exact rp1 o ho e1 fun ev ec e1 d ty p af g => by unfold execOp; simp only [e1, ec]; go_simp
 refine nS ?_ fun a w hl hb hd o ho => by obtain ⟨_, e1, rfl⟩ := hd 31 _ _ (by simp) rfl rfl; exact rp1 o ho e1 fun ev ec e1 d ty p af g => by unfold execOp; simp only [e1, ec]; go_simp
 refine nS ?_ fun a w hl hb hd o ho => by obtain ⟨_, e1, rfl⟩ := hd 31 _ _ (by simp) rfl rfl; exact rp1 o ho e1 fun ev ec e1 d ty p af g => by unfold execOp; simp only [e1, ec]; go_simp
 refine nS ?_ fun a w hl hb hd o ho => by obtain ⟨_, e9, ga, gb, rfl, b8, b9⟩ := hd 28 _ _ (by simp) rfl rfl; obtain ⟨_, e1, rfl⟩ := hd 32 _ _ (by simp) rfl rfl; obtain ⟨_, e2, rfl⟩ := hd 33 _ _ (by simp) rfl rfl; obtain ⟨_, e3, rfl⟩ := hd 34 _ _ (by simp) rfl rfl; exact Runs.call (zbb (f := 69) (t := 100) #[.agg (W8.two p5 q5), .agg (W8.two p5 q5), .int .i64 0] #[.agg (W8.two p5 q5), .agg (W8.two p5 q5), .int .i64 0, .pointer (some ⟨ga, 0, none⟩), .pointer (some ⟨gb, 0, none⟩)] rfl (fun _ => by go_simp) e9 o ho (by simp only [List.map_toArray, List.map_cons, List.map_nil, eval_const, e1, e2, e3])) ((zcc p5 q5 p5 q5 (zaH HS5).1 (zaH HS5).2 (zaH HS5).1 (zaH HS5).2 ga gb w b8 b9).mono fun e w' h => ⟨_, h.1, h.2, fun _ => rfl⟩)
 refine nS ?_ fun a w hl hb hd o ho => by obtain ⟨_, e1, rfl⟩ := hd 25 _ _ (by simp) rfl rfl; obtain ⟨_, e2, rfl⟩ := hd 35 _ _ (by simp) rfl rfl; exact Runs.val (zdo (S := fun _ => True) e1 e2 o w ho trivial) ⟨Lat.refl _, fun _ => rfl⟩
 exact AllSteps.none
noncomputable def zgi (p1 q1 p2 q2 p3 q3 p4 q4 p5 q5 p6 q6 p7 q7 : W8) : List SRow := [
 ⟨.move (.tmp 1), some 109, none, [], fun v _ => v = .bool true⟩,
 ⟨.move (.tmp 109), some 110, none, [0], fun v _ => v = .bool true⟩,
 ⟨.call { callee := .value (.func 25), args := #[.const (.int .i64 1)], argTypes := #[3] }, some 111, some (1, true), [1, 1], SyV 1⟩,
 ⟨.buildSlice 77 6 #[(0, .const (.int .i64 (-3))), (1, .const (.int .i64 1)), (2, .const (.int .i64 1)), (3, .const (.int .i64 2)), (4, .const (.int .i64 1)), (5, .const (.int .i64 3))], some 112, some (1, true), [1], LitV 6 [(-3, 1), (1, 2), (1, 3)]⟩,
 ⟨.call { callee := .value (.func 18), args := #[.tmp 112], argTypes := #[77] }, some 113, some (1, true), [3, 2, 1], RadV 3 [(-3, 1), (1, 2), (1, 3)]⟩,
 ⟨.call { callee := .value (.func 11), args := #[.tmp 113], argTypes := #[27] }, some 114, some (1, true), [4, 4, 1], fun v _ => v = .tuple #[.int .i64 1, .int .i64 0]⟩,
 ⟨.extract (.tmp 114) 0, some 115, some (1, true), [5, 1], fun v _ => v = .int .i64 1⟩,
 ⟨.extract (.tmp 114) 1, some 116, some (1, true), [5, 1], fun v _ => v = .int .i64 0⟩,
 ⟨.call { callee := .value (.tmp 111), args := #[.tmp 115, .tmp 116], argTypes := #[3, 28] }, some 117, some (1, true), [2, 6, 7, 5, 1], fun v _ => v = .bool true⟩,
 ⟨.pick (.tmp 110) (.tmp 117) (.const (.bool false)), some 118, none, [1, 8], fun v _ => v = .bool true⟩,
 ⟨.move (.tmp 118), some 119, none, [9, 8], fun v _ => v = .bool true⟩,
 ⟨.call { callee := .value (.func 25), args := #[.const (.int .i64 1)], argTypes := #[3] }, some 120, some (10, true), [10, 10], SyV 1⟩,
 ⟨.buildSlice 77 2 #[(0, .const (.int .i64 1)), (1, .const (.int .i64 2))], some 121, some (10, true), [10], LitV 2 [(1, 2)]⟩,
 ⟨.call { callee := .value (.func 18), args := #[.tmp 121], argTypes := #[77] }, some 122, some (10, true), [12, 11, 10], RadV 1 [(1, 2)]⟩,
 ⟨.call { callee := .value (.func 24), args := #[.const (.int .i64 7), .const (.int .i64 5)], argTypes := #[3, 3] }, some 123, some (10, true), [13, 10], fun v _ => v = .agg (W8.two p6 q6)⟩,
 ⟨.call { callee := .value (.func 14), args := #[.tmp 122, .tmp 123], argTypes := #[27, 40] }, some 124, some (10, true), [13, 14, 14, 10], fun v _ => v = .tuple #[.int .i64 1, .int .i64 0]⟩,
 ⟨.extract (.tmp 124) 0, some 125, some (10, true), [15, 10], fun v _ => v = .int .i64 1⟩,
 ⟨.extract (.tmp 124) 1, some 126, some (10, true), [15, 10], fun v _ => v = .int .i64 0⟩,
 ⟨.call { callee := .value (.tmp 120), args := #[.tmp 125, .tmp 126], argTypes := #[3, 28] }, some 127, some (10, true), [11, 16, 17, 15, 10], fun v _ => v = .bool true⟩,
 ⟨.pick (.tmp 119) (.tmp 127) (.const (.bool false)), some 128, none, [10, 18], fun v _ => v = .bool true⟩,
 ⟨.move (.tmp 128), some 129, none, [19, 18], fun v _ => v = .bool true⟩,
 ⟨.call { callee := .value (.func 25), args := #[.const (.int .i64 0)], argTypes := #[3] }, some 130, some (20, true), [20, 20], SyV 0⟩,
 ⟨.buildSlice 77 2 #[(0, .const (.int .i64 (-2))), (1, .const (.int .i64 1))], some 131, some (20, true), [20], LitV 2 [(-2, 1)]⟩,
 ⟨.call { callee := .value (.func 18), args := #[.tmp 131], argTypes := #[77] }, some 132, some (20, true), [22, 21, 20], RadV 1 [(-2, 1)]⟩,
 ⟨.call { callee := .value (.func 24), args := #[.const (.int .i64 (-2)), .const (.int .i64 1)], argTypes := #[3, 3] }, some 133, some (20, true), [23, 20], fun v _ => v = .agg (W8.two p7 q7)⟩,
 ⟨.call { callee := .value (.func 14), args := #[.tmp 132, .tmp 133], argTypes := #[27, 40] }, some 134, some (20, true), [23, 24, 24, 20], fun v _ => v = .tuple #[.int .i64 0, .int .i64 0]⟩,
 ⟨.extract (.tmp 134) 0, some 135, some (20, true), [25, 20], fun v _ => v = .int .i64 0⟩,
 ⟨.extract (.tmp 134) 1, some 136, some (20, true), [25, 20], fun v _ => v = .int .i64 0⟩,
 ⟨.call { callee := .value (.tmp 130), args := #[.tmp 135, .tmp 136], argTypes := #[3, 28] }, some 137, some (20, true), [21, 26, 27, 25, 20], fun v _ => v = .bool true⟩,
 ⟨.pick (.tmp 129) (.tmp 137) (.const (.bool false)), some 138, none, [20, 28], fun v _ => v = .bool true⟩,
 ⟨.assign (.tmp 138), some 0, none, [29, 28, 0, 1, 2, 3, 4, 5, 6, 7, 8, 9, 10, 11, 12, 13, 14, 15, 16, 17, 18, 19, 20, 21, 22, 23, 24, 25, 26, 27, 28, 29], fun v _ => v = .bool true⟩]
noncomputable def ziP (p1 q1 p2 q2 p3 q3 p4 q4 p5 q5 p6 q6 p7 q7 : W8) : List (Nat × Value) := [(1, .bool true)]
theorem zls (V : World) (p1 q1 p2 q2 p3 q3 p4 q4 p5 q5 p6 q6 p7 q7 : W8) (HS1 : ShareIs (zaT 5 4) (zaU 5 4) p1 q1 0) (HS2 : ShareIs (zaT 3 2) (zaU 3 2) p2 q2 0) (HS3 : ShareIs (zaT (-3) 2) (zaU (-3) 2) p3 q3 0) (HS4 : ShareIs (zaT (-5) 4) (zaU (-5) 4) p4 q4 0) (HS5 : ShareIs (zaT 3 1) (zaU 3 1) p5 q5 0) (HS6 : ShareIs (zaT 7 5) (zaU 7 5) p6 q6 0) (HS7 : ShareIs (zaT (-2) 1) (zaU (-2) 1) p7 q7 0) :
  AllStepsN Tryz.prog (zgi p1 q1 p2 q2 p3 q3 p4 q4 p5 q5 p6 q6 p7 q7) (ziP p1 q1 p2 q2 p3 q3 p4 q4 p5 q5 p6 q6 p7 q7) V (zgi p1 q1 p2 q2 p3 q3 p4 q4 p5 q5 p6 q6 p7 q7) := by
 refine n1 ?_ (eb 1) (fun ev w hl ec e1 d ty p af g => ?_)
 refine n1 ?_ (ed 0) (fun ev w hl ec e1 d ty p af g => ?_)
 refine nG ?_ fun a w hl hb hd o ho => by exact rcO o ho (zhN 1 w)
 refine nG ?_ fun a w hl hb hd o ho => by obtain ⟨d, op, ty, p, af, gg⟩ := o; simp only at ho; subst ho; have ec : ∀ v, a.eval (.const v) = v := fun _ => rfl; exact Runs.new (w' := w.alloc (.cells #[.int .i64 (-3), .int .i64 1, .int .i64 1, .int .i64 2, .int .i64 1, .int .i64 3] 3)) (by unfold execOp; generalize a.eval = ev at ec ⊢; simp only [ec]; go_simp) ⟨Lat.alloc _ _, fun _ => ⟨_, rfl, Blk.new _ _ _⟩⟩
 refine nG ?_ fun a w hl hb hd o ho => by obtain ⟨_, e1, g1, rfl, b1⟩ := hd 3 _ _ (by simp) rfl rfl; exact rcO o ho (zjw g1 6 6 [(-3, 1), (1, 2), (1, 3)] w b1 (by decide) rfl)
 refine nG ?_ fun a w hl hb hd o ho => by obtain ⟨_, e1, A1, c1, rfl, r1⟩ := hd 4 _ _ (by simp) rfl rfl; exact rcC o ho (wl_12 c1 r1)
 refine n1 ?_ (ed 5) (fun ev w hl ec e1 d ty p af g => ?_)
 refine n1 ?_ (ed 5) (fun ev w hl ec e1 d ty p af g => ?_)
 refine nG ?_ fun a w hl hb hd o ho => by obtain ⟨_, e9, ga, rfl, b9⟩ := hd 2 _ _ (by simp) rfl rfl; obtain ⟨_, e1, rfl⟩ := hd 6 _ _ (by simp) rfl rfl; obtain ⟨_, e2, rfl⟩ := hd 7 _ _ (by simp) rfl rfl; exact Runs.call (zbb (f := 70) (t := 111) #[.int .i64 1, .int .i64 0] #[.int .i64 1, .int .i64 0, .pointer (some ⟨ga, 0, none⟩)] rfl (fun _ => by go_simp) e9 o ho (by simp only [List.map_toArray, List.map_cons, List.map_nil, eval_const, e1, e2])) ((zdz 1 ga w b9).mono fun e w' h => ⟨_, h.1, h.2, fun _ => rfl⟩)
 refine n2 ?_ (ed 1) (ed 8) (fun ev w hl ec e1 e2 d ty p af g => ?_)
 refine n1 ?_ (ed 9) (fun ev w hl ec e1 d ty p af g => ?_)
 refine nG ?_ fun a w hl hb hd o ho => by exact rcO o ho (zhN 1 w)
 refine nG ?_ fun a w hl hb hd o ho => by obtain ⟨d, op, ty, p, af, gg⟩ := o; simp only at ho; subst ho; have ec : ∀ v, a.eval (.const v) = v := fun _ => rfl; exact Runs.new (w' := w.alloc (.cells #[.int .i64 1, .int .i64 2] 3)) (by unfold execOp; generalize a.eval = ev at ec ⊢; simp only [ec]; go_simp) ⟨Lat.alloc _ _, fun _ => ⟨_, rfl, Blk.new _ _ _⟩⟩
 refine nG ?_ fun a w hl hb hd o ho => by obtain ⟨_, e1, g1, rfl, b1⟩ := hd 12 _ _ (by simp) rfl rfl; exact rcO o ho (zjw g1 2 2 [(1, 2)] w b1 (by decide) rfl)
 refine nG ?_ fun a w hl hb hd o ho => by exact rcC o ho (zna 7 5 (by decide) (by decide) (by decide) (by decide) (by decide) HS6 w)
 refine nG ?_ fun a w hl hb hd o ho => by obtain ⟨_, e1, A1, c1, rfl, r1⟩ := hd 13 _ _ (by simp) rfl rfl; obtain ⟨_, e2, rfl⟩ := hd 14 _ _ (by simp) rfl rfl; exact rcC o ho (wl_13 c1 r1 HS6)
 refine n1 ?_ (ed 15) (fun ev w hl ec e1 d ty p af g => ?_)
 refine n1 ?_ (ed 15) (fun ev w hl ec e1 d ty p af g => ?_)
 refine nG ?_ fun a w hl hb hd o ho => by obtain ⟨_, e9, ga, rfl, b9⟩ := hd 11 _ _ (by simp) rfl rfl; obtain ⟨_, e1, rfl⟩ := hd 16 _ _ (by simp) rfl rfl; obtain ⟨_, e2, rfl⟩ := hd 17 _ _ (by simp) rfl rfl; exact Runs.call (zbb (f := 70) (t := 120) #[.int .i64 1, .int .i64 0] #[.int .i64 1, .int .i64 0, .pointer (some ⟨ga, 0, none⟩)] rfl (fun _ => by go_simp) e9 o ho (by simp only [List.map_toArray, List.map_cons, List.map_nil, eval_const, e1, e2])) ((zdz 1 ga w b9).mono fun e w' h => ⟨_, h.1, h.2, fun _ => rfl⟩)
 refine n2 ?_ (ed 10) (ed 18) (fun ev w hl ec e1 e2 d ty p af g => ?_)
 refine n1 ?_ (ed 19) (fun ev w hl ec e1 d ty p af g => ?_)
 refine nG ?_ fun a w hl hb hd o ho => by exact rcO o ho (zhN 0 w)
 refine nG ?_ fun a w hl hb hd o ho => by obtain ⟨d, op, ty, p, af, gg⟩ := o; simp only at ho; subst ho; have ec : ∀ v, a.eval (.const v) = v := fun _ => rfl; exact Runs.new (w' := w.alloc (.cells #[.int .i64 (-2), .int .i64 1] 3)) (by unfold execOp; generalize a.eval = ev at ec ⊢; simp only [ec]; go_simp) ⟨Lat.alloc _ _, fun _ => ⟨_, rfl, Blk.new _ _ _⟩⟩
 refine nG ?_ fun a w hl hb hd o ho => by obtain ⟨_, e1, g1, rfl, b1⟩ := hd 22 _ _ (by simp) rfl rfl; exact rcO o ho (zjw g1 2 2 [(-2, 1)] w b1 (by decide) rfl)
 refine nG ?_ fun a w hl hb hd o ho => by exact rcC o ho (zna (-2) 1 (by decide) (by decide) (by decide) (by decide) (by decide) HS7 w)
 refine nG ?_ fun a w hl hb hd o ho => by obtain ⟨_, e1, A1, c1, rfl, r1⟩ := hd 23 _ _ (by simp) rfl rfl; obtain ⟨_, e2, rfl⟩ := hd 24 _ _ (by simp) rfl rfl; exact rcC o ho (wl_14 c1 r1 HS7)
 refine n1 ?_ (ed 25) (fun ev w hl ec e1 d ty p af g => ?_)
 refine n1 ?_ (ed 25) (fun ev w hl ec e1 d ty p af g => ?_)
 refine nG ?_ fun a w hl hb hd o ho => by obtain ⟨_, e9, ga, rfl, b9⟩ := hd 21 _ _ (by simp) rfl rfl; obtain ⟨_, e1, rfl⟩ := hd 26 _ _ (by simp) rfl rfl; obtain ⟨_, e2, rfl⟩ := hd 27 _ _ (by simp) rfl rfl; exact Runs.call (zbb (f := 70) (t := 130) #[.int .i64 0, .int .i64 0] #[.int .i64 0, .int .i64 0, .pointer (some ⟨ga, 0, none⟩)] rfl (fun _ => by go_simp) e9 o ho (by simp only [List.map_toArray, List.map_cons, List.map_nil, eval_const, e1, e2])) ((zdz 0 ga w b9).mono fun e w' h => ⟨_, h.1, h.2, fun _ => rfl⟩)
 refine n2 ?_ (ed 20) (ed 28) (fun ev w hl ec e1 e2 d ty p af g => ?_)
 refine n1 ?_ (ed 29) (fun ev w hl ec e1 d ty p af g => ?_)
 ·exact AllStepsN.none
 all_goals (unfold execOp; first | simp only [e1, e2, ec] | simp only [e1, ec] | simp only [ec])
 all_goals go_simp
theorem zjx (w : World) : Calls Tryz.prog 5 #[] w (fun e w' => e = .returned (.bool true) ∧ Lat w w') := by
 obtain ⟨p1, q1, HS1⟩ := zbK (n := 5) (d := 4) (by decide +kernel) (by decide +kernel) (by decide +kernel) (by decide +kernel)
 obtain ⟨p2, q2, HS2⟩ := zbK (n := 3) (d := 2) (by decide +kernel) (by decide +kernel) (by decide +kernel) (by decide +kernel)
 obtain ⟨p3, q3, HS3⟩ := zbK (n := (-3)) (d := 2) (by decide +kernel) (by decide +kernel) (by decide +kernel) (by decide +kernel)
 obtain ⟨p4, q4, HS4⟩ := zbK (n := (-5)) (d := 4) (by decide +kernel) (by decide +kernel) (by decide +kernel) (by decide +kernel)
 obtain ⟨p5, q5, HS5⟩ := zbK (n := 3) (d := 1) (by decide +kernel) (by decide +kernel) (by decide +kernel) (by decide +kernel)
 obtain ⟨p6, q6, HS6⟩ := zbK (n := 7) (d := 5) (by decide +kernel) (by decide +kernel) (by decide +kernel) (by decide +kernel)
 obtain ⟨p7, q7, HS7⟩ := zbK (n := (-2)) (d := 1) (by decide +kernel) (by decide +kernel) (by decide +kernel) (by decide +kernel)
 go_enter Tryz.func5, Tryz.ntmps5
 go_upto_region 1 with (fail)
 rename_i KN hKN
 refine zae (zgg ) (ziN ) 139 71 [[], [0], [], [2, 1], [3, 3], [4], [4], [1, 5, 6, 4], [7, 7], [8, 8], [8], [10, 9, 8], [11, 11, 8], [12, 8], [12, 8], [9, 13, 14, 12, 8], [8, 15], [16, 15], [17], [18, 17, 17], [19, 19, 17], [20, 17], [17, 21], [22, 20], [23], [24, 23, 23], [25, 25, 23], [26, 23], [23, 27], [28, 26], [29, 29], [29], [31, 30, 29], [29], [33, 32, 29], [32, 34, 34, 29], [35, 29], [35, 29], [30, 36, 37, 35, 29], [29, 38], [39, 38], [40], [41, 40, 40], [40], [43, 42, 40], [44, 44, 40], [45, 40], [45, 40], [42, 46, 47, 45, 40], [40, 48], [49, 48], [50], [51, 50, 50], [50], [50], [53, 54, 52, 50], [55, 50], [55, 50], [52, 56, 57, 55, 50], [50, 58], [59, 58], [60], [61, 60, 60], [60], [60], [63, 64, 62, 60], [65, 60], [65, 60], [62, 66, 67, 65, 60], [60, 68], [69, 68, 0, 1, 2, 3, 4, 5, 6, 7, 8, 9, 10, 11, 12, 13, 14, 15, 16, 17, 18, 19, 20, 21, 22, 23, 24, 25, 26, 27, 28, 29, 30, 31, 32, 33, 34, 35, 36, 37, 38, 39, 40, 41, 42, 43, 44, 45, 46, 47, 48, 49, 50, 51, 52, 53, 54, 55, 56, 57, 58, 59, 60, 61, 62, 63, 64, 65, 66, 67, 68, 69]] (by kernel_rfl) (by kernel_rfl) (by kernel_rfl) (by kernel_rfl) (by kernel_rfl) (by kernel_rfl) (by rfl) rfl (base_of (by repeat (first | exact base_nil _ | refine zad rfl ?_))) (zlq w  ) ?_
 ·intro a9 W9 hsz9 hdf9 hL9 hbs hsl
  obtain ⟨v9, h9, q9⟩ := hsl 70 _ _ rfl rfl
  obtain rfl : v9 = .bool true := q9
  have w1 := zaa h9
  clear h9
  refine hKN _ _ ?_
  obtain ⟨T9, df9⟩ := a9
  obtain rfl : df9 = [] := hdf9
  obtain ⟨f, hf, rfl⟩ := zgf T9 hsz9
  have XX := fun k v h => (hf k).trans (zaa (hbs k v h))
  have x0 : f 0 = .bool false := XX 0 _ rfl
  have x1 := (hf 1).trans w1
  clear XX hbs hsl hf hsz9 hKN w1
  simp only [x0, x1]
  clear x0 x1
  obtain ⟨W1, rfl⟩ : ∃ z, z = W9 := ⟨_, rfl⟩
  have HL1 := Lib.hid hL9
  clear hL9
  go_upto_region 2 with (fail)
  rename_i KN hKN
  refine zdB (zgh p1 q1 p2 q2 p3 q3 p4 q4 p5 q5 p6 q6 p7 q7) (ziO p1 q1 p2 q2 p3 q3 p4 q4 p5 q5 p6 q6 p7 q7) 139 37 [[], [0], [1, 1], [2, 1], [2, 3, 3, 1], [1], [5, 4, 1], [6, 6, 1], [7, 1], [7, 1], [7, 1], [4, 8, 9, 10, 7, 1], [1, 11], [12, 11], [13, 13], [14, 13], [14, 15, 15, 13], [13], [17, 16, 13], [18, 18, 13], [19, 13], [19, 13], [19, 13], [16, 20, 21, 22, 19, 13], [13, 23], [24, 23], [25, 25], [26, 25], [26, 27, 27, 25], [25], [29, 28, 25], [30, 30, 25], [31, 25], [31, 25], [31, 25], [28, 32, 33, 34, 31, 25], [25, 35], [36, 35, 0, 1, 2, 3, 4, 5, 6, 7, 8, 9, 10, 11, 12, 13, 14, 15, 16, 17, 18, 19, 20, 21, 22, 23, 24, 25, 26, 27, 28, 29, 30, 31, 32, 33, 34, 35, 36]] (by kernel_rfl) _ rfl rfl (by kernel_rfl) (by kernel_rfl) (by kernel_rfl) (by kernel_rfl) (by kernel_rfl) (by kernel_rfl) (by rfl) rfl (base_of (by repeat (first | exact base_nil _ | refine zad rfl ?_))) (zlr W1 p1 q1 p2 q2 p3 q3 p4 q4 p5 q5 p6 q6 p7 q7 HS1 HS2 HS3 HS4 HS5 HS6 HS7) ?_
  ·intro a9 W9 hsz9 hdf9 hL9 hbs hsl
   obtain ⟨v9, h9, q9⟩ := hsl 36 _ _ rfl rfl
   obtain rfl : v9 = .bool true := q9
   refine zeX rfl rfl h9.ev ?_
   refine hKN _ _ ?_
   obtain ⟨T9, df9⟩ := a9
   obtain rfl : df9 = [] := hdf9
   obtain ⟨f, hf, rfl⟩ := zgf T9 hsz9
   have X9 := fun k v h => (hf k).trans (zaa (hbs k v h))
   clear hbs hsl hf hsz9 hKN h9
   simp only [Act.put, List.setIfInBounds_toArray, List.set_cons_zero, List.set_cons_succ]
   clear X9
   obtain ⟨W2, rfl⟩ : ∃ z, z = W9 := ⟨_, rfl⟩
   have HL2 := Lib.hid (HL1.out.trans hL9)
   clear hL9 HL1
   go_upto_region 3 with (fail)
   rename_i KN hKN
   refine zae (zgi p1 q1 p2 q2 p3 q3 p4 q4 p5 q5 p6 q6 p7 q7) (ziP p1 q1 p2 q2 p3 q3 p4 q4 p5 q5 p6 q6 p7 q7) 139 31 [[], [0], [1, 1], [1], [3, 2, 1], [4, 4, 1], [5, 1], [5, 1], [2, 6, 7, 5, 1], [1, 8], [9, 8], [10, 10], [10], [12, 11, 10], [13, 10], [13, 14, 14, 10], [15, 10], [15, 10], [11, 16, 17, 15, 10], [10, 18], [19, 18], [20, 20], [20], [22, 21, 20], [23, 20], [23, 24, 24, 20], [25, 20], [25, 20], [21, 26, 27, 25, 20], [20, 28], [29, 28, 0, 1, 2, 3, 4, 5, 6, 7, 8, 9, 10, 11, 12, 13, 14, 15, 16, 17, 18, 19, 20, 21, 22, 23, 24, 25, 26, 27, 28, 29]] (by kernel_rfl) (by kernel_rfl) (by kernel_rfl) (by kernel_rfl) (by kernel_rfl) (by kernel_rfl) (by rfl) rfl (base_of (by repeat (first | exact base_nil _ | refine zad rfl ?_))) (zls W2 p1 q1 p2 q2 p3 q3 p4 q4 p5 q5 p6 q6 p7 q7 HS1 HS2 HS3 HS4 HS5 HS6 HS7) ?_
   ·intro a9 W9 hsz9 hdf9 hL9 hbs hsl
    obtain ⟨v9, h9, q9⟩ := hsl 30 _ _ rfl rfl
    obtain rfl : v9 = .bool true := q9
    have w0 := zaa h9
    clear h9
    refine hKN _ _ ?_
    obtain ⟨T9, df9⟩ := a9
    obtain rfl : df9 = [] := hdf9
    obtain ⟨f, hf, rfl⟩ := zgf T9 hsz9
    have XX := fun k v h => (hf k).trans (zaa (hbs k v h))
    have x1 : f 1 = .bool true := XX 1 _ rfl
    have x0 := (hf 0).trans w0
    clear XX hbs hsl hf hsz9 hKN w0
    simp only [x1, x0]
    clear x1 x0
    have HL3 := Lib.hid (HL2.out.trans hL9)
    clear hL9 HL2
    go_wp2
    go_ret
    exact ⟨rfl, HL3.out⟩
end Go.Proofs.YtpmbglhbcjbkcaaGreat
