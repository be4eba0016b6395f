/- Several texts in one: RdN, RdO. -/
import Derived.Test.YtpmbglhbcjbkcaaGreatH14
import Derived.Test.YtpmbglhbcjbkcaaGreatProg
import Derived.Maps.OwnSet
import Derived.Maps.Range
import Derived.Lib.SlKeysI
import Derived.Test.YtpmbglhbcjbkcaaGreatH01
namespace Go.Proofs.YtpmbglhbcjbkcaaGreat
set_option maxHeartbeats 16000000
set_option maxRecDepth 100000
open Go.RowKit Go.Maps
def RH : Value → Option (DataW Value × List MemPlace) := fun v => some (.held v, [])
def lk (u : Int) : Lit := .int .i64 u
theorem zmR {a b : Int} (h : lk a = lk b) : a = b := by unfold lk at h; cases h; rfl
theorem zmS (u : Int) : WideAt.IsKeyLit (lk u) := by simp [lk, WideAt.IsKeyLit]
def LZ : Value := .agg #[.bool false, .slice none 0 0]
def VaL (w : World) (M : Nat) (D : DataW Value) (f : Int → Int) : Prop := ∀ u, ∃ bb A m c, D.atKey (lk u) (.held LZ) = .held (.agg #[.bool bb, .slice A m c]) ∧ Lg w bb A m c (f u) ∧ m ≤ M
def MapL (w : World) (b n M : Nat) (D : DataW Value) (f : Int → Int) : Prop := w.ownsMap Tryz.prog 3 RH b n D ∧ VaL w M D f
theorem keyI : Keyed Tryz.prog 3 := int_keyed Tryz.underlying3
theorem Lg.zero (w : World) : Lg w false none 0 0 0 := ⟨Nat.le_refl _, [], Sl.nil _ _ _, InR.nil _, Nz.nil, (fun h => by cases h), (by simp [sgn, val])⟩
theorem MapL.made (w : World) : MapL (w.alloc (.map #[] 0)) w.heap.size 0 0 (.map []) (fun _ => 0) :=
 ⟨World.ownsMap_made w _ _ _, fun _ => ⟨false, none, 0, 0, rfl, Lg.zero _, Nat.le_refl _⟩⟩
theorem MapL.later {W w : World} {b n M : Nat} {D : DataW Value} {f : Int → Int} (h : MapL W b n M D f) (hl : Lat W w) : MapL w b n M D f := by
 obtain ⟨h1, h2⟩ := h
 have hb := h1.lt
 refine ⟨?_, fun u => ?_⟩
 ·obtain ⟨es, clock, e1, e2, e3, e4⟩ := h1
  exact ⟨es, clock, (Below.block hl b hb).trans e1, e2, e3, e4⟩
 ·obtain ⟨bb, A, m, c, a1, a2, a3⟩ := h2 u
  exact ⟨bb, A, m, c, a1, a2.later hl, a3⟩
theorem wf_i64 {a : Int} (h0 : -9223372036854775808 ≤ a) (h1 : a < 9223372036854775808) : (Lit.int .i64 a).wf = true := by
 have e1 : IntKind.i64.min = -9223372036854775808 := by decide
 have e2 : IntKind.i64.max = 9223372036854775807 := by decide
 simp [Lit.wf, e1, e2]
 omega
theorem MapL.look {w : World} {b n M : Nat} {D : DataW Value} {f : Int → Int} (h : MapL w b n M D f) (u : Int) (h0 : -9223372036854775808 ≤ u) (h1 : u < 9223372036854775808) :
  ∃ bb A m c, (Instr.lookup 122 (.map (some b)) (.int .i64 u) false).run Tryz.prog w = .ok (.agg #[.bool bb, .slice A m c]) w ∧ Lg w bb A m c (f u) ∧ m ≤ M := by
 obtain ⟨bb, A, m, c, a1, a2, a3⟩ := h.2 u
 obtain ⟨v, ps, hr, hv⟩ := h.1.lookup keyI Tryz.underlying122 (z := LZ) (by kernel_rfl) (zd := .held LZ) (zp := []) rfl (keyOf_int_mk Tryz.underlying3 (wf_i64 h0 h1))
 have e : DataW.held v = DataW.held (.agg #[.bool bb, .slice A m c]) := by
  have h2 : RH v = some (.held v, []) := rfl
  rw [h2] at hv
  have h3 := congrArg Prod.fst (Option.some.inj hv)
  simp only at h3
  rw [h3]
  exact a1
 cases e
 exact ⟨bb, A, m, c, hr, a2, a3⟩
theorem ze8 {w w' : World} {b : Nat} (h : w.grownBy w' (some b)) : LatP (· = b) w w' := by
 obtain ⟨h1, h2, h3, h4, h5⟩ := h
 exact ⟨h1, h2, h3, h4, fun k hk hne => h5 k hk (fun e => hne (Option.some.inj e))⟩
theorem Lg.offB {w w' : World} {b : Nat} {bb : Bool} {A : Option Addr} {m c : Nat} {z : Int} (h : Lg w bb A m c z) (hl : LatP (· = b) w w') (hb : ∀ i s, w.cell? ⟨b, i, s⟩ = none) : Lg w' bb A m c z := by
 obtain ⟨hn, xs, ⟨s1, s2⟩, r⟩ := h
 refine ⟨hn, xs, ⟨s1, fun hp => ?_⟩, r⟩
 obtain ⟨a, e, ha, hc⟩ := s2 hp
 refine ⟨a, e, Nat.lt_of_lt_of_le ha hl.size, fun i x hx => ?_⟩
 rw [← hc i x hx]
 have hne : a.block ≠ b := by
  intro he
  have h0 := hc i x hx
  have : w.cell? (a.add i) = none := by
   have e1 : a.add i = ⟨b, (a.add i).off, (a.add i).spot⟩ := by
    have := block_add a i
    rw [he] at this
    rw [← this]
   rw [e1]
   exact hb _ _
  rw [this] at h0
  cases h0
 exact World.cell?_of_block (by rw [block_add]; exact hl.block _ ha hne)
theorem ze9 {w : World} {b : Nat} {es : Array MapEntry} {clock : Nat} (h : w.heap[b]? = some (.map es clock)) : ∀ i s, w.cell? ⟨b, i, s⟩ = none := by
 intro i s
 unfold World.cell?
 simp [h]
theorem MapL.upd {w : World} {b n M N : Nat} {D : DataW Value} {f : Int → Int} (h : MapL w b n M D f) (u : Int)
  {bb : Bool} {A : Option Addr} {m c : Nat} {z : Int} (hv : Lg w bb A m c z) (hm : m ≤ N) (hMN : M ≤ N) {w' : World} (g1 : w'.ownsMap Tryz.prog 3 RH b (n + 1) (D.put (lk u) (.held (.agg #[.bool bb, .slice A m c])))) (g2 : w.grownBy w' (some b)) :
  MapL w' b (n + 1) N (D.put (lk u) (.held (.agg #[.bool bb, .slice A m c]))) (fun x => if x = u then z else f x) := by
 obtain ⟨hO, hV⟩ := h
 have hM := hO.isMap
 obtain ⟨es, clock, e1, _⟩ := hO
 have hl := ze8 g2
 refine ⟨g1, fun x => ?_⟩
 by_cases hx : x = u
 ·subst hx
  exact ⟨bb, A, m, c, atKey_put_same hM (zmS x) _ _, by show Lg w' bb A m c (if x = x then z else f x); rw [if_pos rfl]; exact Lg.offB hv hl (ze9 e1), hm⟩
 ·obtain ⟨b2, A2, m2, c2, a1, a2, a3⟩ := hV x
  exact ⟨b2, A2, m2, c2, by rw [atKey_put_other (fun e => hx (zmR e))]; exact a1, by show Lg w' b2 A2 m2 c2 (if x = u then z else f x); rw [if_neg hx]; exact Lg.offB a2 hl (ze9 e1), by omega⟩
def KeysAre (D : DataW Value) (K : Int → Prop) : Prop := ∀ u, has D (lk u) = true ↔ K u
theorem KeysAre.nil : KeysAre (.map []) (fun _ => False) := fun u => by simp [has]
theorem KeysAre.put {w : World} {b n : Nat} {D : DataW Value} {K : Int → Prop} (h : KeysAre D K) (hO : w.ownsMap Tryz.prog 3 RH b n D) (u : Int) (d : DataW Value) : KeysAre (D.put (lk u) d) (fun x => x = u ∨ K x) := fun x => by
 by_cases hx : x = u
 ·subst hx
  rw [has_put_same hO.isMap (zmS x)]
  simp
 ·rw [has_put_other (fun e => hx (zmR e)), h x]
  simp [hx]
theorem zkb {w : World} {b n : Nat} {D : DataW Value} {K : Int → Prop} (h : KeysAre D K) (hO : w.ownsMap Tryz.prog 3 RH b n D) : (intKeys D).Nodup ∧ ∀ u, u ∈ intKeys D ↔ K u := by
 obtain ⟨es, hD, hpw, _⟩ := hO.entries keyI
 obtain ⟨es', hD', hk⟩ := hO.keysOf
 obtain rfl : es = es' := by rw [hD] at hD'; simpa using hD'
 subst hD
 have hk2 : ∀ p ∈ es, ∃ x, p.1 = .int .i64 x := fun p hp => by
  obtain ⟨v, hv⟩ := hk p hp
  obtain ⟨x, _, hx, _⟩ := Maps.keyOf_i64 Tryz.underlying3 hv
  exact ⟨x, hx⟩
 constructor
 ·refine List.pairwise_map.2 (hpw.imp_of_mem fun {p q} hp' hq' hne e => hne ?_)
  obtain ⟨a, ha⟩ := hk2 p hp'
  obtain ⟨b, hb⟩ := hk2 q hq'
  rw [ha, hb] at e ⊢
  exact congrArg _ e
 ·intro u
  rw [← h u, has_eq, List.any_eq_true]
  show u ∈ es.map (fun p => Go.intOf p.1) ↔ _
  rw [List.mem_map]
  constructor
  ·rintro ⟨p, hp', rfl⟩
   obtain ⟨a, ha⟩ := hk2 p hp'
   exact ⟨p, hp', by rw [ha]; simp [Lit.sameKey, Go.intOf, lk]⟩
  ·rintro ⟨p, hp', hs⟩
   obtain ⟨a, ha⟩ := hk2 p hp'
   rw [ha] at hs
   exact ⟨p, hp', by rw [ha]; simpa [Lit.sameKey, Go.intOf, lk] using hs⟩
theorem zhq {L : List Int} (hn : L.Nodup) (hp : ∀ u ∈ L, 0 ≤ u) : ∃ K : List Nat, L.mergeSort (fun x y => decide (x ≤ y)) = K.map (fun (u : Nat) => (u : Int)) ∧ K.Pairwise (· < ·) ∧ K.length = L.length ∧ ∀ u : Nat, u ∈ K ↔ (u : Int) ∈ L := by
 have tr : ∀ a b c : Int, decide (a ≤ b) = true → decide (b ≤ c) = true → decide (a ≤ c) = true := fun a b c h1 h2 => by simp only [decide_eq_true_eq] at *; exact Int.le_trans h1 h2
 have tot : ∀ a b : Int, (decide (a ≤ b) || decide (b ≤ a)) = true := fun a b => by simp only [Bool.or_eq_true, decide_eq_true_eq]; exact Int.le_total a b
 have hs := List.pairwise_mergeSort tr tot L
 have hpm := List.mergeSort_perm L (fun x y => decide (x ≤ y))
 generalize hM : L.mergeSort (fun x y => decide (x ≤ y)) = M at hs hpm ⊢
 have hnd : M.Nodup := hpm.nodup_iff.2 hn
 have hpos : ∀ u ∈ M, 0 ≤ u := fun u hu => hp u (hpm.mem_iff.1 hu)
 have hback : M = (M.map Int.toNat).map (fun (u : Nat) => (u : Int)) := by
  rw [List.map_map]
  conv => lhs; rw [← List.map_id M]
  refine List.map_congr_left fun u hu => ?_
  have := hpos u hu
  simp only [id, Function.comp]
  omega
 refine ⟨M.map Int.toNat, hback, ?_, by rw [List.length_map]; exact hpm.length_eq, fun u => ?_⟩
 ·rw [List.pairwise_map]
  refine (hs.and hnd).imp_of_mem fun {a b} ha hb h => ?_
  have h1 := hpos a ha
  have h2 := hpos b hb
  have h3 := h.1
  have h4 : a ≠ b := h.2
  simp only [decide_eq_true_eq] at h3
  omega
 ·rw [List.mem_map]
  constructor
  ·rintro ⟨x, hx, rfl⟩
   have := hpos x hx
   rw [show ((x.toNat : Nat) : Int) = x by omega]
   exact hpm.mem_iff.1 hx
  ·intro h
   exact ⟨(u : Int), hpm.mem_iff.2 h, by omega⟩
open Go.Sort Go.Shelf
theorem zoe (m : Nat) : AnyZI.SortsIn Tryz.prog Tryz.sortedA_ren Fence.wide m :=
 ⟨fun blk off cap ss W hH hblk hsz => callsIn_wide.2 (AnyM.slices_Sort_int Tryz.sortA blk off cap ss W hH hblk hsz),
  fun p cap W => callsIn_wide.2 (AnyM.slices_Sort_int_none Tryz.sortA p cap W)⟩
theorem zi1 (b nn : Nat) (D0 : DataW Value) (w : World) (hown : w.ownsMap Tryz.prog 3 RH b nn D0) (hn : nn ≤ 1000) :
  Calls Tryz.prog 63 #[.map (some b)] w fun e w' => ∃ (v : Value) (ss : List Int), e = .returned v ∧ ss.Perm (intKeys D0) ∧
   w'.ownsRow w.heap.size 3 1 v ss.length ((ss.mergeSort (fun x y => decide (x ≤ y))).map encZ) ∧ Lat w w' := by
 refine (callsIn_wide (n := 6)).1 ?_
 have hbl := hown.lt
 have hsz := hown.size_le
 have hmax : Maps.size D0 ≤ maxLen := by unfold maxLen; omega
 have hbytes : Maps.size D0 * 8 ≤ 140737488355328 := by omega
 have hseq : SeqGives Fence.wide 2 Tryz.prog 127 #[.pointer (some ⟨w.heap.size, 0, none⟩)] encZ (fun ss => ss.Perm (intKeys D0)) (Maps.size D0) (w.alloc (.cells #[.map (some b)] 122)) :=
  AnyZI.keys_gives (ρ := Tryz.keysA_ren) { Tryz.keysA with } Fence.wide _ trivial rfl (by omega) w.heap.size b nn D0 _ (by simp) (by simp) (by
   obtain ⟨es, clock, hb, Ft, hs, hD⟩ := hown
   exact ⟨es, clock, (Below.heap_alloc _ _ b hbl).trans hb, Ft, hs, hD⟩)
 have cK : ∀ mb W, CallsIn Fence.wide 5 Tryz.prog 105 #[.map mb] W fun e w' => e = .returned (.func (.func 127) #[] #[.pointer (some ⟨W.heap.size, 0, none⟩)]) ∧ w' = W.alloc (.cells #[.map mb] 122) := fun mb W => AnyZI.keys_in Tryz.keysA Fence.wide 5 trivial rfl mb W
 have cS := AnyZI.sorted_in Tryz.sortedA Fence.wide 5 trivial trivial trivial trivial rfl (by omega) (zoe _) (enters_of Tryz.func126 (by kernel_rfl) rfl) 127 #[.pointer (some ⟨w.heap.size, 0, none⟩)] trivial (enters_of Tryz.func127 (by kernel_rfl) rfl) _ _ hmax hbytes _ hseq
 change CallsIn _ _ Tryz.prog 104 _ _ _ at cS
 have hfK : Fence.wide.fn 105 := trivial
 have hfS : Fence.wide.fn 104 := trivial
 refine callsIn_of_wp Tryz.func63 rfl trivial ?_ rfl
 simp only [Tryz.ntmps63, List.size_toArray, List.length_cons, List.length_nil, Nat.reduceAdd, Nat.reduceSub, Array.replicate_succ, Array.replicate_zero, List.push_toArray, List.append_toArray, List.nil_append, List.cons_append]
 gi_wp2_with (first
  | (gi_at_call 105; refine (cK _ _).mono ?_; rintro e w' ⟨rfl, rfl⟩)
  | (gi_at_call 104; refine cS.mono ?_; rintro e w' ⟨v, ss, rfl, hS, hrow, hnil, hb⟩))
 go_ret
 exact ⟨v, ss, rfl, hS, ownsRow_base_a hrow (by simp), ((Below.refl _ w).alloc (Nat.le_refl _) _).trans (hb.mono (by simp))⟩
end Go.Proofs.YtpmbglhbcjbkcaaGreat
