/- Several texts in one: Kqn. -/
import Derived.Test.YtbgngmamnonlbaaGreatH52
namespace Go.Proofs.YtbgngmamnonlbaaGreat
open Go.RowKit
set_option linter.unusedSimpArgs false
set_option linter.unusedVariables false
set_option maxRecDepth 100000 in
set_option maxHeartbeats 80000000 in
theorem qKnown_any (w : World) : Calls Tryz.prog 7 #[] w (Yes6 w) := by
 obtain ⟨X, hX⟩ : ∃ X, zA = X := ⟨_, rfl⟩
 have gX : GoodX X := by rw [← hX]; exact zA_good
 have i3 := Lib.hid gX.info
 have z3 := Lib.hid gX.1
 have k3 := Lib.hid gX.2.1
 have HXZ := Lib.hid hX
 clear hX gX
 go_enter Tryz.func7, Tryz.ntmps7
 go_wp2_with fail
 refine (wakes6 w).mono ?_
 rintro e W1 ⟨rfl, L1⟩
 go_upto_region 3 with (fail)
 rename_i KN hKN
 refine wp_region_slotsN (kq3r_rows ) (kq3r_base ) 315 11 [[], [], [], [], [], [], [], [5, 6], [0, 1, 2, 3, 4, 7], [8], []] (by kernel_rfl) (by kernel_rfl) (by kernel_rfl) (by kernel_rfl) (by kernel_rfl) (by kernel_rfl) (by rfl) rfl (base_of (by repeat (first | exact base_nil _ | refine base_consL rfl ?_))) (kq3r_steps W1  ) ?_
 ·intro a9 W9 hsz9 hdf9 hL9 hbs hsl
  obtain ⟨v9, h9, q9⟩ := hsl 8 _ _ rfl rfl
  obtain ⟨g58, cs, rfl, b58, hbad⟩ := (show BadL  v9 W9 from q9)
  have w58 := slot_getD h9
  clear h9
  obtain ⟨v9, h9, q9⟩ := hsl 9 _ _ rfl rfl
  obtain rfl : v9 = .int .i64 7 := q9
  have w59 := slot_getD h9
  clear h9
  obtain ⟨v9, h9, q9⟩ := hsl 10 _ _ rfl rfl
  obtain rfl : v9 = .int .i64 0 := q9
  have w60 := slot_getD h9
  clear h9
  refine hKN _ _ ?_
  obtain ⟨T9, df9⟩ := a9
  obtain rfl : df9 = [] := hdf9
  obtain ⟨f, hf, rfl⟩ := spell315 T9 hsz9
  have x58 := (hf 58).trans w58
  have x59 := (hf 59).trans w59
  have x60 := (hf 60).trans w60
  clear hbs hsl hf hsz9 hKN w58 w59 w60
  simp only [x58, x59, x60]
  clear x58 x59 x60
  replace L1 := L1.trans hL9
  clear hL9
  have HBAD := Lib.hid hbad
  clear hbad
  obtain ⟨WL, hWL⟩ : ∃ W, W = W9 := ⟨W9, rfl⟩
  subst hWL
  go_wp2
  go_loopw [60] (fun it wr => ∃ j : Nat, j ≤ 7 ∧ it = .int .i64 (j : Nat) ∧ Lat WL wr) (fun it _ => 7 - (intOf it).toNat)
  case atStart => exact ⟨0, by omega, rfl, Lat.refl _⟩
  case round =>
   obtain ⟨j, hj, rfl, hlr⟩ := hrel
   by_cases hjn : j < 7
   ·as_aux_lemma =>
    obtain ⟨A, n, c, xs, hcj, sx, hn, hcen⟩ := HBAD.out j hjn
    have hcell : wr.cell? ⟨g58, j, none⟩ = some (.slice A n c) := ((b58.later hlr).cell j).trans hcj
    replace sx := sx.later hlr
    have hA0 : askE xs 0 0 = 60 := askE_cen hcen
    have hA1 : askE xs 0 0 ≠ 0 := by rw [hA0]; decide
    have HQ := fun w h => qQuota_no A n c xs 0 0 w h (by omega) hA1
    have HT := fun w h => qQuotients_no A n c xs 0 0 w h (by omega) hA1
    have HG := fun Al nl cl w h => give_no A n c xs Al nl cl 0 0 w h (by omega) hA1
    have HC := fun w h => qCheck_any A n c xs w h (by omega)
    rw [hA0] at HQ HT HG
    rw [HXZ.out] at HQ
    rw [cenE_no hcen] at HC
    have HTO := fun w h => qTotal_no A n c xs w h (by omega) hcen
    have hjI : (j : Int) < 7 := by omega
    have hj0 : (0 : Int) ≤ (j : Int) := by omega
    have HJ := Lib.hid hjn
    have HLR := Lib.hid hlr
    clear hA0 hA1 hcen hcj HBAD b58 hjn hj hlr HXZ
    go_wp2_with fail
    refine (HTO wr sx).mono ?_
    rintro e w1 ⟨rfl, l1⟩
    have s1 := sx.later l1
    clear HTO hcell
    go_wp2_with fail
    refine (HQ w1 s1).mono ?_
    rintro e w2 ⟨rfl, l2⟩
    have K0 := Blk.new w2 42 #[.int .u64 W8.zero.a0, .int .u64 W8.zero.a1, .int .u64 W8.zero.a2, .int .u64 W8.zero.a3, .int .u64 W8.zero.a4, .int .u64 W8.zero.a5, .int .u64 W8.zero.a6, .int .u64 W8.zero.a7, .int .u64 W8.zero.a0, .int .u64 W8.zero.a1, .int .u64 W8.zero.a2, .int .u64 W8.zero.a3, .int .u64 W8.zero.a4, .int .u64 W8.zero.a5, .int .u64 W8.zero.a6, .int .u64 W8.zero.a7]
    clear HQ
    go_upto_region 8 with (refine wpList_put rfl 42 (.tmp 5) (.tmp 72) (by rfl) (by rfl) w2.heap.size (by rfl) X (by rfl) K0 (by rw [z3.out]; rfl) i3.out k3.out ?_; intro w3 hput; have l3 := hput.lat w2 (Lat.alloc _ _) (Nat.le_refl _))
    have s3 := s1.later (l2.trans l3)
    clear hput K0
    go_wp2_with fail
    refine (HT w3 s3).mono ?_
    rintro e w4 ⟨rfl, l4⟩
    clear HT
    go_wp2_with fail
    refine name1 (Q := fun W => Calls _ _ _ W _) ?_
    intro w5 l5 hs5 kb5
    have s5 := s3.later (l4.trans l5)
    refine (HG _ _ _ w5 s5).mono ?_
    rintro e w6 ⟨rfl, l6⟩
    clear HG hs5 kb5
    go_upto_region 10 with (fail)
    refine name1 (Q := fun W => Code.wp _ _ _ _ W) ?_
    intro w7 l7 hs7 kb7
    have LW : Hid (Lat WL w7) := ((((((HLR.out.trans l1).trans l2).trans l3).trans l4).trans l5).trans l6).trans l7
    have HCK : Hid (∀ w', Lat w7 w' → Calls Tryz.prog 15 #[.slice A n c] w' (fun e w'' => e = .returned (.int .i64 60) ∧ Lat w' w'')) := fun w' h => (HC w' (s5.later ((l6.trans l7).trans h))).mono (fun e w'' h8 => ⟨h8.1, h8.2 ▸ Lat.refl _⟩)
    clear HC s5 s3 s1 sx l1 l2 l3 l4 l5 l6 l7 HLR hs7 kb7
    rename_i KN hKN
    refine wp_region_slotsN (kq10r_rows A n c) (kq10r_base A n c _ _ _ _ _ _ _ _ _ _ _ _ _ _ _ _ _ _ _ _ _ _ _ _ _ _ _ _ _ _ _ _ _ _ _ _ _ _ _ _ _ _ _ _ _ _ _ _ _ _ _ _ _ _ _ _ _ _ _ _ _ _ _ _ _ _ _ _ _ _ _ _ _ _ _ _ _ _ _ _ _ _ _ _ _ _ _ _ _ _ _ _ _ _ _ _ _ _ _ _ _ _ _ _ _ _ _ _ _ _ _ _ _ _ _ _ _ _ _ _ _ _ _ _ _ _ _ _ _ _ _ _ _ _ _ _ _ _ _ _ _ _ _ _ _ _ _ _ _ _ _ _ _ _ _ _ _ _ _ _ _ _ _ _ _ _ _ _ _ _ _ _ _ _ _ _ _ _ _ _ _ _ _ _ _ _ _ _ _ _ _ _ _ _ _ _ _ _ _ _ _ _ _ _ _ _ _ _ _ _ _ _ _ _ _ _ _ _ _ _ _ _ _ _ _ _ _ _ _ _ _ _ _ _ _ _ _ _ _ _ _ _ _ _ _ _ _ _ _ _ _ _ _ _ _ _ _ _ _ _ _ _ _ _ _ _ _ _ _ _ _ _ _ _ _ _ _ _ _ _ _ _ _ _ _ _ _ _ _ _ _) 315 19 [[], [0], [1], [2, 1], [3], [4, 3], [3, 5], [6, 3], [7], [8, 7], [7, 9], [10, 7], [11], [12, 11], [11, 13], [14, 11], [15], [16, 15], [15, 17]] (by kernel_rfl) (by kernel_rfl) (by kernel_rfl) (by kernel_rfl) (by kernel_rfl) (by kernel_rfl) (by rfl) rfl (base_of (by repeat (first | exact base_nil _ | refine base_consL rfl ?_))) (kq10r_steps w7 A n c _ _ _ _ _ _ _ _ _ _ _ _ _ _ _ _ _ _ _ _ _ _ _ _ _ _ _ _ _ _ _ _ _ _ _ _ _ _ _ _ _ _ _ _ _ _ _ _ _ _ _ _ _ _ _ _ _ _ _ _ _ _ _ _ _ _ _ _ _ _ _ _ _ _ _ _ _ _ _ _ _ _ _ _ _ _ _ _ _ _ _ _ _ _ _ _ _ _ _ _ _ _ _ _ _ _ _ _ _ _ _ _ _ _ _ _ _ _ _ _ _ _ _ _ _ _ _ _ _ _ _ _ _ _ _ _ _ _ _ _ _ _ _ _ _ _ _ _ _ _ _ _ _ _ _ _ _ _ _ _ _ _ _ _ _ _ _ _ _ _ _ _ _ _ _ _ _ _ _ _ _ _ _ _ _ _ _ _ _ _ _ _ _ _ _ _ _ _ _ _ _ _ _ _ _ _ _ _ _ _ _ _ _ _ _ _ _ _ _ _ _ _ _ _ _ _ _ _ _ _ _ _ _ _ _ _ _ _ _ _ _ _ _ _ _ _ _ _ _ _ _ _ _ _ _ _ _ _ _ _ _ _ _ _ _ _ _ _ _ _ _ _ _ _ _ _ _ _ _ _ _ _ _ _ _ _ _ _ _ _ _ HCK.out) ?_
    ·intro a9 W9 hsz9 hdf9 hL9 hbs hsl
     obtain ⟨v9, h9, q9⟩ := hsl 18 _ _ rfl rfl
     obtain rfl : v9 = .bool false := q9
     have w103 := slot_getD h9
     clear h9
     refine hKN _ _ ?_
     obtain ⟨T9, df9⟩ := a9
     obtain rfl : df9 = [] := hdf9
     obtain ⟨f, hf, rfl⟩ := spell315 T9 hsz9
     have Y := fun k {v} h => (hf k).trans (slot_getD (hbs k v h))
     have x103 := (hf 103).trans w103
     clear hbs hsl hf hsz9 hKN w103
     simp only [Y 2 rfl, Y 4 rfl, Y 6 rfl, Y 8 rfl, Y 10 rfl, Y 0 rfl, Y 1 rfl, Y 3 rfl, Y 5 rfl, Y 7 rfl, Y 9 rfl, Y 11 rfl, Y 12 rfl, Y 13 rfl, Y 14 rfl, Y 15 rfl, Y 16 rfl, Y 17 rfl, Y 18 rfl, Y 19 rfl, Y 20 rfl, Y 21 rfl, Y 22 rfl, Y 23 rfl, Y 24 rfl, Y 25 rfl, Y 26 rfl, Y 27 rfl, Y 28 rfl, Y 29 rfl, Y 30 rfl, Y 31 rfl, Y 32 rfl, Y 33 rfl, Y 34 rfl, Y 35 rfl, Y 36 rfl, Y 37 rfl, Y 38 rfl, Y 39 rfl, Y 40 rfl, Y 41 rfl, Y 42 rfl, Y 43 rfl, Y 44 rfl, Y 45 rfl, Y 46 rfl, Y 47 rfl, Y 48 rfl, Y 49 rfl, Y 50 rfl, Y 51 rfl, Y 52 rfl, Y 53 rfl, Y 54 rfl, Y 55 rfl, Y 56 rfl, Y 57 rfl, Y 58 rfl, Y 59 rfl, Y 60 rfl, Y 61 rfl, Y 62 rfl, Y 63 rfl, Y 64 rfl, Y 65 rfl, Y 66 rfl, Y 67 rfl, Y 68 rfl, Y 69 rfl, Y 70 rfl, Y 71 rfl, Y 72 rfl, Y 73 rfl, Y 74 rfl, Y 75 rfl, Y 76 rfl, Y 77 rfl, Y 78 rfl, Y 79 rfl, Y 80 rfl, Y 81 rfl, Y 82 rfl, Y 83 rfl, Y 84 rfl, Y 104 rfl, Y 105 rfl, Y 106 rfl, Y 107 rfl, Y 108 rfl, Y 109 rfl, Y 110 rfl, Y 111 rfl, Y 112 rfl, Y 113 rfl, Y 114 rfl, Y 115 rfl, Y 116 rfl, Y 117 rfl, Y 118 rfl, Y 119 rfl, Y 120 rfl, Y 121 rfl, Y 122 rfl, Y 123 rfl, Y 124 rfl, Y 125 rfl, Y 126 rfl, Y 127 rfl, Y 128 rfl, Y 129 rfl, Y 130 rfl, Y 131 rfl, Y 132 rfl, Y 133 rfl, Y 134 rfl, Y 135 rfl, Y 136 rfl, Y 137 rfl, Y 138 rfl, Y 139 rfl, Y 140 rfl, Y 141 rfl, Y 142 rfl, Y 143 rfl, Y 144 rfl, Y 145 rfl, Y 146 rfl, Y 147 rfl, Y 148 rfl, Y 149 rfl, Y 150 rfl, Y 151 rfl, Y 152 rfl, Y 153 rfl, Y 154 rfl, Y 155 rfl, Y 156 rfl, Y 157 rfl, Y 158 rfl, Y 159 rfl, Y 160 rfl, Y 161 rfl, Y 162 rfl, Y 163 rfl, Y 164 rfl, Y 165 rfl, Y 166 rfl, Y 167 rfl, Y 168 rfl, Y 169 rfl, Y 170 rfl, Y 171 rfl, Y 172 rfl, Y 173 rfl, Y 174 rfl, Y 175 rfl, Y 176 rfl, Y 177 rfl, Y 178 rfl, Y 179 rfl, Y 180 rfl, Y 181 rfl, Y 182 rfl, Y 183 rfl, Y 184 rfl, Y 185 rfl, Y 186 rfl, Y 187 rfl, Y 188 rfl, Y 189 rfl, Y 190 rfl, Y 191 rfl, Y 192 rfl, Y 193 rfl, Y 194 rfl, Y 195 rfl, Y 196 rfl, Y 197 rfl, Y 198 rfl, Y 199 rfl, Y 200 rfl, Y 201 rfl, Y 202 rfl, Y 203 rfl, Y 204 rfl, Y 205 rfl, Y 206 rfl, Y 207 rfl, Y 208 rfl, Y 209 rfl, Y 210 rfl, Y 211 rfl, Y 212 rfl, Y 213 rfl, Y 214 rfl, Y 215 rfl, Y 216 rfl, Y 217 rfl, Y 218 rfl, Y 219 rfl, Y 220 rfl, Y 221 rfl, Y 222 rfl, Y 223 rfl, Y 224 rfl, Y 225 rfl, Y 226 rfl, Y 227 rfl, Y 228 rfl, Y 229 rfl, Y 230 rfl, Y 231 rfl, Y 232 rfl, Y 233 rfl, Y 234 rfl, Y 235 rfl, Y 236 rfl, Y 237 rfl, Y 238 rfl, Y 239 rfl, Y 240 rfl, Y 241 rfl, Y 242 rfl, Y 243 rfl, Y 244 rfl, Y 245 rfl, Y 246 rfl, Y 247 rfl, Y 248 rfl, Y 249 rfl, Y 250 rfl, Y 251 rfl, Y 252 rfl, Y 253 rfl, Y 254 rfl, Y 255 rfl, Y 256 rfl, Y 257 rfl, Y 258 rfl, Y 259 rfl, Y 260 rfl, Y 261 rfl, Y 262 rfl, Y 263 rfl, Y 264 rfl, Y 265 rfl, Y 266 rfl, Y 267 rfl, Y 268 rfl, Y 269 rfl, Y 270 rfl, Y 271 rfl, Y 272 rfl, Y 273 rfl, Y 274 rfl, Y 275 rfl, Y 276 rfl, Y 277 rfl, Y 278 rfl, Y 279 rfl, Y 280 rfl, Y 281 rfl, Y 282 rfl, Y 283 rfl, Y 284 rfl, Y 285 rfl, Y 286 rfl, Y 287 rfl, Y 288 rfl, Y 289 rfl, Y 290 rfl, Y 291 rfl, Y 292 rfl, Y 293 rfl, Y 294 rfl, Y 295 rfl, Y 296 rfl, Y 297 rfl, Y 298 rfl, Y 299 rfl, Y 300 rfl, Y 301 rfl, Y 302 rfl, Y 303 rfl, Y 304 rfl, Y 305 rfl, Y 306 rfl, Y 307 rfl, Y 308 rfl, Y 309 rfl, Y 310 rfl, Y 311 rfl, Y 312 rfl, Y 313 rfl, Y 314 rfl, x103]
     clear x103 Y
     go_wp2
     go_roundw
     case rel =>
      have HRel : ∃ j' : Nat, j' ≤ 7 ∧ Value.int .i64 ((j : Int) + 1) = .int .i64 (j' : Nat) ∧ Lat WL W9 := ⟨j + 1, by have h9 := HJ.out; omega, by go_num, LW.out.trans hL9⟩
      first | exact HRel | exact ⟨_, HRel, rfl⟩ | exact ⟨_, _, HRel, rfl, rfl⟩ | exact ⟨_, _, _, HRel, rfl, rfl, rfl⟩ | exact ⟨_, _, _, _, HRel, rfl, rfl, rfl, rfl⟩ | exact ⟨_, _, _, _, _, HRel, rfl, rfl, rfl, rfl, rfl⟩ | exact ⟨_, _, _, _, _, _, HRel, rfl, rfl, rfl, rfl, rfl, rfl⟩ | exact ⟨_, _, _, _, _, _, _, HRel, rfl, rfl, rfl, rfl, rfl, rfl, rfl⟩ | exact ⟨_, _, _, _, _, _, _, _, HRel, rfl, rfl, rfl, rfl, rfl, rfl, rfl, rfl⟩ | exact ⟨_, _, _, _, _, _, _, _, _, HRel, rfl, rfl, rfl, rfl, rfl, rfl, rfl, rfl, rfl⟩ | exact ⟨_, _, _, _, _, _, _, _, _, _, HRel, rfl, rfl, rfl, rfl, rfl, rfl, rfl, rfl, rfl, rfl⟩ | exact ⟨_, _, _, _, _, _, _, _, _, _, _, HRel, rfl, rfl, rfl, rfl, rfl, rfl, rfl, rfl, rfl, rfl, rfl⟩ | exact ⟨_, _, _, _, _, _, _, _, _, _, _, _, HRel, rfl, rfl, rfl, rfl, rfl, rfl, rfl, rfl, rfl, rfl, rfl, rfl⟩ | exact ⟨_, _, _, _, _, _, _, _, _, _, _, _, _, HRel, rfl, rfl, rfl, rfl, rfl, rfl, rfl, rfl, rfl, rfl, rfl, rfl, rfl⟩ | exact ⟨_, _, _, _, _, _, _, _, _, _, _, _, _, _, HRel, rfl, rfl, rfl, rfl, rfl, rfl, rfl, rfl, rfl, rfl, rfl, rfl, rfl, rfl⟩
     case measure =>
      have h9 := HJ.out
      simp [intOf]; omega
   ·as_aux_lemma =>
    obtain rfl : 7 = j := by omega
    have LE := L1.trans hlr
    clear L1 hlr b58 HBAD hj hjn
    go_upto_region 14 with (fail)
    refine name1 (Q := fun W => Code.wp _ _ _ _ W) ?_
    intro wA lA hsA k11
    obtain ⟨g11, hg11⟩ : ∃ z, wr.heap.size = z := ⟨_, rfl⟩
    rw [hg11] at k11 ⊢
    replace LE := LE.trans lA
    clear hg11 hsA lA
    obtain ⟨WA, hWA⟩ : ∃ W, W = wA := ⟨wA, rfl⟩
    subst hWA
    rename_i KN hKN
    refine wp_region_slotsN (kq14r_rows g11) (kq14r_base g11) 315 9 [[], [], [], [], [], [], [0, 1, 2, 3, 4, 5], [6], []] (by kernel_rfl) (by kernel_rfl) (by kernel_rfl) (by kernel_rfl) (by kernel_rfl) (by kernel_rfl) (by rfl) rfl (base_of (by repeat (first | exact base_nil _ | refine base_consL rfl ?_))) (kq14r_steps WA g11 ) ?_
    ·intro a9 W9 hsz9 hdf9 hL9 hbs hsl
     obtain ⟨v9, h9, q9⟩ := hsl 6 _ _ rfl rfl
     obtain ⟨g12, rfl, k12⟩ := (show PairL  v9 W9 from q9)
     have w112 := slot_getD h9
     clear h9
     obtain ⟨v9, h9, q9⟩ := hsl 7 _ _ rfl rfl
     obtain rfl : v9 = .int .i64 6 := q9
     have w113 := slot_getD h9
     clear h9
     obtain ⟨v9, h9, q9⟩ := hsl 8 _ _ rfl rfl
     obtain rfl : v9 = .int .i64 0 := q9
     have w114 := slot_getD h9
     clear h9
     refine hKN _ _ ?_
     obtain ⟨T9, df9⟩ := a9
     obtain rfl : df9 = [] := hdf9
     obtain ⟨f, hf, rfl⟩ := spell315 T9 hsz9
     have Y := fun k {v} h => (hf k).trans (slot_getD (hbs k v h))
     have x112 := (hf 112).trans w112
     have x113 := (hf 113).trans w113
     have x114 := (hf 114).trans w114
     clear hbs hsl hf hsz9 hKN w112 w113 w114
     simp only [Y 11 rfl, x112, x113, x114]
     clear x112 x113 x114 Y
     replace LE := LE.trans hL9
     replace k11 := k11.later hL9
     clear hL9
     obtain ⟨WB, hWB⟩ : ∃ W, W = W9 := ⟨W9, rfl⟩
     subst hWB
     go_wp2
     go_loopw [114] (fun it wr => ∃ j : Nat, j ≤ 6 ∧ it = .int .i64 (j : Nat) ∧ Lat WB wr) (fun it _ => 6 - (intOf it).toNat)
     case atStart => exact ⟨0, by omega, rfl, Lat.refl _⟩
     case round =>
      obtain ⟨j, hj, rfl, hlr⟩ := hrel
      by_cases hjn : j < 6
      ·as_aux_lemma =>
       obtain ⟨a, b, hc1, hc2, hE⟩ := bad_pair (k12.later hlr).cell rfl hjn
       have k11r := k11.later hlr
       have s0 : Sl wr .i64 (some ⟨g11, 0, none⟩) 1 [1] := Sl.lit (xs := [1]) k11r
       have hE0 : askE [1] a b ≠ 0 := by rw [hE]; decide
       have HQ := fun w h => qQuota_no (some ⟨g11, 0, none⟩) 1 1 [1] a b w h (by omega) hE0
       have HT := fun w h => qQuotients_no (some ⟨g11, 0, none⟩) 1 1 [1] a b w h (by omega) hE0
       have HG := fun Al nl cl w h => give_no (some ⟨g11, 0, none⟩) 1 1 [1] Al nl cl a b w h (by omega) hE0
       rw [hE] at HQ HT HG
       rw [HXZ.out] at HQ
       have hjI : (j : Int) < 6 := by omega
       have hj0 : (0 : Int) ≤ (j : Int) := by omega
       have HJ := Lib.hid hjn
       have HLR := Lib.hid hlr
       clear hE hE0 hjn hj hlr HXZ k11 k12 k11r LE
       go_upto_region 17 with (fail)
       refine name1 (Q := fun W => Code.wp _ _ _ _ W) ?_
       intro v1 l1 hs1 k13
       obtain ⟨g13, hg13⟩ : ∃ z, wr.heap.size = z := ⟨_, rfl⟩
       rw [hg13] at k13 ⊢
       have s1 := s0.later l1
       have c0 := k13.cell 0
       have c1 := k13.cell 1
       clear hg13 hs1 hc1 hc2 s0
       go_wp2_with fail
       refine (HQ v1 s1).mono ?_
       rintro e v2 ⟨rfl, l2⟩
       have K0 := Blk.new v2 42 #[.int .u64 W8.zero.a0, .int .u64 W8.zero.a1, .int .u64 W8.zero.a2, .int .u64 W8.zero.a3, .int .u64 W8.zero.a4, .int .u64 W8.zero.a5, .int .u64 W8.zero.a6, .int .u64 W8.zero.a7, .int .u64 W8.zero.a0, .int .u64 W8.zero.a1, .int .u64 W8.zero.a2, .int .u64 W8.zero.a3, .int .u64 W8.zero.a4, .int .u64 W8.zero.a5, .int .u64 W8.zero.a6, .int .u64 W8.zero.a7]
       clear HQ c0 c1
       go_upto_region 18 with (refine wpList_put rfl 42 (.tmp 14) (.tmp 125) (by rfl) (by rfl) v2.heap.size (by rfl) X (by rfl) K0 (by rw [z3.out]; rfl) i3.out k3.out ?_; intro v3 hput; have l3 := hput.lat v2 (Lat.alloc _ _) (Nat.le_refl _))
       have l23 := l2.trans l3
       have s3 := s1.later l23
       replace k13 := k13.later l23
       have c0 := k13.cell 0
       have c1 := k13.cell 1
       clear hput K0
       go_wp2_with fail
       refine (HT v3 s3).mono ?_
       rintro e v4 ⟨rfl, l4⟩
       replace k13 := k13.later l4
       clear HT c0 c1
       have c0 := k13.cell 0
       have c1 := k13.cell 1
       go_wp2_with fail
       refine name1 (Q := fun W => Calls _ _ _ W _) ?_
       intro v5 l5 hs5 kb5
       have s5 := s3.later (l4.trans l5)
       refine (HG _ _ _ v5 s5).mono ?_
       rintro e v6 ⟨rfl, l6⟩
       clear HG hs5 kb5 c0 c1
       go_upto_region 20 with (fail)
       refine name1 (Q := fun W => Code.wp _ _ _ _ W) ?_
       intro v9 l7 hs7 kb7
       have LV : Hid (Lat WB v9) := (((((HLR.out.trans l1).trans l23).trans l4).trans l5).trans l6).trans l7
       clear s5 s3 s1 l1 l2 l3 l23 l4 l5 l6 l7 HLR hs7 kb7 k13
       rename_i KN hKN
       refine wp_region_slotsN (kq20r_rows ) (kq20r_base  _ _ _ _ _ _ _ _ _ _ _ _ _ _ _ _ _ _ _ _ _ _ _ _ _ _ _ _ _ _ _ _ _ _ _ _ _ _ _ _ _ _ _ _ _ _ _ _ _ _ _ _ _ _ _ _ _ _ _ _ _ _ _ _ _ _ _ _ _ _ _ _ _ _ _ _ _ _ _ _ _ _ _ _ _ _ _ _ _ _ _ _ _ _ _ _ _ _ _ _ _ _ _ _ _ _ _ _ _ _ _ _ _ _ _ _ _ _ _ _ _ _ _ _ _ _ _ _ _ _ _ _ _ _ _ _ _ _ _ _ _ _ _ _ _ _ _ _ _ _ _ _ _ _ _ _ _ _ _ _ _ _ _ _ _ _ _ _ _ _ _ _ _ _ _ _ _ _ _ _ _ _ _ _ _ _ _ _ _ _ _ _ _ _ _ _ _ _ _ _ _ _ _ _ _ _ _ _ _ _ _ _ _ _ _ _ _ _ _ _ _ _ _ _ _ _ _ _ _ _ _ _ _ _ _ _ _ _ _ _ _ _ _ _ _ _ _ _ _ _ _ _ _ _ _ _ _ _ _ _ _ _ _ _ _ _ _ _ _ _ _ _ _ _ _ _ _ _ _ _ _ _ _ _ _ _ _ _ _ _ _ _ _ _ _ _ _ _ _ _ _ _) 315 10 [[], [0], [1], [2], [3, 2], [2, 4], [5, 2], [6], [7, 6], [6, 8]] (by kernel_rfl) (by kernel_rfl) (by kernel_rfl) (by kernel_rfl) (by kernel_rfl) (by kernel_rfl) (by rfl) rfl (base_of (by repeat (first | exact base_nil _ | refine base_consL rfl ?_))) (kq20r_steps v9  _ _ _ _ _ _ _ _ _ _ _ _ _ _ _ _ _ _ _ _ _ _ _ _ _ _ _ _ _ _ _ _ _ _ _ _ _ _ _ _ _ _ _ _ _ _ _ _ _ _ _ _ _ _ _ _ _ _ _ _ _ _ _ _ _ _ _ _ _ _ _ _ _ _ _ _ _ _ _ _ _ _ _ _ _ _ _ _ _ _ _ _ _ _ _ _ _ _ _ _ _ _ _ _ _ _ _ _ _ _ _ _ _ _ _ _ _ _ _ _ _ _ _ _ _ _ _ _ _ _ _ _ _ _ _ _ _ _ _ _ _ _ _ _ _ _ _ _ _ _ _ _ _ _ _ _ _ _ _ _ _ _ _ _ _ _ _ _ _ _ _ _ _ _ _ _ _ _ _ _ _ _ _ _ _ _ _ _ _ _ _ _ _ _ _ _ _ _ _ _ _ _ _ _ _ _ _ _ _ _ _ _ _ _ _ _ _ _ _ _ _ _ _ _ _ _ _ _ _ _ _ _ _ _ _ _ _ _ _ _ _ _ _ _ _ _ _ _ _ _ _ _ _ _ _ _ _ _ _ _ _ _ _ _ _ _ _ _ _ _ _ _ _ _ _ _ _ _ _ _ _ _ _ _ _ _ _ _ _ _ _ _ _ _ _ _ _ _ _ _ _ _ ) ?_
       ·intro a9 W9 hsz9 hdf9 hL9 hbs hsl
        obtain ⟨v9, h9, q9⟩ := hsl 9 _ _ rfl rfl
        obtain rfl : v9 = .bool false := q9
        have w155 := slot_getD h9
        clear h9
        refine hKN _ _ ?_
        obtain ⟨T9, df9⟩ := a9
        obtain rfl : df9 = [] := hdf9
        obtain ⟨f, hf, rfl⟩ := spell315 T9 hsz9
        have Y := fun k {v} h => (hf k).trans (slot_getD (hbs k v h))
        have x155 := (hf 155).trans w155
        clear hbs hsl hf hsz9 hKN w155
        simp only [Y 15 rfl, Y 17 rfl, Y 19 rfl, Y 0 rfl, Y 1 rfl, Y 2 rfl, Y 3 rfl, Y 4 rfl, Y 5 rfl, Y 6 rfl, Y 7 rfl, Y 8 rfl, Y 9 rfl, Y 10 rfl, Y 11 rfl, Y 12 rfl, Y 13 rfl, Y 14 rfl, Y 16 rfl, Y 18 rfl, Y 20 rfl, Y 21 rfl, Y 22 rfl, Y 23 rfl, Y 24 rfl, Y 25 rfl, Y 26 rfl, Y 27 rfl, Y 28 rfl, Y 29 rfl, Y 30 rfl, Y 31 rfl, Y 32 rfl, Y 33 rfl, Y 34 rfl, Y 35 rfl, Y 36 rfl, Y 37 rfl, Y 38 rfl, Y 39 rfl, Y 40 rfl, Y 41 rfl, Y 42 rfl, Y 43 rfl, Y 44 rfl, Y 45 rfl, Y 46 rfl, Y 47 rfl, Y 48 rfl, Y 49 rfl, Y 50 rfl, Y 51 rfl, Y 52 rfl, Y 53 rfl, Y 54 rfl, Y 55 rfl, Y 56 rfl, Y 57 rfl, Y 58 rfl, Y 59 rfl, Y 60 rfl, Y 61 rfl, Y 62 rfl, Y 63 rfl, Y 64 rfl, Y 65 rfl, Y 66 rfl, Y 67 rfl, Y 68 rfl, Y 69 rfl, Y 70 rfl, Y 71 rfl, Y 72 rfl, Y 73 rfl, Y 74 rfl, Y 75 rfl, Y 76 rfl, Y 77 rfl, Y 78 rfl, Y 79 rfl, Y 80 rfl, Y 81 rfl, Y 82 rfl, Y 83 rfl, Y 84 rfl, Y 85 rfl, Y 86 rfl, Y 87 rfl, Y 88 rfl, Y 89 rfl, Y 90 rfl, Y 91 rfl, Y 92 rfl, Y 93 rfl, Y 94 rfl, Y 95 rfl, Y 96 rfl, Y 97 rfl, Y 98 rfl, Y 99 rfl, Y 100 rfl, Y 101 rfl, Y 102 rfl, Y 103 rfl, Y 104 rfl, Y 105 rfl, Y 106 rfl, Y 107 rfl, Y 108 rfl, Y 109 rfl, Y 110 rfl, Y 111 rfl, Y 112 rfl, Y 113 rfl, Y 114 rfl, Y 115 rfl, Y 116 rfl, Y 117 rfl, Y 118 rfl, Y 119 rfl, Y 120 rfl, Y 121 rfl, Y 122 rfl, Y 123 rfl, Y 124 rfl, Y 125 rfl, Y 126 rfl, Y 127 rfl, Y 128 rfl, Y 129 rfl, Y 130 rfl, Y 131 rfl, Y 132 rfl, Y 133 rfl, Y 134 rfl, Y 135 rfl, Y 136 rfl, Y 137 rfl, Y 138 rfl, Y 139 rfl, Y 140 rfl, Y 141 rfl, Y 142 rfl, Y 143 rfl, Y 144 rfl, Y 145 rfl, Y 156 rfl, Y 157 rfl, Y 158 rfl, Y 159 rfl, Y 160 rfl, Y 161 rfl, Y 162 rfl, Y 163 rfl, Y 164 rfl, Y 165 rfl, Y 166 rfl, Y 167 rfl, Y 168 rfl, Y 169 rfl, Y 170 rfl, Y 171 rfl, Y 172 rfl, Y 173 rfl, Y 174 rfl, Y 175 rfl, Y 176 rfl, Y 177 rfl, Y 178 rfl, Y 179 rfl, Y 180 rfl, Y 181 rfl, Y 182 rfl, Y 183 rfl, Y 184 rfl, Y 185 rfl, Y 186 rfl, Y 187 rfl, Y 188 rfl, Y 189 rfl, Y 190 rfl, Y 191 rfl, Y 192 rfl, Y 193 rfl, Y 194 rfl, Y 195 rfl, Y 196 rfl, Y 197 rfl, Y 198 rfl, Y 199 rfl, Y 200 rfl, Y 201 rfl, Y 202 rfl, Y 203 rfl, Y 204 rfl, Y 205 rfl, Y 206 rfl, Y 207 rfl, Y 208 rfl, Y 209 rfl, Y 210 rfl, Y 211 rfl, Y 212 rfl, Y 213 rfl, Y 214 rfl, Y 215 rfl, Y 216 rfl, Y 217 rfl, Y 218 rfl, Y 219 rfl, Y 220 rfl, Y 221 rfl, Y 222 rfl, Y 223 rfl, Y 224 rfl, Y 225 rfl, Y 226 rfl, Y 227 rfl, Y 228 rfl, Y 229 rfl, Y 230 rfl, Y 231 rfl, Y 232 rfl, Y 233 rfl, Y 234 rfl, Y 235 rfl, Y 236 rfl, Y 237 rfl, Y 238 rfl, Y 239 rfl, Y 240 rfl, Y 241 rfl, Y 242 rfl, Y 243 rfl, Y 244 rfl, Y 245 rfl, Y 246 rfl, Y 247 rfl, Y 248 rfl, Y 249 rfl, Y 250 rfl, Y 251 rfl, Y 252 rfl, Y 253 rfl, Y 254 rfl, Y 255 rfl, Y 256 rfl, Y 257 rfl, Y 258 rfl, Y 259 rfl, Y 260 rfl, Y 261 rfl, Y 262 rfl, Y 263 rfl, Y 264 rfl, Y 265 rfl, Y 266 rfl, Y 267 rfl, Y 268 rfl, Y 269 rfl, Y 270 rfl, Y 271 rfl, Y 272 rfl, Y 273 rfl, Y 274 rfl, Y 275 rfl, Y 276 rfl, Y 277 rfl, Y 278 rfl, Y 279 rfl, Y 280 rfl, Y 281 rfl, Y 282 rfl, Y 283 rfl, Y 284 rfl, Y 285 rfl, Y 286 rfl, Y 287 rfl, Y 288 rfl, Y 289 rfl, Y 290 rfl, Y 291 rfl, Y 292 rfl, Y 293 rfl, Y 294 rfl, Y 295 rfl, Y 296 rfl, Y 297 rfl, Y 298 rfl, Y 299 rfl, Y 300 rfl, Y 301 rfl, Y 302 rfl, Y 303 rfl, Y 304 rfl, Y 305 rfl, Y 306 rfl, Y 307 rfl, Y 308 rfl, Y 309 rfl, Y 310 rfl, Y 311 rfl, Y 312 rfl, Y 313 rfl, Y 314 rfl, x155]
        clear x155 Y
        go_wp2
        go_roundw
        case rel =>
         have HRel : ∃ j' : Nat, j' ≤ 6 ∧ Value.int .i64 ((j : Int) + 1) = .int .i64 (j' : Nat) ∧ Lat WB W9 := ⟨j + 1, by have h9 := HJ.out; omega, by go_num, LV.out.trans hL9⟩
         first | exact HRel | exact ⟨_, _, _, _, _, _, _, _, _, _, _, _, _, _, _, HRel, rfl, rfl, rfl, rfl, rfl, rfl, rfl, rfl, rfl, rfl, rfl, rfl, rfl, rfl, rfl⟩ | exact ⟨_, _, _, _, _, _, _, _, _, _, _, _, _, _, _, _, HRel, rfl, rfl, rfl, rfl, rfl, rfl, rfl, rfl, rfl, rfl, rfl, rfl, rfl, rfl, rfl, rfl⟩ | exact ⟨_, _, _, _, _, _, _, _, _, _, _, _, _, _, _, _, _, HRel, rfl, rfl, rfl, rfl, rfl, rfl, rfl, rfl, rfl, rfl, rfl, rfl, rfl, rfl, rfl, rfl, rfl⟩ | exact ⟨_, _, _, _, _, _, _, _, _, _, _, _, _, _, _, _, _, _, HRel, rfl, rfl, rfl, rfl, rfl, rfl, rfl, rfl, rfl, rfl, rfl, rfl, rfl, rfl, rfl, rfl, rfl, rfl⟩ | exact ⟨_, _, _, _, _, _, _, _, _, _, _, _, _, _, _, _, _, _, _, HRel, rfl, rfl, rfl, rfl, rfl, rfl, rfl, rfl, rfl, rfl, rfl, rfl, rfl, rfl, rfl, rfl, rfl, rfl, rfl⟩ | exact ⟨_, _, _, _, _, _, _, _, _, _, _, _, _, _, _, _, _, _, _, _, HRel, rfl, rfl, rfl, rfl, rfl, rfl, rfl, rfl, rfl, rfl, rfl, rfl, rfl, rfl, rfl, rfl, rfl, rfl, rfl, rfl⟩ | exact ⟨_, _, _, _, _, _, _, _, _, _, _, _, _, _, _, _, _, _, _, _, _, HRel, rfl, rfl, rfl, rfl, rfl, rfl, rfl, rfl, rfl, rfl, rfl, rfl, rfl, rfl, rfl, rfl, rfl, rfl, rfl, rfl, rfl⟩ | exact ⟨_, _, _, _, _, _, _, _, _, _, _, _, _, _, _, _, _, _, _, _, _, _, HRel, rfl, rfl, rfl, rfl, rfl, rfl, rfl, rfl, rfl, rfl, rfl, rfl, rfl, rfl, rfl, rfl, rfl, rfl, rfl, rfl, rfl, rfl⟩ | exact ⟨_, _, _, _, _, _, _, _, _, _, _, _, _, _, _, _, _, _, _, _, _, _, _, HRel, rfl, rfl, rfl, rfl, rfl, rfl, rfl, rfl, rfl, rfl, rfl, rfl, rfl, rfl, rfl, rfl, rfl, rfl, rfl, rfl, rfl, rfl, rfl⟩ | exact ⟨_, _, _, _, _, _, _, _, _, _, _, _, _, _, _, _, _, _, _, _, _, _, _, _, HRel, rfl, rfl, rfl, rfl, rfl, rfl, rfl, rfl, rfl, rfl, rfl, rfl, rfl, rfl, rfl, rfl, rfl, rfl, rfl, rfl, rfl, rfl, rfl, rfl⟩ | exact ⟨_, _, _, _, _, _, _, _, _, _, _, _, _, _, _, _, _, _, _, _, _, _, _, _, _, HRel, rfl, rfl, rfl, rfl, rfl, rfl, rfl, rfl, rfl, rfl, rfl, rfl, rfl, rfl, rfl, rfl, rfl, rfl, rfl, rfl, rfl, rfl, rfl, rfl, rfl⟩ | exact ⟨_, _, _, _, _, _, _, _, _, _, _, _, _, _, _, _, _, _, _, _, _, _, _, _, _, _, HRel, rfl, rfl, rfl, rfl, rfl, rfl, rfl, rfl, rfl, rfl, rfl, rfl, rfl, rfl, rfl, rfl, rfl, rfl, rfl, rfl, rfl, rfl, rfl, rfl, rfl, rfl⟩ | exact ⟨_, _, _, _, _, _, _, _, _, _, _, _, _, _, _, _, _, _, _, _, _, _, _, _, _, _, _, HRel, rfl, rfl, rfl, rfl, rfl, rfl, rfl, rfl, rfl, rfl, rfl, rfl, rfl, rfl, rfl, rfl, rfl, rfl, rfl, rfl, rfl, rfl, rfl, rfl, rfl, rfl, rfl⟩ | exact ⟨_, _, _, _, _, _, _, _, _, _, _, _, _, _, _, _, _, _, _, _, _, _, _, _, _, _, _, _, HRel, rfl, rfl, rfl, rfl, rfl, rfl, rfl, rfl, rfl, rfl, rfl, rfl, rfl, rfl, rfl, rfl, rfl, rfl, rfl, rfl, rfl, rfl, rfl, rfl, rfl, rfl, rfl, rfl⟩ | exact ⟨_, _, _, _, _, _, _, _, _, _, _, _, _, _, _, _, _, _, _, _, _, _, _, _, _, _, _, _, _, HRel, rfl, rfl, rfl, rfl, rfl, rfl, rfl, rfl, rfl, rfl, rfl, rfl, rfl, rfl, rfl, rfl, rfl, rfl, rfl, rfl, rfl, rfl, rfl, rfl, rfl, rfl, rfl, rfl, rfl⟩ | exact ⟨_, _, _, _, _, _, _, _, _, _, _, _, _, _, _, _, _, _, _, _, _, _, _, _, _, _, _, _, _, _, HRel, rfl, rfl, rfl, rfl, rfl, rfl, rfl, rfl, rfl, rfl, rfl, rfl, rfl, rfl, rfl, rfl, rfl, rfl, rfl, rfl, rfl, rfl, rfl, rfl, rfl, rfl, rfl, rfl, rfl, rfl⟩
        case measure =>
         have h9 := HJ.out
         simp [intOf]; omega
      ·as_aux_lemma =>
       obtain rfl : 6 = j := by omega
       have LC := LE.trans hlr
       replace k11 := k11.later hlr
       clear LE hlr k12 hj hjn
       go_upto_region 23 with (fail)
       obtain ⟨WC, hWC⟩ : ∃ W, W = wr := ⟨wr, rfl⟩
       subst hWC
       rename_i KN hKN
       refine wp_region_slotsN (kq23r_rows g11) (kq23r_base g11) 315 7 [[], [], [], [], [0, 1, 2, 3], [4], []] (by kernel_rfl) (by kernel_rfl) (by kernel_rfl) (by kernel_rfl) (by kernel_rfl) (by kernel_rfl) (by rfl) rfl (base_of (by repeat (first | exact base_nil _ | refine base_consL rfl ?_))) (kq23r_steps WC g11 ) ?_
       ·intro a9 W9 hsz9 hdf9 hL9 hbs hsl
        obtain ⟨v9, h9, q9⟩ := hsl 4 _ _ rfl rfl
        obtain ⟨gd, h1, h2, h3, h4, rfl, d5, d1, d2, d3, d4⟩ := (show FourL  v9 W9 from q9)
        have w161 := slot_getD h9
        clear h9
        obtain ⟨v9, h9, q9⟩ := hsl 5 _ _ rfl rfl
        obtain rfl : v9 = .int .i64 4 := q9
        have w162 := slot_getD h9
        clear h9
        obtain ⟨v9, h9, q9⟩ := hsl 6 _ _ rfl rfl
        obtain rfl : v9 = .int .i64 0 := q9
        have w163 := slot_getD h9
        clear h9
        refine hKN _ _ ?_
        obtain ⟨T9, df9⟩ := a9
        obtain rfl : df9 = [] := hdf9
        obtain ⟨f, hf, rfl⟩ := spell315 T9 hsz9
        have Y := fun k {v} h => (hf k).trans (slot_getD (hbs k v h))
        have x161 := (hf 161).trans w161
        have x162 := (hf 162).trans w162
        have x163 := (hf 163).trans w163
        clear hbs hsl hf hsz9 hKN w161 w162 w163
        simp only [Y 11 rfl, x161, x162, x163]
        clear x161 x162 x163 Y
        replace LC := LC.trans hL9
        replace k11 := k11.later hL9
        clear hL9
        obtain ⟨WD, hWD⟩ : ∃ W, W = W9 := ⟨W9, rfl⟩
        subst hWD
        go_wp2
        go_loopw [163] (fun it wr => ∃ j : Nat, j ≤ 4 ∧ it = .int .i64 (j : Nat) ∧ Lat WD wr) (fun it _ => 4 - (intOf it).toNat)
        case atStart => exact ⟨0, by omega, rfl, Lat.refl _⟩
        case round =>
         obtain ⟨j, hj, rfl, hlr⟩ := hrel
         by_cases hjn : j < 4
         ·as_aux_lemma =>
          obtain ⟨A, n, c, L, hcell, sL, hn0, hn2, hbad⟩ := bad_four (d5.later hlr).cell rfl (d1.later hlr) (d2.later hlr) (d3.later hlr) (d4.later hlr) hjn
          have s0 : Sl wr .i64 (some ⟨g11, 0, none⟩) 1 [1] := Sl.lit (xs := [1]) (k11.later hlr)
          have HG := give_bad (some ⟨g11, 0, none⟩) 1 1 [1] A n c L 2 1 wr s0 sL (by omega) (by omega) hn0 (by decide) hbad
          have hjI : (j : Int) < 4 := by omega
          have hj0 : (0 : Int) ≤ (j : Int) := by omega
          have HJ := Lib.hid hjn
          have HLR := Lib.hid hlr
          clear hbad hn0 hn2 sL s0 d1 d2 d3 d4 d5 k11 LC hlr hj hjn
          go_wp2_with fail
          refine HG.mono ?_
          rintro e w1 ⟨rfl, l1⟩
          clear HG hcell
          go_upto_region 27 with (fail)
          refine name1 (Q := fun W => Code.wp _ _ _ _ W) ?_
          intro W9 l2 hs2 kb2
          have hL9 := l1.trans l2
          clear l1 l2 hs2 kb2
          go_wp2
          go_roundw
          case rel =>
           have HRel : ∃ j' : Nat, j' ≤ 4 ∧ Value.int .i64 ((j : Int) + 1) = .int .i64 (j' : Nat) ∧ Lat WD W9 := ⟨j + 1, by have h9 := HJ.out; omega, by go_num, HLR.out.trans hL9⟩
           first | exact HRel | exact ⟨_, HRel, rfl⟩ | exact ⟨_, _, HRel, rfl, rfl⟩ | exact ⟨_, _, _, HRel, rfl, rfl, rfl⟩ | exact ⟨_, _, _, _, HRel, rfl, rfl, rfl, rfl⟩ | exact ⟨_, _, _, _, _, HRel, rfl, rfl, rfl, rfl, rfl⟩ | exact ⟨_, _, _, _, _, _, HRel, rfl, rfl, rfl, rfl, rfl, rfl⟩ | exact ⟨_, _, _, _, _, _, _, HRel, rfl, rfl, rfl, rfl, rfl, rfl, rfl⟩ | exact ⟨_, _, _, _, _, _, _, _, HRel, rfl, rfl, rfl, rfl, rfl, rfl, rfl, rfl⟩ | exact ⟨_, _, _, _, _, _, _, _, _, HRel, rfl, rfl, rfl, rfl, rfl, rfl, rfl, rfl, rfl⟩ | exact ⟨_, _, _, _, _, _, _, _, _, _, HRel, rfl, rfl, rfl, rfl, rfl, rfl, rfl, rfl, rfl, rfl⟩ | exact ⟨_, _, _, _, _, _, _, _, _, _, _, HRel, rfl, rfl, rfl, rfl, rfl, rfl, rfl, rfl, rfl, rfl, rfl⟩ | exact ⟨_, _, _, _, _, _, _, _, _, _, _, _, HRel, rfl, rfl, rfl, rfl, rfl, rfl, rfl, rfl, rfl, rfl, rfl, rfl⟩ | exact ⟨_, _, _, _, _, _, _, _, _, _, _, _, _, HRel, rfl, rfl, rfl, rfl, rfl, rfl, rfl, rfl, rfl, rfl, rfl, rfl, rfl⟩ | exact ⟨_, _, _, _, _, _, _, _, _, _, _, _, _, _, HRel, rfl, rfl, rfl, rfl, rfl, rfl, rfl, rfl, rfl, rfl, rfl, rfl, rfl, rfl⟩
          case measure =>
           have h9 := HJ.out
           simp [intOf]; omega
         ·as_aux_lemma =>
          obtain rfl : 4 = j := by omega
          replace LC := LC.trans hlr
          replace k11 := k11.later hlr
          clear d1 d2 d3 d4 d5 hlr hj hjn
          go_upto_region 31 with (fail)
          refine name1 (Q := fun W => Code.wp _ _ _ _ W) ?_
          intro x30 l30 hs30 k24
          obtain ⟨g24, hg24⟩ : ∃ z, wr.heap.size = z := ⟨_, rfl⟩
          rw [hg24] at k24 ⊢
          clear hg24 hs30
          replace k11 := k11.later l30
          replace LC := LC.trans l30
          clear l30
          go_wp2_with fail
          refine name3 (Q := fun W => Calls _ _ _ W _) ?_
          intro y31 m31 hs31 a1 a2 a3
          replace k11 := k11.later m31
          replace k24 := k24.later m31
          replace LC := LC.trans m31
          refine (gives_lit _ 3 3 _ 3 3 10 1 ⟨[2, 2, 6], [], 0, []⟩ _ 3 3 [2, 2, 6] none 0 0 [] 0 y31 (by decide) (fun w' h' => give_lit (P := [1, 10, 39]) (L := [2, 2, 0]) (k := 1) (s := 10) kq1 (by decide) (by decide) (by decide) (by decide) (by decide) (by decide) (by decide) (.inr (by decide)) _ 3 _ 3 w' (Sl.lit (xs := [1, 10, 39]) (a1.later h')) (Sl.lit (xs := [2, 2, 0]) (a2.later h'))) (Sl.lit (xs := [2, 2, 6]) a3) (Sl.nil _ _ _) (by decide) (by decide) (by decide) (by decide)).mono ?_
          rintro e x31 ⟨rfl, l31⟩
          replace k11 := k11.later l31
          replace k24 := k24.later l31
          replace LC := LC.trans l31
          clear a1 a2 a3 m31 l31 hs31
          go_wp2_with fail
          refine name1 (Q := fun W => Calls _ _ _ W _) ?_
          intro y32 m32 hs32 a1
          replace k11 := k11.later m32
          replace k24 := k24.later m32
          replace LC := LC.trans m32
          refine (give_lit (P := [2, 2]) (L := []) (k := 2) (s := 9) kq2 (by decide) (by decide) (by decide) (by decide) (by decide) (by decide) (by decide) (.inl rfl) _ 2 none 0 y32 (Sl.lit (xs := [2, 2]) a1) (Sl.nil _ _ _)).mono ?_
          rintro e x32 ⟨l32, h32⟩
          obtain rfl : e = _ := h32
          replace k11 := k11.later l32
          replace k24 := k24.later l32
          replace LC := LC.trans l32
          clear a1 m32 l32 hs32
          go_upto_region 33 with (fail)
          refine name1 (Q := fun W => Code.wp _ _ _ _ W) ?_
          intro x33 l33 hs33 kb33
          replace k11 := k11.later l33
          replace k24 := k24.later l33
          replace LC := LC.trans l33
          clear l33 hs33 kb33
          go_wp2_with fail
          refine name2 (Q := fun W => Calls _ _ _ W _) ?_
          intro y33 m33 hs33 a1 a2
          replace k11 := k11.later m33
          replace k24 := k24.later m33
          replace LC := LC.trans m33
          refine (give_lit (P := [10, 0]) (L := [8, 0]) (k := 2) (s := 9) kq3 (by decide) (by decide) (by decide) (by decide) (by decide) (by decide) (by decide) (.inr (by decide)) _ 2 _ 2 y33 (Sl.lit (xs := [10, 0]) a1) (Sl.lit (xs := [8, 0]) a2)).mono ?_
          rintro e z33 ⟨l33, h33⟩
          obtain rfl : e = _ := h33
          replace k11 := k11.later l33
          replace k24 := k24.later l33
          replace LC := LC.trans l33
          clear a1 a2 m33 l33 hs33
          go_upto_region 34 with (fail)
          refine name1 (Q := fun W => Code.wp _ _ _ _ W) ?_
          intro x34 l34 hs34 kb34
          replace k11 := k11.later l34
          replace k24 := k24.later l34
          replace LC := LC.trans l34
          clear l34 hs34 kb34
          go_wp2_with fail
          refine (settle_litE none 0 0 [] none 0 0 [] 0 none 0 0 [] 2 x34 (Sl.nil _ _ _) (Sl.nil _ _ _) (Sl.nil _ _ _) (by decide) (by decide) (by decide) ks1).mono ?_
          rintro e x35 ⟨rfl, l35⟩
          replace k11 := k11.later l35
          replace k24 := k24.later l35
          replace LC := LC.trans l35
          clear l35
          go_wp2_with fail
          refine name2 (Q := fun W => Calls _ _ _ W _) ?_
          intro y35 m35 hs35 a1 a2
          replace k11 := k11.later m35
          replace k24 := k24.later m35
          replace LC := LC.trans m35
          refine (settle_litE _ 1 1 [1] none 0 0 [] 1 _ 1 1 [0] 2 y35 (Sl.lit (xs := [1]) a1) (Sl.nil _ _ _) (Sl.lit (xs := [0]) a2) (by decide) (by decide) (by decide) ks2).mono ?_
          rintro e u35 ⟨rfl, l35⟩
          replace k11 := k11.later l35
          replace k24 := k24.later l35
          replace LC := LC.trans l35
          clear a1 a2 m35 l35 hs35
          go_wp2_with fail
          refine name3 (Q := fun W => Calls _ _ _ W _) ?_
          intro y36 m36 hs36 a1 a2 a3
          replace k11 := k11.later m36
          replace k24 := k24.later m36
          replace LC := LC.trans m36
          refine (settle_litE _ 2 2 [1, 1] _ 2 2 [0, 1] 2 _ 2 2 [0, 1] 2 y36 (Sl.lit (xs := [1, 1]) a1) (Sl.lit (xs := [0, 1]) a2) (Sl.lit (xs := [0, 1]) a3) (by decide) (by decide) (by decide) ks3).mono ?_
          rintro e u36 ⟨rfl, l36⟩
          replace k11 := k11.later l36
          replace k24 := k24.later l36
          replace LC := LC.trans l36
          clear a1 a2 a3 m36 l36 hs36
          go_wp2_with fail
          refine name3 (Q := fun W => Calls _ _ _ W _) ?_
          intro y37 m37 hs37 a1 a2 a3
          replace k11 := k11.later m37
          replace k24 := k24.later m37
          replace LC := LC.trans m37
          refine (settle_litE _ 2 2 [1, 1] _ 2 2 [1, 0] 1 _ 2 2 [0, 1] 2 y37 (Sl.lit (xs := [1, 1]) a1) (Sl.lit (xs := [1, 0]) a2) (Sl.lit (xs := [0, 1]) a3) (by decide) (by decide) (by decide) ks4).mono ?_
          rintro e u37 ⟨rfl, l37⟩
          replace k11 := k11.later l37
          replace k24 := k24.later l37
          replace LC := LC.trans l37
          clear a1 a2 a3 m37 l37 hs37
          go_wp2_with fail
          refine name3 (Q := fun W => Calls _ _ _ W _) ?_
          intro y38 m38 hs38 a1 a2 a3
          replace k11 := k11.later m38
          replace k24 := k24.later m38
          replace LC := LC.trans m38
          refine (settle_litE _ 2 2 [1, 1] _ 2 2 [0, 1] 1 _ 2 2 [0, 2] 2 y38 (Sl.lit (xs := [1, 1]) a1) (Sl.lit (xs := [0, 1]) a2) (Sl.lit (xs := [0, 2]) a3) (by decide) (by decide) (by decide) ks5).mono ?_
          rintro e u38 ⟨rfl, l38⟩
          replace k11 := k11.later l38
          replace k24 := k24.later l38
          replace LC := LC.trans l38
          clear a1 a2 a3 m38 l38 hs38
          go_wp2_with fail
          refine name3 (Q := fun W => Calls _ _ _ W _) ?_
          intro y39 m39 hs39 a1 a2 a3
          replace k11 := k11.later m39
          replace k24 := k24.later m39
          replace LC := LC.trans m39
          refine (settle_litE _ 3 3 [1, 1, 0] _ 2 2 [0, 1] 1 _ 1 1 [2] 4 y39 (Sl.lit (xs := [1, 1, 0]) a1) (Sl.lit (xs := [0, 1]) a2) (Sl.lit (xs := [2]) a3) (by decide) (by decide) (by decide) ks6).mono ?_
          rintro e u39 ⟨rfl, l39⟩
          replace k11 := k11.later l39
          replace k24 := k24.later l39
          replace LC := LC.trans l39
          clear a1 a2 a3 m39 l39 hs39
          go_wp2_with fail
          refine name3 (Q := fun W => Calls _ _ _ W _) ?_
          intro y40 m40 hs40 a1 a2 a3
          replace k11 := k11.later m40
          replace k24 := k24.later m40
          replace LC := LC.trans m40
          refine (settle_litS _ 3 3 [1, 1, 0] _ 3 3 [0, 1, 2] 2 _ 4 4 [2, 2, 1, 0] [1, 2, 1] y40 (Sl.lit (xs := [1, 1, 0]) a1) (Sl.lit (xs := [0, 1, 2]) a2) (Sl.lit (xs := [2, 2, 1, 0]) a3) (by decide) (by decide) (by decide) ks7).mono ?_
          rintro e u40 ⟨g42, c42, rfl, s42, l40⟩
          replace k11 := k11.later l40
          replace k24 := k24.later l40
          replace LC := LC.trans l40
          clear a1 a2 a3 m40 l40 hs40
          go_wp2_with fail
          refine name1 (Q := fun W => Calls _ _ _ W _) ?_
          intro y41 m41 hs41 a1
          replace k11 := k11.later m41
          replace k24 := k24.later m41
          replace s42 := s42.later m41
          replace LC := LC.trans m41
          refine (settle_litS _ 2 2 [1000, 0] none 0 0 [] 0 none 0 0 [] [1000, 0] y41 (Sl.lit (xs := [1000, 0]) a1) (Sl.nil _ _ _) (Sl.nil _ _ _) (by decide) (by decide) (by decide) ks8).mono ?_
          rintro e Wt ⟨g44, c44, rfl, s44, l41⟩
          replace k11 := k11.later l41
          replace k24 := k24.later l41
          replace s42 := s42.later l41
          replace LC := LC.trans l41
          clear a1 m41 l41 hs41
          have HG1 : Hid (∀ w, Lat Wt w → ∀ (ga : Nat) (ba : Blk w ga 3 #[.int .i64 500, .int .i64 500]), Calls Tryz.prog 33 #[.slice (some ⟨g24, 0, none⟩) 2 2, .int .i64 1000, .int .i64 1, .slice none 0 0, .agg #[.slice (some ⟨ga, 0, none⟩) 2 2, .slice none 0 0, .int .i64 0]] w (fun e w' => e = .returned (.bool true) ∧ Lat w w')) := fun w h ga ba =>
           gives_lit _ 2 2 none 0 0 1000 1 ⟨[500, 500], [], 0, []⟩ _ 2 2 [500, 500] none 0 0 [] 0 w (by decide) (fun w' h' => give_lit (P := [1000000000, 1000000000]) (L := []) (k := 1) (s := 1000) kq4 (by decide) (by decide) (by decide) (by decide) (by decide) (by decide) (by decide) (.inl rfl) _ 2 none 0 w' (Sl.lit (xs := [1000000000, 1000000000]) (k24.later (h.trans h'))) (Sl.nil _ _ _)) (Sl.lit (xs := [500, 500]) ba) (Sl.nil _ _ _) (by decide) (by decide) (by decide) (by decide)
          have HG2 : Hid (∀ w, Lat Wt w → ∀ (gp : Nat) (bp : Blk w gp 3 #[.int .i64 1000]) (ga : Nat) (ba : Blk w ga 3 #[.int .i64 1000]), Calls Tryz.prog 33 #[.slice (some ⟨g11, 0, none⟩) 1 1, .int .i64 1000, .int .i64 1, .slice (some ⟨gp, 0, none⟩) 1 1, .agg #[.slice (some ⟨ga, 0, none⟩) 1 1, .slice none 0 0, .int .i64 0]] w (fun e w' => e = .returned (.bool true) ∧ Lat w w')) := fun w h gp bp ga ba =>
           gives_lit _ 1 1 _ 1 1 1000 1 ⟨[1000], [], 0, []⟩ _ 1 1 [1000] none 0 0 [] 0 w (by decide) (fun w' h' => give_lit (P := [1]) (L := [1000]) (k := 1) (s := 1000) kq5 (by decide) (by decide) (by decide) (by decide) (by decide) (by decide) (by decide) (.inr (by decide)) _ 1 _ 1 w' (Sl.lit (xs := [1]) (k11.later (h.trans h'))) (Sl.lit (xs := [1000]) (bp.later h'))) (Sl.lit (xs := [1000]) ba) (Sl.nil _ _ _) (by decide) (by decide) (by decide) (by decide)
          have HE1 : Hid (∀ w, Lat Wt w → ∀ (g2 : Nat) (b2 : Blk w g2 3 #[.int .i64 1, .int .i64 2, .int .i64 1]), Calls Tryz.prog 31 #[.slice (some ⟨g42, 0, none⟩) 3 c42, .slice (some ⟨g2, 0, none⟩) 3 3] w (fun e w' => e = .returned (.bool true) ∧ Lat w w')) := fun w h g2 b2 => equal_lit _ 3 c42 [1, 2, 1] _ 3 3 w (s42.later h) (Sl.lit (xs := [1, 2, 1]) b2) (by decide) (by decide)
          have HE2 : Hid (∀ w, Lat Wt w → ∀ (g2 : Nat) (b2 : Blk w g2 3 #[.int .i64 1000, .int .i64 0]), Calls Tryz.prog 31 #[.slice (some ⟨g44, 0, none⟩) 2 c44, .slice (some ⟨g2, 0, none⟩) 2 2] w (fun e w' => e = .returned (.bool true) ∧ Lat w w')) := fun w h g2 b2 => equal_lit _ 2 c44 [1000, 0] _ 2 2 w (s44.later h) (Sl.lit (xs := [1000, 0]) b2) (by decide) (by decide)
          have LT := Lib.hid LC
          clear LC k11 k24 s42 s44
          go_upto_region 42 with (fail)
          rename_i KN hKN
          refine wp_region_slotsN (kq42r_rows g11 g24 g42 c42 g44 c44) (kq42r_base g11 g24 g42 c42 g44 c44) 315 65 [[], [0], [1], [1], [3, 1], [2, 4, 1, 1], [1, 5], [6, 5], [7], [7], [7], [10, 7], [8, 9, 11, 7, 7], [7, 12], [13, 12], [14], [15, 14], [14, 16], [17, 14], [18], [19, 18], [18, 20], [21, 18], [22], [23, 22], [22, 24], [25, 22], [26], [27, 26], [26, 28], [29, 26], [30], [31, 30], [30, 32], [33, 30], [34], [35, 34], [34, 36], [37, 34], [38], [39, 38], [38, 40], [41, 38], [42], [43, 42], [42, 44], [45, 42], [46], [46], [47, 48, 46, 46], [46, 49], [50, 49], [51], [52, 51], [51, 53], [54, 51], [55], [55], [56, 57, 55, 55], [55, 58], [59, 58], [60], [61, 60], [60, 62], [63, 60, 0, 1, 2, 3, 4, 5, 6, 7, 8, 9, 10, 11, 12, 13, 14, 15, 16, 17, 18, 19, 20, 21, 22, 23, 24, 25, 26, 27, 28, 29, 30, 31, 32, 33, 34, 35, 36, 37, 38, 39, 40, 41, 42, 43, 44, 45, 46, 47, 48, 49, 50, 51, 52, 53, 54, 55, 56, 57, 58, 59, 60, 61, 62, 63]] (by kernel_rfl) (by kernel_rfl) (by kernel_rfl) (by kernel_rfl) (by kernel_rfl) (by kernel_rfl) (by rfl) rfl (base_of (by repeat (first | exact base_nil _ | refine base_consL rfl ?_))) (kq42r_steps Wt g11 g24 g42 c42 g44 c44 HG1.out HG2.out HE1.out HE2.out) ?_
          ·intro a9 W9 hsz9 hdf9 hL9 hbs hsl
           obtain ⟨v9, h9, q9⟩ := hsl 64 _ _ rfl rfl
           obtain rfl : v9 = .bool true := q9
           have w0 := slot_getD h9
           clear h9
           refine hKN _ _ ?_
           obtain ⟨T9, df9⟩ := a9
           obtain rfl : df9 = [] := hdf9
           obtain ⟨f, hf, rfl⟩ := spell315 T9 hsz9
           have Y := fun k {v} h => (hf k).trans (slot_getD (hbs k v h))
           have x0 := (hf 0).trans w0
           clear hbs hsl hf hsz9 hKN w0
           simp only [Y 11 rfl, Y 24 rfl, Y 25 rfl, Y 27 rfl, Y 29 rfl, Y 31 rfl, Y 33 rfl, Y 35 rfl, Y 37 rfl, Y 39 rfl, Y 41 rfl, Y 42 rfl, Y 43 rfl, Y 44 rfl, Y 45 rfl, x0]
           clear x0 Y
           go_wp2
           go_ret
           exact ⟨rfl, LT.out.trans hL9⟩
end Go.Proofs.YtbgngmamnonlbaaGreat
