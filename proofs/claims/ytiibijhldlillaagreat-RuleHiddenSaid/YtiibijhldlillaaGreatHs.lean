/- What a function leads to, by a quicker way. No condition. -/
import Derived.Test.YtiibijhldlillaaGreatHa
namespace Go.Proofs.Tryz
open Go.Proofs.YtiibijhldlillaaGreat.Eng
set_option maxRecDepth 100000
noncomputable def leadF (f : Nat) : Option (List FuncId) := Option.rec none (fun fn => some (Tryz.prog.leadsTo fn)) (B0.fn.at_ f)
/-- The row of what is led to; none: not told. -/
noncomputable def clo (n : Nat) : List FuncId → T Unit → List FuncId → Option (List FuncId) :=
  Nat.rec (fun _ _ _ => none) (fun _ ih todo t acc => List.rec (some acc.reverse) (fun f todo _ => Option.rec (Option.rec none (fun l => ih (l ++ todo) (t.set f ()) (f :: acc)) (leadF f)) (fun _ => ih todo t acc) (t.at_ f)) todo) n

open Go.Proofs.YtiibijhldlillaaGreat.Eng
set_option maxRecDepth 100000
theorem leadF_eq {f : Nat} {l : List FuncId} (h : leadF f = some l) : (Tryz.prog.funcs[f]?).elim [] Tryz.prog.leadsTo = l := by
  letI : FX := ⟨fun _ => none⟩
  have ht : TbOk Tryz.prog B0 := tb_ok _ _ _ (by kernel_rfl)
  unfold leadF at h
  cases hf : B0.fn.at_ f with
  | none => rw [hf] at h; cases h
  | some fn =>
    rw [hf] at h
    rw [(ht.fn f fn hf).1]
    injection h
theorem clo_ok : ∀ (n : Nat) (todo : List FuncId) (t : T Unit) (acc r : List FuncId), (∀ g, (t.at_ g).isSome = acc.contains g) → clo n todo t acc = some r → ∀ m, n ≤ m → Tryz.prog.closureVia m todo acc = r
  | 0, _, _, _, _, _, h, _, _ => by cases h
  | n + 1, [], t, acc, r, _, h, m, _ => by
    injection (show some acc.reverse = some r from h) with h
    subst h
    cases m <;> rfl
  | n + 1, f :: todo, t, acc, r, ht, h, m, hm => by
    obtain ⟨k, rfl⟩ : ∃ k, m = k + 1 := ⟨m - 1, by omega⟩
    replace h : (Option.rec (Option.rec none (fun l => clo n (l ++ todo) (t.set f ()) (f :: acc)) (leadF f)) (fun _ => clo n todo t acc) (t.at_ f) : Option (List FuncId)) = some r := h
    have hf := ht f
    unfold Program.closureVia
    cases ha : t.at_ f with
    | some u =>
      rw [ha] at h hf
      rw [← hf]
      exact clo_ok n todo t acc r ht h k (by omega)
    | none =>
      rw [ha] at h hf
      rw [← hf]
      replace h : (Option.rec none (fun l => clo n (l ++ todo) (t.set f ()) (f :: acc)) (leadF f) : Option (List FuncId)) = some r := h
      cases hl : leadF f with
      | none => rw [hl] at h; cases h
      | some l =>
        rw [hl] at h
        rw [leadF_eq hl]
        refine clo_ok n (l ++ todo) (t.set f ()) (f :: acc) r (fun g => ?_) h k (by omega)
        rw [T.at_set, List.contains_cons]
        by_cases hg : f = g
        · subst hg; simp
        · rw [if_neg hg, ht g]
          have : (g == f) = false := beq_eq_false_iff_ne.2 fun e => hg e.symm
          rw [this, Bool.false_or]

open Go.Proofs.YtiibijhldlillaaGreat.Eng
set_option maxRecDepth 100000
def reach4 : List FuncId := [4, 8, 5, 9, 18, 68, 19, 20, 69, 70, 71, 136, 72, 137, 73, 74, 21, 10, 22, 23, 24, 75, 25, 26, 76, 27, 77, 138, 28, 29, 78, 83, 139, 206, 207, 290, 371, 453, 372, 216, 454, 218, 79, 140, 208, 210, 141, 212, 293, 209, 291, 292, 294, 211, 142, 143, 80, 81, 30, 84, 144, 145, 146, 213, 214, 215, 217, 31, 82, 15, 53, 112, 113, 187, 54, 114, 115, 117, 129, 188, 263, 189, 264, 130, 190, 191, 116, 55, 192, 265, 266, 118, 122, 193, 119, 195, 268, 338, 131, 194, 267, 120, 196, 269, 339, 200, 363, 433, 351, 343, 430, 283, 431, 56, 121, 197, 270, 340, 367, 451, 341, 432, 271, 198, 342, 272, 344, 434, 345, 346, 350, 347, 435, 436, 437, 506, 348, 273, 274, 349, 275, 352, 438, 439, 276, 353, 354, 355, 440, 356, 357, 358, 441, 442, 443, 444, 277, 359, 360, 445, 507, 566, 569, 568, 567, 508, 570, 448, 446, 509, 571, 361, 447, 123, 124, 199, 60, 201, 278, 279, 280, 362, 281, 203, 282, 364, 365, 366, 449, 450, 284, 285, 202, 286, 287, 125, 126, 57, 127, 204, 128, 205, 288, 16, 62, 133, 134, 135, 63, 64, 65, 66, 368, 452, 369, 13, 46, 48, 47, 49, 50, 111, 51, 289, 370, 58, 59, 61, 132, 17, 67, 6, 11, 33, 34, 89, 149, 90, 37, 98, 97, 150, 229, 228, 106, 151, 230, 99, 168, 169, 170, 171, 244, 172, 173, 152, 231, 159, 154, 153, 91, 155, 232, 92, 36, 157, 156, 93, 160, 233, 186, 306, 382, 383, 384, 462, 385, 463, 535, 577, 589, 618, 590, 591, 592, 619, 147, 44, 158, 234, 94, 161, 235, 38, 100, 307, 308, 309, 310, 386, 299, 377, 378, 298, 387, 311, 312, 35, 43, 103, 104, 175, 245, 323, 395, 396, 469, 470, 471, 472, 465, 301, 162, 243, 459, 510, 511, 572, 473, 480, 537, 474, 303, 302, 381, 532, 540, 390, 466, 164, 238, 240, 239, 538, 475, 476, 539, 477, 541, 578, 579, 542, 478, 534, 543, 580, 544, 545, 581, 593, 594, 595, 596, 597, 598, 582, 599, 600, 601, 602, 603, 604, 605, 583, 606, 607, 608, 609, 610, 611, 612, 613, 584, 585, 614, 615, 616, 617, 479, 376, 457, 458, 512, 573, 574, 575, 513, 514, 515, 516, 517, 518, 519, 520, 521, 522, 523, 524, 525, 526, 527, 576, 528, 529, 530, 547, 531, 460, 533, 373, 455, 546, 548, 374, 456, 246, 247, 176, 248, 249, 253, 109, 250, 237, 313, 388, 464, 314, 315, 389, 316, 391, 252, 317, 318, 392, 393, 468, 467, 536, 380, 461, 319, 320, 394, 324, 398, 397, 321, 322, 251, 326, 325, 177, 178, 102, 174, 95, 163, 236, 165, 241, 242, 166, 96, 167, 32, 85, 86, 87, 88, 148, 219, 295, 296, 220, 297, 375, 221, 222, 300, 379, 223, 224, 225, 226, 305, 304, 227, 7, 12, 39, 41, 40, 101, 42, 45, 105, 179, 181, 180, 254, 182, 255, 327, 399, 481, 549, 586, 550, 482, 483, 485, 554, 553, 551, 587, 552, 400, 401, 402, 403, 404, 484, 486, 487, 555, 588, 556, 488, 557, 558, 559, 560, 561, 562, 563, 564, 328, 405, 406, 407, 329, 330, 256, 331, 408, 411, 489, 410, 409, 490, 413, 416, 417, 491, 492, 494, 493, 496, 499, 495, 498, 497, 412, 415, 418, 414, 257, 333, 332, 183, 258, 259, 334, 107, 108, 185, 262, 184, 260, 335, 261, 337, 428, 429, 336, 419, 425, 505, 420, 500, 421, 501, 502, 422, 503, 504, 565, 423, 424, 426, 427, 110, 14, 52]
theorem clo4 : clo 2734 [4] .leaf [] = some reach4 := by kernel_rfl
noncomputable def fuelN : Nat := 1 + (Tryz.prog.funcs.toList.map fun g => (Tryz.prog.leadsTo g).length + 1).sum
theorem fuel4 : Nat.ble 2734 fuelN = true := by kernel_rfl
theorem fuelN_eq : 1 + (Tryz.prog.funcs.toList.map fun g => (Tryz.prog.leadsTo g).length + 1).sum = fuelN := by unfold fuelN; rfl
attribute [irreducible] fuelN
theorem none_in (g : Nat) : ((T.leaf : T Unit).at_ g).isSome = ([] : List FuncId).contains g := by
  rw [T.at_leaf]; rfl
theorem closure4a (m : Nat) (h : Nat.ble 2734 m = true) : Tryz.prog.closureVia m [4] [] = reach4 := clo_ok 2734 [4] .leaf [] reach4 none_in clo4 m (Nat.le_of_ble_eq_true h)
theorem closure4 : Tryz.prog.closure 4 = reach4 := by
  unfold Program.closure
  rw [fuelN_eq]
  exact closure4a fuelN fuel4
end Go.Proofs.Tryz
