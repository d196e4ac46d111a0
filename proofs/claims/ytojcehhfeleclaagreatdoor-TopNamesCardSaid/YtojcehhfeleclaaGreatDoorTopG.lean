/-
  Which functions TopNames comes to, by a quicker way than the form's own. No condition.
-/
import Derived.Test.YtojcehhfeleclaaGreatDoorRows
import Derived.Test.YtojcehhfeleclaaGreatDoorEv1
import GoSem.ClaimFn
namespace Go.Proofs.YtojcehhfeleclaaGreatDoor
open Go
/-- the functions that are come to, with those seen as bits -/
noncomputable def fastVia (P : Program) (n : Nat) : List FuncId → List FuncId → Nat → Option (List FuncId) :=
  Nat.rec (motive := fun _ => List FuncId → List FuncId → Nat → Option (List FuncId)) (fun _ _ _ => none) (fun _ ih todo seen bits => match todo with
    | [] => some seen.reverse
    | f :: todo => match Nat.beq (Nat.land (Nat.shiftRight bits f) 1) 1 with
      | true => ih todo seen bits
      | false => Ev.frc (Nat.lor bits (Nat.shiftLeft 1 f)) fun b => ih ((P.funcs[f]?).elim [] P.leadsTo ++ todo) (f :: seen) b) n
theorem bit_eq (bits f : Nat) : Nat.beq (Nat.land (Nat.shiftRight bits f) 1) 1 = Nat.testBit bits f := by
  have h1 : Nat.testBit bits f = ((bits >>> f) % 2 == 1) := by rw [Nat.testBit_eq_decide_div_mod_eq, Nat.shiftRight_eq_div_pow]; rfl
  rw [h1]
  have h2 : Nat.land (Nat.shiftRight bits f) 1 = (bits >>> f) % 2 := Nat.and_one_is_mod _
  rw [h2, Bool.eq_iff_iff]
  simp
theorem fastVia_ok {P : Program} : ∀ {n : Nat} {todo seen : List FuncId} {bits : Nat} {L : List FuncId}, fastVia P n todo seen bits = some L → (∀ g : Nat, Nat.testBit bits g = seen.contains g) → ∀ m, n ≤ m → P.closureVia m todo seen = L
  | 0, _, _, _, _, h, _, _, _ => by cases h
  | n + 1, [], seen, bits, L, h, _, m, hm => by
    have h : some seen.reverse = some L := h
    injection h with h
    cases m with
    | zero => omega
    | succ m => simp only [Program.closureVia]; exact h
  | n + 1, f :: todo, seen, bits, L, h, hb, m, hm => by
    have h : (match Nat.beq (Nat.land (Nat.shiftRight bits f) 1) 1 with
      | true => fastVia P n todo seen bits
      | false => Ev.frc (Nat.lor bits (Nat.shiftLeft 1 f)) fun b => fastVia P n ((P.funcs[f]?).elim [] P.leadsTo ++ todo) (f :: seen) b) = some L := h
    rw [bit_eq, hb f] at h
    cases m with
    | zero => omega
    | succ m =>
      simp only [Program.closureVia]
      split at h
      · rename_i hc
        rw [if_pos hc]
        exact fastVia_ok h hb m (by omega)
      · rename_i hc
        rw [if_neg (by rw [hc]; simp), Ev.frc_eq] at *
        refine fastVia_ok h (fun g => ?_) m (by omega)
        have e : Nat.testBit (Nat.lor bits (Nat.shiftLeft 1 f)) g = (Nat.testBit bits g || Nat.testBit (1 <<< f) g) := Nat.testBit_or _ _ _
        rw [e, hb g, List.contains_cons, Nat.shiftLeft_eq, Nat.one_mul, Nat.testBit_two_pow]
        rw [Bool.or_comm]
        congr 1
        by_cases hg : f = g
        · subst hg; simp
        · have : ¬ g = f := fun e => hg e.symm
          simp [hg, this]
def clo : List FuncId := [4, 12, 7, 19, 48, 101, 102, 49, 103, 104, 176, 175, 245, 246, 178, 105, 177, 179, 247, 355, 469, 248, 356, 357, 106, 20, 50, 24, 67, 68, 69, 35, 70, 131, 202, 71, 72, 73, 74, 133, 132, 203, 136, 204, 277, 75, 134, 107, 180, 108, 182, 181, 249, 250, 358, 251, 359, 183, 252, 253, 254, 255, 360, 244, 354, 51, 109, 111, 185, 184, 256, 257, 361, 110, 116, 112, 113, 186, 258, 362, 363, 287, 470, 471, 364, 365, 472, 473, 566, 567, 114, 115, 52, 117, 53, 118, 187, 260, 259, 366, 119, 21, 54, 120, 57, 56, 124, 55, 121, 188, 261, 122, 189, 262, 367, 368, 474, 263, 369, 264, 370, 475, 568, 476, 477, 478, 569, 123, 190, 265, 371, 192, 267, 374, 373, 375, 377, 480, 376, 379, 482, 571, 481, 570, 612, 613, 378, 268, 380, 483, 572, 614, 615, 381, 484, 573, 485, 486, 574, 487, 191, 266, 372, 479, 58, 60, 59, 125, 193, 269, 126, 22, 62, 63, 61, 8, 25, 26, 27, 28, 29, 30, 76, 31, 77, 78, 135, 137, 32, 33, 34, 79, 80, 10, 36, 42, 84, 86, 144, 83, 147, 221, 305, 306, 307, 407, 409, 308, 408, 309, 310, 410, 511, 413, 411, 412, 222, 311, 414, 513, 512, 514, 312, 415, 515, 424, 425, 516, 581, 618, 619, 416, 517, 518, 220, 313, 417, 519, 582, 314, 418, 219, 145, 315, 419, 520, 165, 242, 420, 148, 85, 142, 210, 211, 290, 291, 393, 394, 292, 395, 293, 396, 397, 499, 500, 399, 398, 295, 401, 212, 228, 218, 304, 403, 299, 404, 323, 206, 286, 439, 529, 530, 586, 531, 389, 390, 532, 587, 588, 623, 533, 534, 535, 536, 324, 209, 289, 207, 213, 294, 400, 214, 296, 297, 402, 215, 298, 216, 300, 301, 328, 443, 444, 445, 302, 405, 501, 502, 578, 503, 504, 579, 580, 617, 505, 506, 507, 508, 141, 208, 288, 143, 217, 303, 406, 509, 510, 87, 88, 146, 149, 223, 316, 317, 421, 521, 422, 423, 224, 318, 426, 428, 522, 583, 620, 633, 621, 427, 429, 319, 430, 523, 524, 584, 525, 585, 622, 634, 635, 639, 640, 641, 89, 40, 81, 138, 139, 205, 278, 279, 388, 280, 281, 391, 392, 498, 282, 283, 284, 285, 140, 82, 151, 227, 320, 431, 348, 457, 456, 552, 551, 604, 553, 554, 555, 527, 556, 557, 605, 606, 607, 458, 459, 432, 321, 433, 526, 173, 322, 435, 436, 437, 528, 438, 201, 170, 434, 150, 226, 225, 152, 229, 90, 153, 41, 154, 231, 331, 332, 334, 230, 325, 440, 326, 196, 272, 327, 441, 537, 589, 590, 624, 591, 592, 625, 626, 636, 593, 594, 595, 596, 442, 329, 446, 449, 540, 600, 627, 541, 538, 597, 599, 598, 539, 330, 447, 448, 232, 333, 233, 234, 43, 91, 156, 155, 235, 335, 336, 450, 337, 338, 451, 452, 542, 339, 340, 341, 342, 92, 93, 157, 95, 38, 159, 167, 158, 160, 172, 161, 236, 237, 343, 94, 39, 96, 97, 162, 238, 344, 453, 346, 455, 543, 544, 601, 545, 546, 602, 603, 628, 547, 548, 549, 550, 454, 345, 347, 239, 163, 240, 349, 350, 460, 462, 461, 558, 463, 608, 241, 351, 352, 464, 560, 609, 629, 630, 637, 559, 565, 465, 562, 561, 610, 353, 129, 200, 275, 387, 490, 491, 575, 492, 493, 576, 577, 616, 494, 495, 496, 497, 276, 466, 564, 563, 611, 631, 632, 638, 642, 467, 468, 164, 44, 98, 166, 169, 168, 45, 99, 171, 243, 9, 37, 64, 23, 65, 128, 198, 199, 127, 194, 195, 270, 383, 382, 130, 271, 384, 489, 488, 386, 385, 197, 274, 273, 66]
theorem clo_run : fastVia Tryz.prog 1300 [4] [] 0 = some clo := by kernel_rfl
noncomputable def leadN (k : Nat) : Nat := (((Tryz.prog.funcs.toList.drop k).take 100).map fun g => (Tryz.prog.leadsTo g).length + 1).sum
theorem lead0 : Nat.ble 200 (leadN 0) = true := by kernel_rfl
theorem lead1 : Nat.ble 200 (leadN 100) = true := by kernel_rfl
theorem lead2 : Nat.ble 200 (leadN 200) = true := by kernel_rfl
theorem lead3 : Nat.ble 200 (leadN 300) = true := by kernel_rfl
theorem lead4 : Nat.ble 200 (leadN 400) = true := by kernel_rfl
theorem lead5 : Nat.ble 200 (leadN 500) = true := by kernel_rfl
theorem lead6 : Nat.ble 100 (leadN 600) = true := by kernel_rfl
theorem sum_parts (f : Func → Nat) (l : List Func) (k : Nat) : (l.map f).sum = ((l.take k).map f).sum + ((l.drop k).map f).sum := by
  rw [← List.sum_append, ← List.map_append, List.take_append_drop]
theorem lead_sum : 1300 ≤ (Tryz.prog.funcs.toList.map fun g => (Tryz.prog.leadsTo g).length + 1).sum := by
  have h0 := Nat.le_of_ble_eq_true lead0
  have h1 := Nat.le_of_ble_eq_true lead1
  have h2 := Nat.le_of_ble_eq_true lead2
  have h3 := Nat.le_of_ble_eq_true lead3
  have h4 := Nat.le_of_ble_eq_true lead4
  have h5 := Nat.le_of_ble_eq_true lead5
  have h6 := Nat.le_of_ble_eq_true lead6
  unfold leadN at h0 h1 h2 h3 h4 h5 h6
  generalize (fun g => (Tryz.prog.leadsTo g).length + 1) = q at *
  generalize Tryz.prog.funcs.toList = l at *
  have e0 := sum_parts q l 100
  have e1 := sum_parts q (l.drop 100) 100
  have e2 := sum_parts q (l.drop 200) 100
  have e3 := sum_parts q (l.drop 300) 100
  have e4 := sum_parts q (l.drop 400) 100
  have e5 := sum_parts q (l.drop 500) 100
  have e6 := sum_parts q (l.drop 600) 100
  simp only [List.drop_drop, Nat.reduceAdd, List.drop_zero] at e0 e1 e2 e3 e4 e5 e6 h0
  omega
theorem clo_eq : Tryz.prog.closure 4 = clo := by
  unfold Program.closure
  refine fastVia_ok clo_run (fun g => by simp) _ ?_
  have := lead_sum
  omega
end Go.Proofs.YtojcehhfeleclaaGreatDoor
