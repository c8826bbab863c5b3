/- The roots of the first primes: a reckoning, one by one. (Printed by mkrootsha.py.) -/
import Derived.Test.YtembegffmodlhaaR
import Derived.Test.YtembegffmodlhaaU
import Derived.Test.YtembegffmodlhaaD
namespace Go.Proofs.Ytembegffmodlhaa

set_option maxHeartbeats 4000000 in
theorem rw0 : ((rootP [0, 8589934592, 0, 0] true 70).x).getD 0 0 % 4294967296 = 1116352408 := by decide +kernel
set_option maxHeartbeats 4000000 in
theorem rw1 : ((rootP [0, 12884901888, 0, 0] true 70).x).getD 0 0 % 4294967296 = 1899447441 := by decide +kernel
set_option maxHeartbeats 4000000 in
theorem rw2 : ((rootP [0, 21474836480, 0, 0] true 70).x).getD 0 0 % 4294967296 = 3049323471 := by decide +kernel
set_option maxHeartbeats 4000000 in
theorem rw3 : ((rootP [0, 30064771072, 0, 0] true 70).x).getD 0 0 % 4294967296 = 3921009573 := by decide +kernel
set_option maxHeartbeats 4000000 in
theorem rw4 : ((rootP [0, 47244640256, 0, 0] true 70).x).getD 0 0 % 4294967296 = 961987163 := by decide +kernel
set_option maxHeartbeats 4000000 in
theorem rw5 : ((rootP [0, 55834574848, 0, 0] true 70).x).getD 0 0 % 4294967296 = 1508970993 := by decide +kernel
set_option maxHeartbeats 4000000 in
theorem rw6 : ((rootP [0, 73014444032, 0, 0] true 70).x).getD 0 0 % 4294967296 = 2453635748 := by decide +kernel
set_option maxHeartbeats 4000000 in
theorem rw7 : ((rootP [0, 81604378624, 0, 0] true 70).x).getD 0 0 % 4294967296 = 2870763221 := by decide +kernel
set_option maxHeartbeats 4000000 in
theorem rw8 : ((rootP [0, 98784247808, 0, 0] true 70).x).getD 0 0 % 4294967296 = 3624381080 := by decide +kernel
set_option maxHeartbeats 4000000 in
theorem rw9 : ((rootP [0, 124554051584, 0, 0] true 70).x).getD 0 0 % 4294967296 = 310598401 := by decide +kernel
set_option maxHeartbeats 4000000 in
theorem rw10 : ((rootP [0, 133143986176, 0, 0] true 70).x).getD 0 0 % 4294967296 = 607225278 := by decide +kernel
set_option maxHeartbeats 4000000 in
theorem rw11 : ((rootP [0, 158913789952, 0, 0] true 70).x).getD 0 0 % 4294967296 = 1426881987 := by decide +kernel
set_option maxHeartbeats 4000000 in
theorem rw12 : ((rootP [0, 176093659136, 0, 0] true 70).x).getD 0 0 % 4294967296 = 1925078388 := by decide +kernel
set_option maxHeartbeats 4000000 in
theorem rw13 : ((rootP [0, 184683593728, 0, 0] true 70).x).getD 0 0 % 4294967296 = 2162078206 := by decide +kernel
set_option maxHeartbeats 4000000 in
theorem rw14 : ((rootP [0, 201863462912, 0, 0] true 70).x).getD 0 0 % 4294967296 = 2614888103 := by decide +kernel
set_option maxHeartbeats 4000000 in
theorem rw15 : ((rootP [0, 227633266688, 0, 0] true 70).x).getD 0 0 % 4294967296 = 3248222580 := by decide +kernel
set_option maxHeartbeats 4000000 in
theorem rw16 : ((rootP [0, 253403070464, 0, 0] true 70).x).getD 0 0 % 4294967296 = 3835390401 := by decide +kernel
set_option maxHeartbeats 4000000 in
theorem rw17 : ((rootP [0, 261993005056, 0, 0] true 70).x).getD 0 0 % 4294967296 = 4022224774 := by decide +kernel
set_option maxHeartbeats 4000000 in
theorem rw18 : ((rootP [0, 287762808832, 0, 0] true 70).x).getD 0 0 % 4294967296 = 264347078 := by decide +kernel
set_option maxHeartbeats 4000000 in
theorem rw19 : ((rootP [0, 304942678016, 0, 0] true 70).x).getD 0 0 % 4294967296 = 604807628 := by decide +kernel
set_option maxHeartbeats 4000000 in
theorem rw20 : ((rootP [0, 313532612608, 0, 0] true 70).x).getD 0 0 % 4294967296 = 770255983 := by decide +kernel
set_option maxHeartbeats 4000000 in
theorem rw21 : ((rootP [0, 339302416384, 0, 0] true 70).x).getD 0 0 % 4294967296 = 1249150122 := by decide +kernel
set_option maxHeartbeats 4000000 in
theorem rw22 : ((rootP [0, 356482285568, 0, 0] true 70).x).getD 0 0 % 4294967296 = 1555081692 := by decide +kernel
set_option maxHeartbeats 4000000 in
theorem rw23 : ((rootP [0, 382252089344, 0, 0] true 70).x).getD 0 0 % 4294967296 = 1996064986 := by decide +kernel
set_option maxHeartbeats 4000000 in
theorem rw24 : ((rootP [0, 416611827712, 0, 0] true 70).x).getD 0 0 % 4294967296 = 2554220882 := by decide +kernel
set_option maxHeartbeats 4000000 in
theorem rw25 : ((rootP [0, 433791696896, 0, 0] true 70).x).getD 0 0 % 4294967296 = 2821834349 := by decide +kernel
set_option maxHeartbeats 4000000 in
theorem rw26 : ((rootP [0, 442381631488, 0, 0] true 70).x).getD 0 0 % 4294967296 = 2952996808 := by decide +kernel
set_option maxHeartbeats 4000000 in
theorem rw27 : ((rootP [0, 459561500672, 0, 0] true 70).x).getD 0 0 % 4294967296 = 3210313671 := by decide +kernel
set_option maxHeartbeats 4000000 in
theorem rw28 : ((rootP [0, 468151435264, 0, 0] true 70).x).getD 0 0 % 4294967296 = 3336571891 := by decide +kernel
set_option maxHeartbeats 4000000 in
theorem rw29 : ((rootP [0, 485331304448, 0, 0] true 70).x).getD 0 0 % 4294967296 = 3584528711 := by decide +kernel
set_option maxHeartbeats 4000000 in
theorem rw30 : ((rootP [0, 545460846592, 0, 0] true 70).x).getD 0 0 % 4294967296 = 113926993 := by decide +kernel
set_option maxHeartbeats 4000000 in
theorem rw31 : ((rootP [0, 562640715776, 0, 0] true 70).x).getD 0 0 % 4294967296 = 338241895 := by decide +kernel
set_option maxHeartbeats 4000000 in
theorem rw32 : ((rootP [0, 588410519552, 0, 0] true 70).x).getD 0 0 % 4294967296 = 666307205 := by decide +kernel
set_option maxHeartbeats 4000000 in
theorem rw33 : ((rootP [0, 597000454144, 0, 0] true 70).x).getD 0 0 % 4294967296 = 773529912 := by decide +kernel
set_option maxHeartbeats 4000000 in
theorem rw34 : ((rootP [0, 639950127104, 0, 0] true 70).x).getD 0 0 % 4294967296 = 1294757372 := by decide +kernel
set_option maxHeartbeats 4000000 in
theorem rw35 : ((rootP [0, 648540061696, 0, 0] true 70).x).getD 0 0 % 4294967296 = 1396182291 := by decide +kernel
set_option maxHeartbeats 4000000 in
theorem rw36 : ((rootP [0, 674309865472, 0, 0] true 70).x).getD 0 0 % 4294967296 = 1695183700 := by decide +kernel
set_option maxHeartbeats 4000000 in
theorem rw37 : ((rootP [0, 700079669248, 0, 0] true 70).x).getD 0 0 % 4294967296 = 1986661051 := by decide +kernel
set_option maxHeartbeats 4000000 in
theorem rw38 : ((rootP [0, 717259538432, 0, 0] true 70).x).getD 0 0 % 4294967296 = 2177026350 := by decide +kernel
set_option maxHeartbeats 4000000 in
theorem rw39 : ((rootP [0, 743029342208, 0, 0] true 70).x).getD 0 0 % 4294967296 = 2456956037 := by decide +kernel
set_option maxHeartbeats 4000000 in
theorem rw40 : ((rootP [0, 768799145984, 0, 0] true 70).x).getD 0 0 % 4294967296 = 2730485921 := by decide +kernel
set_option maxHeartbeats 4000000 in
theorem rw41 : ((rootP [0, 777389080576, 0, 0] true 70).x).getD 0 0 % 4294967296 = 2820302411 := by decide +kernel
set_option maxHeartbeats 4000000 in
theorem rw42 : ((rootP [0, 820338753536, 0, 0] true 70).x).getD 0 0 % 4294967296 = 3259730800 := by decide +kernel
set_option maxHeartbeats 4000000 in
theorem rw43 : ((rootP [0, 828928688128, 0, 0] true 70).x).getD 0 0 % 4294967296 = 3345764771 := by decide +kernel
set_option maxHeartbeats 4000000 in
theorem rw44 : ((rootP [0, 846108557312, 0, 0] true 70).x).getD 0 0 % 4294967296 = 3516065817 := by decide +kernel
set_option maxHeartbeats 4000000 in
theorem rw45 : ((rootP [0, 854698491904, 0, 0] true 70).x).getD 0 0 % 4294967296 = 3600352804 := by decide +kernel
set_option maxHeartbeats 4000000 in
theorem rw46 : ((rootP [0, 906238099456, 0, 0] true 70).x).getD 0 0 % 4294967296 = 4094571909 := by decide +kernel
set_option maxHeartbeats 4000000 in
theorem rw47 : ((rootP [0, 957777707008, 0, 0] true 70).x).getD 0 0 % 4294967296 = 275423344 := by decide +kernel
set_option maxHeartbeats 4000000 in
theorem rw48 : ((rootP [0, 974957576192, 0, 0] true 70).x).getD 0 0 % 4294967296 = 430227734 := by decide +kernel
set_option maxHeartbeats 4000000 in
theorem rw49 : ((rootP [0, 983547510784, 0, 0] true 70).x).getD 0 0 % 4294967296 = 506948616 := by decide +kernel
set_option maxHeartbeats 4000000 in
theorem rw50 : ((rootP [0, 1000727379968, 0, 0] true 70).x).getD 0 0 % 4294967296 = 659060556 := by decide +kernel
set_option maxHeartbeats 4000000 in
theorem rw51 : ((rootP [0, 1026497183744, 0, 0] true 70).x).getD 0 0 % 4294967296 = 883997877 := by decide +kernel
set_option maxHeartbeats 4000000 in
theorem rw52 : ((rootP [0, 1035087118336, 0, 0] true 70).x).getD 0 0 % 4294967296 = 958139571 := by decide +kernel
set_option maxHeartbeats 4000000 in
theorem rw53 : ((rootP [0, 1078036791296, 0, 0] true 70).x).getD 0 0 % 4294967296 = 1322822218 := by decide +kernel
set_option maxHeartbeats 4000000 in
theorem rw54 : ((rootP [0, 1103806595072, 0, 0] true 70).x).getD 0 0 % 4294967296 = 1537002063 := by decide +kernel
set_option maxHeartbeats 4000000 in
theorem rw55 : ((rootP [0, 1129576398848, 0, 0] true 70).x).getD 0 0 % 4294967296 = 1747873779 := by decide +kernel
set_option maxHeartbeats 4000000 in
theorem rw56 : ((rootP [0, 1155346202624, 0, 0] true 70).x).getD 0 0 % 4294967296 = 1955562222 := by decide +kernel
set_option maxHeartbeats 4000000 in
theorem rw57 : ((rootP [0, 1163936137216, 0, 0] true 70).x).getD 0 0 % 4294967296 = 2024104815 := by decide +kernel
set_option maxHeartbeats 4000000 in
theorem rw58 : ((rootP [0, 1189705940992, 0, 0] true 70).x).getD 0 0 % 4294967296 = 2227730452 := by decide +kernel
set_option maxHeartbeats 4000000 in
theorem rw59 : ((rootP [0, 1206885810176, 0, 0] true 70).x).getD 0 0 % 4294967296 = 2361852424 := by decide +kernel
set_option maxHeartbeats 4000000 in
theorem rw60 : ((rootP [0, 1215475744768, 0, 0] true 70).x).getD 0 0 % 4294967296 = 2428436474 := by decide +kernel
set_option maxHeartbeats 4000000 in
theorem rw61 : ((rootP [0, 1258425417728, 0, 0] true 70).x).getD 0 0 % 4294967296 = 2756734187 := by decide +kernel
set_option maxHeartbeats 4000000 in
theorem rw62 : ((rootP [0, 1318554959872, 0, 0] true 70).x).getD 0 0 % 4294967296 = 3204031479 := by decide +kernel
set_option maxHeartbeats 4000000 in
theorem rw63 : ((rootP [0, 1335734829056, 0, 0] true 70).x).getD 0 0 % 4294967296 = 3329325298 := by decide +kernel
set_option maxHeartbeats 4000000 in
theorem rf0 : ((rootP [0, 2, 0, 0] false 70).x).getD 0 0 % 4294967296 = 1779033703 := by decide +kernel
set_option maxHeartbeats 4000000 in
theorem rf1 : ((rootP [0, 3, 0, 0] false 70).x).getD 0 0 % 4294967296 = 3144134277 := by decide +kernel
set_option maxHeartbeats 4000000 in
theorem rf2 : ((rootP [0, 5, 0, 0] false 70).x).getD 0 0 % 4294967296 = 1013904242 := by decide +kernel
set_option maxHeartbeats 4000000 in
theorem rf3 : ((rootP [0, 7, 0, 0] false 70).x).getD 0 0 % 4294967296 = 2773480762 := by decide +kernel
set_option maxHeartbeats 4000000 in
theorem rf4 : ((rootP [0, 11, 0, 0] false 70).x).getD 0 0 % 4294967296 = 1359893119 := by decide +kernel
set_option maxHeartbeats 4000000 in
theorem rf5 : ((rootP [0, 13, 0, 0] false 70).x).getD 0 0 % 4294967296 = 2600822924 := by decide +kernel
set_option maxHeartbeats 4000000 in
theorem rf6 : ((rootP [0, 17, 0, 0] false 70).x).getD 0 0 % 4294967296 = 528734635 := by decide +kernel
set_option maxHeartbeats 4000000 in
theorem rf7 : ((rootP [0, 19, 0, 0] false 70).x).getD 0 0 % 4294967296 = 1541459225 := by decide +kernel
theorem prL_lit : prL 408 = [2, 3, 5, 7, 11, 13, 17, 19, 23, 29, 31, 37, 41, 43, 47, 53, 59, 61, 67, 71, 73, 79, 83, 89, 97, 101, 103, 107, 109, 113, 127, 131, 137, 139, 149, 151, 157, 163, 167, 173, 179, 181, 191, 193, 197, 199, 211, 223, 227, 229, 233, 239, 241, 251, 257, 263, 269, 271, 277, 281, 283, 293, 307, 311, 313, 317, 331, 337, 347, 349, 353, 359, 367, 373, 379, 383, 389, 397, 401, 409] := by decide +kernel
theorem roots_cube : ∀ i, i < 64 → ((rootP [0, (prL 408).getD i 0 * 4294967296, 0, 0] true 70).x).getD 0 0 % 4294967296 = constsL.getD i 0 := by
  intro i hi
  rw [prL_lit]
  match i, hi with
  | 0, _ => exact rw0
  | 1, _ => exact rw1
  | 2, _ => exact rw2
  | 3, _ => exact rw3
  | 4, _ => exact rw4
  | 5, _ => exact rw5
  | 6, _ => exact rw6
  | 7, _ => exact rw7
  | 8, _ => exact rw8
  | 9, _ => exact rw9
  | 10, _ => exact rw10
  | 11, _ => exact rw11
  | 12, _ => exact rw12
  | 13, _ => exact rw13
  | 14, _ => exact rw14
  | 15, _ => exact rw15
  | 16, _ => exact rw16
  | 17, _ => exact rw17
  | 18, _ => exact rw18
  | 19, _ => exact rw19
  | 20, _ => exact rw20
  | 21, _ => exact rw21
  | 22, _ => exact rw22
  | 23, _ => exact rw23
  | 24, _ => exact rw24
  | 25, _ => exact rw25
  | 26, _ => exact rw26
  | 27, _ => exact rw27
  | 28, _ => exact rw28
  | 29, _ => exact rw29
  | 30, _ => exact rw30
  | 31, _ => exact rw31
  | 32, _ => exact rw32
  | 33, _ => exact rw33
  | 34, _ => exact rw34
  | 35, _ => exact rw35
  | 36, _ => exact rw36
  | 37, _ => exact rw37
  | 38, _ => exact rw38
  | 39, _ => exact rw39
  | 40, _ => exact rw40
  | 41, _ => exact rw41
  | 42, _ => exact rw42
  | 43, _ => exact rw43
  | 44, _ => exact rw44
  | 45, _ => exact rw45
  | 46, _ => exact rw46
  | 47, _ => exact rw47
  | 48, _ => exact rw48
  | 49, _ => exact rw49
  | 50, _ => exact rw50
  | 51, _ => exact rw51
  | 52, _ => exact rw52
  | 53, _ => exact rw53
  | 54, _ => exact rw54
  | 55, _ => exact rw55
  | 56, _ => exact rw56
  | 57, _ => exact rw57
  | 58, _ => exact rw58
  | 59, _ => exact rw59
  | 60, _ => exact rw60
  | 61, _ => exact rw61
  | 62, _ => exact rw62
  | 63, _ => exact rw63
  | k + 64, h => exact absurd h (by omega)
theorem roots_first : ∀ i, i < 8 → ((rootP [0, (prL 408).getD i 0, 0, 0] false 70).x).getD 0 0 % 4294967296 = firstL.getD i 0 := by
  intro i hi
  rw [prL_lit]
  match i, hi with
  | 0, _ => exact rf0
  | 1, _ => exact rf1
  | 2, _ => exact rf2
  | 3, _ => exact rf3
  | 4, _ => exact rf4
  | 5, _ => exact rf5
  | 6, _ => exact rf6
  | 7, _ => exact rf7
  | k + 8, h => exact absurd h (by omega)

end Go.Proofs.Ytembegffmodlhaa
