/-
The functions' abstract texts, by their numbers.
-/
import Derived.Test.YtcckglahpbmakaaGreatAf1
namespace Go.Eng.AF
open Go Go.Eng
def s11 : FT := (.node (.node (.node (.node .nil 5 f5 .nil) 6 f6 .nil) 8 f8 (.node (.node .nil 9 f9 .nil) 10 f10 .nil)) 11 f11 (.node (.node (.node .nil 12 f12 .nil) 13 f13 .nil) 15 f15 (.node .nil 16 f16 .nil)))
def s25 : FT := (.node (.node (.node (.node .nil 19 f19 .nil) 21 f21 .nil) 22 f22 (.node (.node .nil 23 f23 .nil) 24 f24 .nil)) 25 f25 (.node (.node (.node .nil 26 f26 .nil) 27 f27 .nil) 28 f28 (.node .nil 29 f29 .nil)))
def s37 : FT := (.node (.node (.node (.node .nil 31 f31 .nil) 33 f33 .nil) 34 f34 (.node (.node .nil 35 f35 .nil) 36 f36 .nil)) 37 f37 (.node (.node (.node .nil 38 f38 .nil) 39 f39 .nil) 40 f40 (.node .nil 41 f41 .nil)))
def s48 : FT := (.node (.node (.node (.node .nil 43 f43 .nil) 44 f44 .nil) 45 f45 (.node (.node .nil 46 f46 .nil) 47 f47 .nil)) 48 f48 (.node (.node (.node .nil 49 f49 .nil) 50 f50 .nil) 51 f51 (.node .nil 52 f52 .nil)))
def s65 : FT := (.node (.node (.node (.node .nil 55 f55 .nil) 56 f56 .nil) 58 f58 (.node (.node .nil 62 f62 .nil) 63 f63 .nil)) 65 f65 (.node (.node (.node .nil 66 f66 .nil) 67 f67 .nil) 68 f68 (.node .nil 69 f69 .nil)))
def s76 : FT := (.node (.node (.node (.node .nil 71 f71 .nil) 72 f72 .nil) 73 f73 (.node (.node .nil 74 f74 .nil) 75 f75 .nil)) 76 f76 (.node (.node (.node .nil 77 f77 .nil) 78 f78 .nil) 79 f79 (.node .nil 80 f80 .nil)))
def s92 : FT := (.node (.node (.node (.node .nil 84 f84 .nil) 85 f85 .nil) 86 f86 (.node (.node .nil 87 f87 .nil) 89 f89 .nil)) 92 f92 (.node (.node (.node .nil 94 f94 .nil) 95 f95 .nil) 96 f96 (.node .nil 98 f98 .nil)))
def s110 : FT := (.node (.node (.node (.node .nil 100 f100 .nil) 101 f101 .nil) 107 f107 (.node .nil 109 f109 .nil)) 110 f110 (.node (.node (.node .nil 111 f111 .nil) 112 f112 .nil) 113 f113 (.node .nil 114 f114 .nil)))
def s123 : FT := (.node (.node (.node (.node .nil 116 f116 .nil) 117 f117 .nil) 118 f118 (.node (.node .nil 119 f119 .nil) 122 f122 .nil)) 123 f123 (.node (.node (.node .nil 124 f124 .nil) 125 f125 .nil) 126 f126 (.node .nil 127 f127 .nil)))
def s137 : FT := (.node (.node (.node (.node .nil 129 f129 .nil) 130 f130 .nil) 131 f131 (.node (.node .nil 132 f132 .nil) 136 f136 .nil)) 137 f137 (.node (.node (.node .nil 139 f139 .nil) 140 f140 .nil) 141 f141 (.node .nil 142 f142 .nil)))
def s149 : FT := (.node (.node (.node (.node .nil 144 f144 .nil) 145 f145 .nil) 146 f146 (.node (.node .nil 147 f147 .nil) 148 f148 .nil)) 149 f149 (.node (.node (.node .nil 153 f153 .nil) 154 f154 .nil) 155 f155 (.node .nil 156 f156 .nil)))
def s163 : FT := (.node (.node (.node (.node .nil 158 f158 .nil) 159 f159 .nil) 160 f160 (.node .nil 162 f162 .nil)) 163 f163 (.node (.node (.node .nil 164 f164 .nil) 168 f168 .nil) 177 f177 (.node .nil 179 f179 .nil)))
def s193 : FT := (.node (.node (.node (.node .nil 188 f188 .nil) 189 f189 .nil) 190 f190 (.node (.node .nil 191 f191 .nil) 192 f192 .nil)) 193 f193 (.node (.node (.node .nil 195 f195 .nil) 196 f196 .nil) 197 f197 (.node .nil 209 f209 .nil)))
def s230 : FT := (.node (.node (.node (.node .nil 211 f211 .nil) 212 f212 .nil) 224 f224 (.node (.node .nil 228 f228 .nil) 229 f229 .nil)) 230 f230 (.node (.node (.node .nil 231 f231 .nil) 233 f233 .nil) 234 f234 (.node .nil 235 f235 .nil)))
def s252 : FT := (.node (.node (.node (.node .nil 237 f237 .nil) 238 f238 .nil) 243 f243 (.node (.node .nil 250 f250 .nil) 251 f251 .nil)) 252 f252 (.node (.node (.node .nil 253 f253 .nil) 254 f254 .nil) 255 f255 (.node .nil 256 f256 .nil)))
def s267 : FT := (.node (.node (.node (.node .nil 258 f258 .nil) 259 f259 .nil) 265 f265 (.node .nil 266 f266 .nil)) 267 f267 (.node (.node (.node .nil 268 f268 .nil) 269 f269 .nil) 270 f270 (.node .nil 279 f279 .nil)))
def fns : FT :=
  (.node (.node (.node (.node s11 17 f17 s25) 30 f30 (.node s37 42 f42 s48)) 54 f54 (.node (.node s65 70 f70 s76) 81 f81 (.node s92 99 f99 s110))) 115 f115 (.node (.node (.node s123 128 f128 s137) 143 f143 (.node s149 157 f157 s163)) 187 f187 (.node (.node s193 210 f210 s230) 236 f236 (.node s252 257 f257 s267))))
end Go.Eng.AF
